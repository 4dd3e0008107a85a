/- rule.Valid. Condition: the rule lies in memory, its strings fit. typing.Check: the first error of a rule for a catalog. Condition: the catalog and the rule lie in memory. -/
import Derived.Defers
import Derived.Recover
import Derived.Test.YtcpakaiblelmlaaGreatDoorU05
import Derived.Test.YtcpakaiblelmlaaGreatDoorU10
import Derived.Test.YtcpakaiblelmlaaGreatDoorU11
import Derived.Test.YtcpakaiblelmlaaGreatDoorU12
import Derived.Test.YtcpakaiblelmlaaGreatDoorU15
import Derived.Test.YtcpakaiblelmlaaGreatDoorU16
namespace Go.Proofs.YtcpakaiblelmlaaGreatDoor
open Go Go.RowKit
theorem node_any (e : Ex) (A : Option Addr) (c : Nat) (w : World) (hlen : e.kids.length ≤ 1000000) (hnm : e.name.size ≤ maxLen) (hvl : e.value.size ≤ maxLen) :
    Calls Tryz.prog 30 #[.agg #[.int .i64 e.op, .string e.name, .string e.value, .int .i64 e.n, .int .i64 e.extra, .slice A e.kids.length c]] w fun r w' => r = .returned (.bool (nodeB e)) ∧ Below w.heap.size w w' := by
  obtain ⟨op, name, value, n, extra, ks⟩ := e
  show Calls Tryz.prog 30 #[.agg #[.int .i64 op, .string name, .string value, .int .i64 n, .int .i64 extra, .slice A ks.length c]] w fun r w' => r = .returned (.bool (decide (NodeOk op name value n extra ks.length))) ∧ Below w.heap.size w w'
  by_cases h : 1 ≤ op ∧ op ≤ 12
  · obtain rfl | rfl | rfl | rfl | rfl | rfl | rfl | rfl | rfl | rfl | rfl | rfl : op = 1 ∨ op = 2 ∨ op = 3 ∨ op = 4 ∨ op = 5 ∨ op = 6 ∨ op = 7 ∨ op = 8 ∨ op = 9 ∨ op = 10 ∨ op = 11 ∨ op = 12 := by omega
    · exact node_1 name value n extra A ks.length c w hlen
    · exact node_2 name value n extra A ks.length c w hlen hnm hvl
    · exact node_3 name value n extra A ks.length c w hlen hnm hvl
    · exact node_4 name value n extra A ks.length c w hlen hnm hvl
    · exact node_5 name value n extra A ks.length c w hlen hnm hvl
    · exact node_6 name value n extra A ks.length c w hlen hnm hvl
    · exact node_7 name value n extra A ks.length c w hlen hnm hvl
    · exact node_8 name value n extra A ks.length c w hlen hnm hvl
    · exact node_9 name value n extra A ks.length c w hlen hnm hvl
    · exact node_10 name value n extra A ks.length c w hlen hnm hvl
    · exact node_11 name value n extra A ks.length c w hlen hnm hvl
    · exact node_12 name value n extra A ks.length c w hlen hnm hvl
  · exact node_0 op name value n extra A ks.length c w hlen h
def ndF (_ : Nat) (e : Ex) : Bool := nodeB e
def ndS (n : Nat) (_ : Ex) : Nat := n
mutual
theorem nd_E (n : Nat) : ∀ e : Ex, wkE ndF ndS n e = (allB e, n)
  | .mk o a v m x ks => by
    rw [wkE_eq, allB]
    show (if nodeB (.mk o a v m x ks) = true then wkL ndF ndS n ks else (false, n)) = _
    rw [nd_L n ks]
    cases nodeB (.mk o a v m x ks) <;> rfl
theorem nd_L (n : Nat) : ∀ ks : List Ex, wkL ndF ndS n ks = (allsB ks, n)
  | [] => by rw [wkL_nil, allsB]
  | k :: ks => by
    rw [wkL_cons, nd_E n k, allsB]
    show (if allB k = true then wkL ndF ndS n ks else (false, n)) = _
    rw [nd_L n ks]
    cases allB k <;> rfl
end
def NdQ (e : Ex) : Prop := FitE e ∧ cnt e ≤ 1000000
theorem FitE.kid {e : Ex} (h : FitE e) : ∀ k ∈ e.kids, FitE k := by
  cases h with | mk _ _ _ _ _ _ _ hk => exact hk
theorem FitE.strs {e : Ex} (h : FitE e) : e.name.size ≤ maxLen ∧ e.value.size ≤ maxLen := by
  cases h with | mk _ h1 h2 _ _ _ _ _ => exact ⟨h1, h2⟩
theorem node_vis : Vis NdQ 30 #[] none (fun _ _ => True) (fun _ => True) ndF ndS where
  kids e h k hk := ⟨h.1.kid k hk, by have := cnt_kid hk; have := h.2; omega⟩
  enters := enters_of Tryz.func30 (by kernel_rfl) rfl
  small _ _ _ _ h := by cases h
  later _ _ _ _ _ := trivial
  keep _ _ _ _ := trivial
  call n e kv W hq _ _ hl := by
    obtain ⟨A, c, rfl, _⟩ := hl.slice
    have hk : e.kids.length ≤ 1000000 := by
      have := len_cnts e.kids
      have := cnt_eq e
      have := hq.2
      omega
    refine (node_any e A c W hk hq.1.strs.1 hq.1.strs.2).mono ?_
    rintro r W' ⟨rfl, hb⟩
    exact ⟨rfl, trivial, grown_of_below hb⟩
theorem grown_none {u v : World} (h : u.grownBy v none) : Below u.heap.size u v := (Below.refl u.heap.size u).grown h (Nat.le_refl _) (fun k e => by cases e)
/-- walk with node. -/
theorem walkNode_any (e : Ex) (kv : Value) (w : World) (hc : cnt e ≤ 1000000) (hf : FitE e) (hl : Lay w kv e.kids) :
    Calls Tryz.prog 29 #[.agg #[.int .i64 e.op, .string e.name, .string e.value, .int .i64 e.n, .int .i64 e.extra, kv], .func (.func 30) #[] #[]] w fun r W' => r = .returned (.bool (allB e)) ∧ Below w.heap.size w W' := by
  refine (walk_rec node_vis (cnt e) e 0 kv w (Nat.le_refl _) hc ⟨hf, hc⟩ trivial trivial hl).mono ?_
  rintro r W' ⟨rfl, _, hg⟩
  rw [nd_E]
  exact ⟨rfl, grown_none hg⟩
set_option maxRecDepth 100000 in
set_option maxHeartbeats 8000000 in
theorem valid_any (r : Ru) (kv : Value) (w : World) (hc : cnt r.cond ≤ 1000000) (hf : FitE r.cond) (hn : r.name.size ≤ maxLen) (hk : r.kind.size ≤ maxLen) (hl : Lay w kv r.cond.kids) :
    Calls Tryz.prog 11 #[.agg (ruA r kv)] w fun e w' => e = .returned (.bool (ruleB r)) ∧ Below w.heap.size w w' := by
  have hb : Below w.heap.size w (w.alloc (.cells (ruA r kv) 29)) := (Below.refl _ _).alloc (Nat.le_refl _) _
  have HB := Lib.hid hb
  have HX := Lib.hid (Has.new w 29 (ruA r kv))
  have HL := Lib.hid (hl.later hb)
  have HN := Lib.hid (fun W => name_any r.name W hn)
  have HK := Lib.hid (fun W => name_any r.kind W hk)
  have HS := Lib.hid (fun W h => size_any r.cond kv W hc h)
  have HW := Lib.hid (fun W h => walkNode_any r.cond kv W hc hf h)
  have HE := Lib.hid (show ruleB r = (nameB r.name && (nameB r.kind && (decide (cnt r.cond ≤ 60) && allB r.cond))) from rfl)
  have hle : decide (((min (cnt r.cond) 61 : Nat) : Int) ≤ 60) = decide (cnt r.cond ≤ 60) := decide_eq_decide.2 (by omega)
  generalize decide (cnt r.cond ≤ 60) = bs at *
  generalize min (cnt r.cond) 61 = z at *
  generalize allB r.cond = ba at *
  generalize nameB r.name = bn at *
  generalize nameB r.kind = bk at *
  obtain ⟨A, c, rfl, _⟩ := hl.slice
  dsimp only [ruA] at *
  clear hb hl hn hk hc hf
  cases bn with
  | false =>
    go_enter Tryz.func11, Tryz.ntmps11
    go_wp2_with (go_at_call 27; refine (HN.out _).mono ?_; rintro e w2 ⟨rfl, hb2⟩; have HW2 := Lib.hid (HB.out.trans (hb2.mono HB.out.size)); obtain ⟨d, f⟩ := (HX.out.below hb2 HX.out.lt).facts; clear hb2)
    go_ret
    exact ⟨ret_bool HE.out.symm, HW2.out⟩
  | true =>
    cases bk with
    | false =>
      go_enter Tryz.func11, Tryz.ntmps11
      go_wp2_with (go_at_call 27; first
        | ((with_reducible show Calls _ _ #[.string r.name] _ _); refine (HN.out _).mono ?_; rintro e w2 ⟨rfl, hb2⟩; have HW2 := Lib.hid (HB.out.trans (hb2.mono HB.out.size)); have HX2 := Lib.hid (HX.out.below hb2 HX.out.lt); clear HN; obtain ⟨d, f⟩ := HX2.out.facts; clear hb2)
        | (refine (HK.out _).mono ?_; rintro e w3 ⟨rfl, hb3⟩; have HW3 := Lib.hid (HW2.out.trans (hb3.mono HW2.out.size)); obtain ⟨d3, f3⟩ := (HX2.out.below hb3 HX2.out.lt).facts; clear hb3))
      go_ret
      exact ⟨ret_bool HE.out.symm, HW3.out⟩
    | true =>
      cases bs with
      | false =>
        go_enter Tryz.func11, Tryz.ntmps11
        go_wp2_with (first
          | (go_at_call 27; first
            | ((with_reducible show Calls _ _ #[.string r.name] _ _); refine (HN.out _).mono ?_; rintro e w2 ⟨rfl, hb2⟩; have HW2 := Lib.hid (HB.out.trans (hb2.mono HB.out.size)); have HX2 := Lib.hid (HX.out.below hb2 HX.out.lt); have HL2 := Lib.hid (HL.out.later hb2); clear HN; obtain ⟨d, f⟩ := HX2.out.facts; clear hb2)
            | (refine (HK.out _).mono ?_; rintro e w3 ⟨rfl, hb3⟩; have HW3 := Lib.hid (HW2.out.trans (hb3.mono HW2.out.size)); have HX3 := Lib.hid (HX2.out.below hb3 HX2.out.lt); have HL3 := Lib.hid (HL2.out.later hb3); obtain ⟨d3, f3⟩ := HX3.out.facts; clear hb3))
          | (go_at_call 28; refine (HS.out _ HL3.out).mono ?_; rintro e w4 ⟨rfl, hb4⟩; have HW4 := Lib.hid (HW3.out.trans (hb4.mono HW3.out.size)); obtain ⟨d4, f4⟩ := (HX3.out.below hb4 HX3.out.lt).facts; clear hb4))
        go_ret
        exact ⟨ret_bool HE.out.symm, HW4.out⟩
      | true =>
        go_enter Tryz.func11, Tryz.ntmps11
        go_wp2_with (first
          | (go_at_call 27; first
            | ((with_reducible show Calls _ _ #[.string r.name] _ _); refine (HN.out _).mono ?_; rintro e w2 ⟨rfl, hb2⟩; have HW2 := Lib.hid (HB.out.trans (hb2.mono HB.out.size)); have HX2 := Lib.hid (HX.out.below hb2 HX.out.lt); have HL2 := Lib.hid (HL.out.later hb2); clear HN; obtain ⟨d, f⟩ := HX2.out.facts; clear hb2)
            | (refine (HK.out _).mono ?_; rintro e w3 ⟨rfl, hb3⟩; have HW3 := Lib.hid (HW2.out.trans (hb3.mono HW2.out.size)); have HX3 := Lib.hid (HX2.out.below hb3 HX2.out.lt); have HL3 := Lib.hid (HL2.out.later hb3); obtain ⟨d3, f3⟩ := HX3.out.facts; clear hb3))
          | (go_at_call 28; refine (HS.out _ HL3.out).mono ?_; rintro e w4 ⟨rfl, hb4⟩; have HW4 := Lib.hid (HW3.out.trans (hb4.mono HW3.out.size)); have HX4 := Lib.hid (HX3.out.below hb4 HX3.out.lt); have HL4 := Lib.hid (HL3.out.later hb4); obtain ⟨d4, f4⟩ := HX4.out.facts; clear hb4)
          | (go_at_call 29; refine (HW.out _ HL4.out).mono ?_; rintro e w5 ⟨rfl, hb5⟩; have HW5 := Lib.hid (HW4.out.trans (hb5.mono HW4.out.size)); clear hb5))
        go_ret
        exact ⟨ret_bool HE.out.symm, HW5.out⟩
end Go.Proofs.YtcpakaiblelmlaaGreatDoor
namespace Go.Proofs.YtcpakaiblelmlaaGreatDoor
open Go Go.RowKit
set_option maxRecDepth 100000 in
set_option maxHeartbeats 8000000 in
theorem tcatch_idle (a : Nat) (w : World) :
    CallsD Tryz.prog 25 #[.pointer (some ⟨a, 0, none⟩)] .returning w fun e u' w' => e = .returned (.tuple #[]) ∧ u' = .returning ∧ w' = w := by
  refine callsD_of_wpS Tryz.func25 rfl fun c₀ cs hu => ?_
  apply wpS_seq
  apply wpS_region
  simp [wpOpsS, go_sem, recoverD, hu, Tryz.ntmps25, Exit.thenS]
  refine wpS_of_wp ?_
  go_wp2_with fail
  exact ⟨rfl, .returning, by rw [← hu], .tuple #[], by simp [results, Tryz.results25, go_sem], rfl, rfl, rfl⟩
set_option maxRecDepth 100000 in
set_option maxHeartbeats 8000000 in
theorem tcatch_panic (a : Nat) (er : Int) (older : List PanicEntry) (x : Value) (w : World) (ha : Has w a 32 #[x]) :
    CallsD Tryz.prog 25 #[.pointer (some ⟨a, 0, none⟩)] (.panicking ({ v := .iface 32 (.int .i64 er), recovered := false } :: older)) w fun e u' w' =>
      e = .returned (.tuple #[]) ∧ u' = .panicking ({ v := .iface 32 (.int .i64 er), recovered := true } :: older) ∧ w' = w.setCell ⟨a, 0, none⟩ (.int .i64 er) := by
  obtain ⟨c1, f1⟩ := ha.facts
  have hta : (Instr.typeAssert (.iface 32 (.int .i64 er)) 20 32 true).run Tryz.prog w = .ok (.tuple #[.int .i64 er, .bool true]) w := by kernel_rfl
  refine callsD_of_wpS Tryz.func25 rfl fun c₀ cs hu => ?_
  apply wpS_seq
  apply wpS_region
  simp [wpOpsS, go_sem, recoverD, hu, Tryz.ntmps25, Exit.thenS]
  refine wpS_of_wp ?_
  simp only [Array.replicate_succ, Array.replicate_zero, List.push_toArray, List.nil_append, List.cons_append, Array.setIfInBounds]
  go_wp2_with fail
  exact ⟨rfl, _, rfl, .tuple #[], by simp [results, Tryz.results25, go_sem], rfl, rfl, rfl⟩
/-- The arguments' boxes, the result's cell. -/
structure Bx (w : World) (cv : Value) (ra : Array Value) (e : Int) (W : World) : Prop where
  c : Has W w.heap.size 24 #[cv]
  r : Has W (w.heap.size + 1) 29 ra
  e : Has W (w.heap.size + 2) 32 #[.int .i64 e]
  b : Below w.heap.size w W
section
variable {w W W' : World} {cv : Value} {ra : Array Value} {e : Int}
theorem Bx.below (h : Bx w cv ra e W) (hb : Below W.heap.size W W') : Bx w cv ra e W' :=
  ⟨h.c.below hb h.c.lt, h.r.below hb h.r.lt, h.e.below hb h.e.lt, h.b.trans (hb.mono h.b.size)⟩
theorem Bx.lt (h : Bx w cv ra e W) : w.heap.size + 3 ≤ W.heap.size := h.e.lt
theorem Bx.start (w : World) (cv : Value) (ra : Array Value) : Bx w cv ra 0 (((w.alloc (.cells #[cv] 24)).alloc (.cells ra 29)).alloc (.cells #[.int .i64 0] 32)) := by
  have z1 : (w.alloc (.cells #[cv] 24)).heap.size = w.heap.size + 1 := World.size_alloc _ _
  have z2 : ((w.alloc (.cells #[cv] 24)).alloc (.cells ra 29)).heap.size = w.heap.size + 2 := by rw [World.size_alloc, z1]
  refine ⟨((Has.new _ _ _).alloc _).alloc _, ?_, ?_, ((((Below.refl _ _).alloc (Nat.le_refl _) _)).alloc (by omega) _).alloc (by omega) _⟩
  · rw [← z1]; exact (Has.new _ _ _).alloc _
  · rw [← z2]; exact Has.new _ _ _
theorem Bx.setE (h : Bx w cv ra e W) (e' : Int) : Bx w cv ra e' (W.setCell ⟨w.heap.size + 2, 0, none⟩ (.int .i64 e')) :=
  ⟨h.c.far _ (by show w.heap.size ≠ w.heap.size + 2; omega) _, h.r.far _ (by show w.heap.size + 1 ≠ w.heap.size + 2; omega) _, h.e.put 0 _, h.b.setCell (p := ⟨w.heap.size + 2, 0, none⟩) (by show w.heap.size ≤ w.heap.size + 2; omega) _⟩
theorem Bx.aw {g : Nat} (h : Bx w cv ra e W) (ha : Aw g g W W') (hg : w.heap.size + 3 ≤ g) : Bx w cv ra e W' :=
  ⟨h.c.aw ha (by omega) (by omega), h.r.aw ha (by omega) (by omega), h.e.aw ha (by omega) (by omega), ha.below h.b (by omega) (by omega)⟩
end
section
variable {w0 : World} {cv : Value} {c : List Kd}
set_option maxRecDepth 100000 in
set_option maxHeartbeats 8000000 in
theorem tcheck_cat (w : World) (hb0 : Below w0.heap.size w0 w) (hcv : Cat w0 cv c) (hl : c.length ≤ 100000) (hsh : ∀ k ∈ c, k.short) (r : Ru) (kv : Value) (hn : cnt r.cond ≤ 1000000) (hf : FitE r.cond) (hnm : r.name.size ≤ maxLen) (hkd : r.kind.size ≤ maxLen) (hlay : Lay w0 kv r.cond.kids) (hc : catB c = false) : Calls Tryz.prog 9 #[.agg #[cv], .agg (ruA r kv)] w fun e w' => e = .returned (.int .i64 (checkU c r)) ∧ Below w.heap.size w w' := by
  have HU := Lib.hid (show checkU c r = 1 by unfold checkU; rw [hc]; rfl)
  have HB0 := Lib.hid hb0
  have HCV := Lib.hid hcv
  have HL := Lib.hid hl
  have HSH := Lib.hid hsh
  have HNN := Lib.hid hn
  have HF := Lib.hid hf
  have HNM := Lib.hid hnm
  have HKD := Lib.hid hkd
  have HLY := Lib.hid hlay
  have H0 := Lib.hid (Bx.start w cv #[.string r.name, .string r.kind, .int .i64 r.cond.op, .string r.cond.name, .string r.cond.value, .int .i64 r.cond.n, .int .i64 r.cond.extra, kv])
  show Calls _ _ #[.agg #[cv], .agg #[.string r.name, .string r.kind, .int .i64 r.cond.op, .string r.cond.name, .string r.cond.value, .int .i64 r.cond.n, .int .i64 r.cond.extra, kv]] _ _
  have hmf : ∀ (fn : Fn) (first cap : Array Value) (w : World), (Instr.makeFunc fn first cap).run Tryz.prog w = .ok (.func fn first cap) w := fun _ _ _ _ => rfl
  have HC := Lib.hid hc
  clear hc
  clear hb0 hcv hl hsh hn hf hnm hkd hlay
  go_enter_defers Tryz.func9, Tryz.ntmps9
  obtain ⟨dK, fK⟩ := H0.out.c.facts; obtain ⟨dR, fR⟩ := H0.out.r.facts; obtain ⟨dE, fE⟩ := H0.out.e.facts
  go_wp2_with (first | (go_at_call 10; refine (catValid_any w0 cv c _ (HB0.out.trans (H0.out.b.mono HB0.out.size)) HCV.out HL.out HSH.out).mono ?_; rintro e w1 ⟨rfl, hb⟩; (rw [HC.out]); have H1 := Lib.hid (H0.out.below hb); clear dK fK dR fR dE fE hb; obtain ⟨dK, fK⟩ := H1.out.c.facts; obtain ⟨dR, fR⟩ := H1.out.r.facts; obtain ⟨dE, fE⟩ := H1.out.e.facts))
  have HE := Lib.hid (H1.out.setE 1)
  obtain ⟨q, _⟩ := HE.out.e.facts
  exact ⟨.int .i64 1, by simp [results, Tryz.results9, go_sem, q], ⟨by rw [HU.out], HE.out.b⟩⟩
set_option maxRecDepth 100000 in
set_option maxHeartbeats 8000000 in
theorem tcheck_rule (w : World) (hb0 : Below w0.heap.size w0 w) (hcv : Cat w0 cv c) (hl : c.length ≤ 100000) (hsh : ∀ k ∈ c, k.short) (r : Ru) (kv : Value) (hn : cnt r.cond ≤ 1000000) (hf : FitE r.cond) (hnm : r.name.size ≤ maxLen) (hkd : r.kind.size ≤ maxLen) (hlay : Lay w0 kv r.cond.kids) (hc : catB c = true) (hr : ruleB r = false) : Calls Tryz.prog 9 #[.agg #[cv], .agg (ruA r kv)] w fun e w' => e = .returned (.int .i64 (checkU c r)) ∧ Below w.heap.size w w' := by
  have HU := Lib.hid (show checkU c r = 1 by unfold checkU; rw [hc, hr]; rfl)
  have HB0 := Lib.hid hb0
  have HCV := Lib.hid hcv
  have HL := Lib.hid hl
  have HSH := Lib.hid hsh
  have HNN := Lib.hid hn
  have HF := Lib.hid hf
  have HNM := Lib.hid hnm
  have HKD := Lib.hid hkd
  have HLY := Lib.hid hlay
  have H0 := Lib.hid (Bx.start w cv #[.string r.name, .string r.kind, .int .i64 r.cond.op, .string r.cond.name, .string r.cond.value, .int .i64 r.cond.n, .int .i64 r.cond.extra, kv])
  show Calls _ _ #[.agg #[cv], .agg #[.string r.name, .string r.kind, .int .i64 r.cond.op, .string r.cond.name, .string r.cond.value, .int .i64 r.cond.n, .int .i64 r.cond.extra, kv]] _ _
  have hmf : ∀ (fn : Fn) (first cap : Array Value) (w : World), (Instr.makeFunc fn first cap).run Tryz.prog w = .ok (.func fn first cap) w := fun _ _ _ _ => rfl
  have HC := Lib.hid hc
  have HR := Lib.hid hr
  clear hc hr
  clear hb0 hcv hl hsh hn hf hnm hkd hlay
  go_enter_defers Tryz.func9, Tryz.ntmps9
  obtain ⟨dK, fK⟩ := H0.out.c.facts; obtain ⟨dR, fR⟩ := H0.out.r.facts; obtain ⟨dE, fE⟩ := H0.out.e.facts
  go_wp2_with (first | (go_at_call 10; refine (catValid_any w0 cv c _ (HB0.out.trans (H0.out.b.mono HB0.out.size)) HCV.out HL.out HSH.out).mono ?_; rintro e w1 ⟨rfl, hb⟩; (rw [HC.out]); have H1 := Lib.hid (H0.out.below hb); clear dK fK dR fR dE fE hb; obtain ⟨dK, fK⟩ := H1.out.c.facts; obtain ⟨dR, fR⟩ := H1.out.r.facts; obtain ⟨dE, fE⟩ := H1.out.e.facts) | (go_at_call 11; refine (valid_any r kv _ HNN.out HF.out HNM.out HKD.out (HLY.out.later ((HB0.out.trans (H1.out.b.mono HB0.out.size))))).mono ?_; rintro e w2 ⟨rfl, hb⟩; (rw [HR.out]); have H2 := Lib.hid (H1.out.below hb); clear dK fK dR fR dE fE hb; obtain ⟨dK, fK⟩ := H2.out.c.facts; obtain ⟨dR, fR⟩ := H2.out.r.facts; obtain ⟨dE, fE⟩ := H2.out.e.facts))
  have HE := Lib.hid (H2.out.setE 1)
  obtain ⟨q, _⟩ := HE.out.e.facts
  exact ⟨.int .i64 1, by simp [results, Tryz.results9, go_sem, q], ⟨by rw [HU.out], HE.out.b⟩⟩
set_option maxRecDepth 100000 in
set_option maxHeartbeats 8000000 in
theorem tcheck_kind (w : World) (hb0 : Below w0.heap.size w0 w) (hcv : Cat w0 cv c) (hl : c.length ≤ 100000) (hsh : ∀ k ∈ c, k.short) (r : Ru) (kv : Value) (hn : cnt r.cond ≤ 1000000) (hf : FitE r.cond) (hnm : r.name.size ≤ maxLen) (hkd : r.kind.size ≤ maxLen) (hlay : Lay w0 kv r.cond.kids) (hc : catB c = true) (hr : ruleB r = true) (hk : (kfind c r.kind).isSome = false) : Calls Tryz.prog 9 #[.agg #[cv], .agg (ruA r kv)] w fun e w' => e = .returned (.int .i64 (checkU c r)) ∧ Below w.heap.size w w' := by
  have HU := Lib.hid (show checkU c r = 4 by unfold checkU; rw [hc, hr, hk]; rfl)
  have HB0 := Lib.hid hb0
  have HCV := Lib.hid hcv
  have HL := Lib.hid hl
  have HSH := Lib.hid hsh
  have HNN := Lib.hid hn
  have HF := Lib.hid hf
  have HNM := Lib.hid hnm
  have HKD := Lib.hid hkd
  have HLY := Lib.hid hlay
  have H0 := Lib.hid (Bx.start w cv #[.string r.name, .string r.kind, .int .i64 r.cond.op, .string r.cond.name, .string r.cond.value, .int .i64 r.cond.n, .int .i64 r.cond.extra, kv])
  show Calls _ _ #[.agg #[cv], .agg #[.string r.name, .string r.kind, .int .i64 r.cond.op, .string r.cond.name, .string r.cond.value, .int .i64 r.cond.n, .int .i64 r.cond.extra, kv]] _ _
  have hmf : ∀ (fn : Fn) (first cap : Array Value) (w : World), (Instr.makeFunc fn first cap).run Tryz.prog w = .ok (.func fn first cap) w := fun _ _ _ _ => rfl
  have HC := Lib.hid hc
  have HR := Lib.hid hr
  have HFD := Lib.hid hk
  clear hc hr hk
  clear hb0 hcv hl hsh hn hf hnm hkd hlay
  go_enter_defers Tryz.func9, Tryz.ntmps9
  obtain ⟨dK, fK⟩ := H0.out.c.facts; obtain ⟨dR, fR⟩ := H0.out.r.facts; obtain ⟨dE, fE⟩ := H0.out.e.facts
  go_wp2_with (first | (go_at_call 10; refine (catValid_any w0 cv c _ (HB0.out.trans (H0.out.b.mono HB0.out.size)) HCV.out HL.out HSH.out).mono ?_; rintro e w1 ⟨rfl, hb⟩; (rw [HC.out]); have H1 := Lib.hid (H0.out.below hb); clear dK fK dR fR dE fE hb; obtain ⟨dK, fK⟩ := H1.out.c.facts; obtain ⟨dR, fR⟩ := H1.out.r.facts; obtain ⟨dE, fE⟩ := H1.out.e.facts) | (go_at_call 11; refine (valid_any r kv _ HNN.out HF.out HNM.out HKD.out (HLY.out.later ((HB0.out.trans (H1.out.b.mono HB0.out.size))))).mono ?_; rintro e w2 ⟨rfl, hb⟩; (rw [HR.out]); have H2 := Lib.hid (H1.out.below hb); clear dK fK dR fR dE fE hb; obtain ⟨dK, fK⟩ := H2.out.c.facts; obtain ⟨dR, fR⟩ := H2.out.r.facts; obtain ⟨dE, fE⟩ := H2.out.e.facts) | (go_at_call 14; refine (find_any w0 cv c r.kind _ (HB0.out.trans (H2.out.b.mono HB0.out.size)) HCV.out HL.out).mono ?_; rintro e w3 ⟨A2, c2, rfl, hrd, hb⟩; (rw [HFD.out]); have H3 := Lib.hid ((H2.out.below hb).below ((Below.refl _ _).alloc (Nat.le_refl _) (.cells #[.string ((kfind c r.kind).getD noKd).name, .bool ((kfind c r.kind).getD noKd).veh, .slice A2 ((kfind c r.kind).getD noKd).slots.length c2] 38))); have hz := (H2.out.below hb).lt; clear dK fK dR fR dE fE hb hrd; obtain ⟨dK, fK⟩ := H3.out.c.facts; obtain ⟨dR, fR⟩ := H3.out.r.facts; obtain ⟨dE, fE⟩ := H3.out.e.facts))
  have HE := Lib.hid (H3.out.setE 4)
  obtain ⟨q, _⟩ := HE.out.e.facts
  exact ⟨.int .i64 4, by simp [results, Tryz.results9, go_sem, q], ⟨by rw [HU.out], HE.out.b⟩⟩
end
end Go.Proofs.YtcpakaiblelmlaaGreatDoor
