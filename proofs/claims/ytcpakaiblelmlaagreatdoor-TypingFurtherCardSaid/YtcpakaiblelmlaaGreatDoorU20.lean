/- The head of bogielaw21: the chapter's examples. Condition: the error variables of strconv hold something. typing.Currencies: the currencies of a condition, in order. Condition: the condition lies in memory. What the laws of bogielaw21 start from: few, in, the boxes of the arguments. No condition. What TypingCurrencies wants: the names seen, in a map. No condition. -/
import Derived.Maps.OwnIn
import Derived.RangeFuncBox
import Derived.Test.YtcpakaiblelmlaaGreatDoorU01
import Derived.Test.YtcpakaiblelmlaaGreatDoorU02
import Derived.Test.YtcpakaiblelmlaaGreatDoorU04
import Derived.Test.YtcpakaiblelmlaaGreatDoorU13
import Derived.Test.YtcpakaiblelmlaaGreatDoorU18
import Derived.Test.YtcpakaiblelmlaaGreatDoorU19
namespace Go.Proofs.YtcpakaiblelmlaaGreatDoor
open Go Go.RowKit
/-- An owned row of strings reads as a list of them. -/
theorem own_strs {w : World} {base : Nat} {v : Value} {l : List ByteArray} (h : w.ownsRow base 9 1 v l.length (l.map Value.string)) : Sl w v l.length 1 (strF l) := by
  obtain ⟨A, c, e, h1, h2⟩ := sl_row h
  refine ⟨A, c, e, h1, h2.imp id fun ⟨b, o, ha, hc⟩ => ⟨b, o, ha, fun j hj => ?_⟩⟩
  rw [hc j hj]
  show some ((l.map Value.string)[j]?.getD undef) = _
  have hj' : j < l.length := by omega
  rw [List.getElem?_map, List.getElem?_eq_getElem hj']
  unfold strF
  rw [List.getD_eq_getElem?_getD, List.getElem?_eq_getElem hj']
  rfl
mutual
def fitB : Ex → Bool
  | .mk op a v n x ks => decide (a.size ≤ 300 ∧ v.size ≤ 300 ∧ 0 ≤ op ∧ op ≤ 20 ∧ 0 ≤ n ∧ n ≤ 9999999 ∧ 0 ≤ x ∧ x ≤ 9999999 ∧ ks.length ≤ 1000) && fitsB ks
def fitsB : List Ex → Bool
  | [] => true
  | e :: ks => fitB e && fitsB ks
end
theorem fitsB_all : ∀ {ks : List Ex}, fitsB ks = true → ∀ k ∈ ks, fitB k = true
  | e :: ks, h, k, hk => by
    rw [fitsB, Bool.and_eq_true] at h
    rcases List.mem_cons.1 hk with rfl | hk
    · exact h.1
    · exact fitsB_all h.2 k hk
theorem fitB_fit : ∀ (M : Nat) (e : Ex), cnt e ≤ M → fitB e = true → FitE e
  | 0, e, h, _ => absurd h (by have := cnt_pos e; omega)
  | M + 1, .mk op a v n x ks, h, hf => by
    rw [fitB, Bool.and_eq_true] at hf
    obtain ⟨h1, h2, h3, h4, h5, h6, h7, h8, h9⟩ := of_decide_eq_true hf.1
    have hl : ∀ n : Nat, n ≤ 1000 → n ≤ maxLen := fun n h => Nat.le_trans h (by decide)
    refine .mk _ (hl _ (by show a.size ≤ 1000; omega)) (hl _ (by show v.size ≤ 1000; omega)) ⟨by show _ ≤ op; omega, by show op ≤ _; omega⟩ ⟨by show _ ≤ n; omega, by show n ≤ _; omega⟩ ⟨by show _ ≤ x; omega, by show x ≤ _; omega⟩ (hl _ h9) fun k hk => ?_
    exact fitB_fit M k (by have := cnt_kid (e := .mk op a v n x ks) hk; omega) (fitsB_all hf.2 k hk)
theorem str_lit (w : World) : Sl (w.alloc (.cells #[.string ⟨#[97, 120, 108, 101]⟩, .string ⟨#[98, 111, 103, 105, 101]⟩] 9)) (.slice (some ⟨w.heap.size, 0, none⟩) 2 2) 2 1 (strF [⟨#[97, 120, 108, 101]⟩, ⟨#[98, 111, 103, 105, 101]⟩]) := ⟨_, _, rfl, Nat.le_refl _, .inr ⟨_, 0, rfl, fun j hj => by
  rw [Nat.zero_add, (Has.new w 9 #[.string ⟨#[97, 120, 108, 101]⟩, .string ⟨#[98, 111, 103, 105, 101]⟩]).cell j]
  match j, hj with
  | 0, _ => rfl
  | 1, _ => rfl⟩⟩
theorem chk_1 (w0 : World) (hv : Evs w0) (w : World) (hb0 : Below w0.heap.size w0 w) : Calls Tryz.prog 22 #[.string ⟨#[97, 116, 32, 108, 101, 97, 115, 116, 32, 50, 32, 97, 120, 108, 101]⟩] w fun e w' => e = .returned (.int .i64 0) ∧ Below w.heap.size w w' := by
  have h := checked_any w0 hv ⟨#[97, 116, 32, 108, 101, 97, 115, 116, 32, 50, 32, 97, 120, 108, 101]⟩ tx1 tr1 (by decide +kernel) (by decide) typ_q1 (by decide +kernel) (fitB_fit _ _ (Nat.le_refl _) (by decide +kernel)) (by decide) (by decide) w hb0
  rw [typ_c1] at h
  exact h
theorem chk_2 (w0 : World) (hv : Evs w0) (w : World) (hb0 : Below w0.heap.size w0 w) : Calls Tryz.prog 22 #[.string ⟨#[97, 116, 32, 108, 101, 97, 115, 116, 32, 51, 32, 97, 120, 108, 101]⟩] w fun e w' => e = .returned (.int .i64 13) ∧ Below w.heap.size w w' := by
  have h := checked_any w0 hv ⟨#[97, 116, 32, 108, 101, 97, 115, 116, 32, 51, 32, 97, 120, 108, 101]⟩ tx2 tr2 (by decide +kernel) (by decide) typ_q2 (by decide +kernel) (fitB_fit _ _ (Nat.le_refl _) (by decide +kernel)) (by decide) (by decide) w hb0
  rw [typ_c2] at h
  exact h
theorem chk_3 (w0 : World) (hv : Evs w0) (w : World) (hb0 : Below w0.heap.size w0 w) : Calls Tryz.prog 22 #[.string ⟨#[97, 108, 108, 32, 97, 120, 108, 101, 32, 40, 115, 108, 111, 116, 32, 97, 32, 105, 115, 32, 97, 120, 108, 101, 41]⟩] w fun e w' => e = .returned (.int .i64 15) ∧ Below w.heap.size w w' := by
  have h := checked_any w0 hv ⟨#[97, 108, 108, 32, 97, 120, 108, 101, 32, 40, 115, 108, 111, 116, 32, 97, 32, 105, 115, 32, 97, 120, 108, 101, 41]⟩ tx3 tr3 (by decide +kernel) (by decide) typ_q3 (by decide +kernel) (fitB_fit _ _ (Nat.le_refl _) (by decide +kernel)) (by decide) (by decide) w hb0
  rw [typ_c3] at h
  exact h
theorem chk_4 (w0 : World) (hv : Evs w0) (w : World) (hb0 : Below w0.heap.size w0 w) : Calls Tryz.prog 22 #[.string ⟨#[115, 108, 111, 116, 32, 102, 114, 111, 110, 116, 32, 105, 115, 32, 97, 120, 108, 101]⟩] w fun e w' => e = .returned (.int .i64 4) ∧ Below w.heap.size w w' := by
  have h := checked_any w0 hv ⟨#[115, 108, 111, 116, 32, 102, 114, 111, 110, 116, 32, 105, 115, 32, 97, 120, 108, 101]⟩ tx4 tr4 (by decide +kernel) (by decide) typ_q4 (by decide +kernel) (fitB_fit _ _ (Nat.le_refl _) (by decide +kernel)) (by decide) (by decide) w hb0
  rw [typ_c4] at h
  exact h
theorem chk_5 (w0 : World) (hv : Evs w0) (w : World) (hb0 : Below w0.heap.size w0 w) : Calls Tryz.prog 22 #[.string ⟨#[111, 118, 101, 114, 32, 109, 105, 108, 101, 115, 32, 53]⟩] w fun e w' => e = .returned (.int .i64 15) ∧ Below w.heap.size w w' := by
  have h := checked_any w0 hv ⟨#[111, 118, 101, 114, 32, 109, 105, 108, 101, 115, 32, 53]⟩ tx5 tr5 (by decide +kernel) (by decide) typ_q5 (by decide +kernel) (fitB_fit _ _ (Nat.le_refl _) (by decide +kernel)) (by decide) (by decide) w hb0
  rw [typ_c5] at h
  exact h
theorem chk_6 (w0 : World) (hv : Evs w0) (w : World) (hb0 : Below w0.heap.size w0 w) : Calls Tryz.prog 22 #[.string ⟨#[97, 110, 121, 32, 98, 111, 103, 105, 101, 32, 40, 115, 108, 111, 116, 32, 98, 32, 105, 115, 32, 97, 120, 108, 101, 41, 32, 97, 110, 100, 32, 111, 118, 101, 114, 32, 107, 109, 32, 53]⟩] w fun e w' => e = .returned (.int .i64 0) ∧ Below w.heap.size w w' := by
  have h := checked_any w0 hv ⟨#[97, 110, 121, 32, 98, 111, 103, 105, 101, 32, 40, 115, 108, 111, 116, 32, 98, 32, 105, 115, 32, 97, 120, 108, 101, 41, 32, 97, 110, 100, 32, 111, 118, 101, 114, 32, 107, 109, 32, 53]⟩ tx6 tr6 (by decide +kernel) (by decide) typ_q6 (by decide +kernel) (fitB_fit _ _ (Nat.le_refl _) (by decide +kernel)) (by decide) (by decide) w hb0
  rw [typ_c6] at h
  exact h
set_option maxRecDepth 100000 in
set_option maxHeartbeats 8000000 in
theorem head21_any (w0 w : World) (hv : Evs w0) (hb0 : Below w0.heap.size w0 w) : Calls Tryz.prog 7 #[] w fun r w' => r = .returned (.bool true) ∧ Below w.heap.size w w' := by
  have HB0 := Lib.hid hb0
  have HV := Lib.hid hv
  have HB := Lib.hid (Below.refl w.heap.size w)
  have HK1 := Lib.hid True.intro
  have HK2 := Lib.hid True.intro
  have HKC := Lib.hid kinds_coach
  have HKA := Lib.hid kinds_axle
  clear hv hb0
  go_enter Tryz.func7, Tryz.ntmps7
  go_wp2_with (first
    | (go_at_call 21; clear HK1; refine (example21_any _).mono ?_; rintro e u1 ⟨g, rfl, hcat, hb⟩; have HCT := Lib.hid hcat; replace HB := Lib.hid (HB.out.trans (hb.mono HB.out.size)); clear hcat hb)
    | (go_at_call_of 12 (Value.string ⟨#[99, 111, 97, 99, 104]⟩); refine (kinds_any (w0 := u1) (Below.refl _ _) HCT.out (by decide) exC_short ⟨#[99, 111, 97, 99, 104]⟩).mono ?_; rintro e u2 ⟨v, rfl, hrow, hb⟩; (rw [HKC.out] at hrow); have HS := Lib.hid (own_strs hrow); replace HB := Lib.hid (HB.out.trans (hb.mono HB.out.size)); clear hrow hb HCT)
    | (go_at_call 13; refine (sameS_any _ _ [⟨#[97, 120, 108, 101]⟩, ⟨#[98, 111, 103, 105, 101]⟩] [⟨#[97, 120, 108, 101]⟩, ⟨#[98, 111, 103, 105, 101]⟩] _ (HS.out.below ((Below.refl _ _).alloc (Nat.le_refl _) _)) (str_lit _) (by decide) (by decide)).mono ?_; rintro e u3 ⟨rfl, hb⟩; (rw [show sameS [⟨#[97, 120, 108, 101]⟩, ⟨#[98, 111, 103, 105, 101]⟩] [⟨#[97, 120, 108, 101]⟩, ⟨#[98, 111, 103, 105, 101]⟩] = true from decide_eq_true rfl]); replace HB := Lib.hid ((HB.out.alloc HB.out.size _).trans (hb.mono (HB.out.alloc HB.out.size _).size)); clear hb HS))
  go_wp2_with (first
    | (go_at_call 21; clear HK2; refine (example21_any _).mono ?_; rintro e u4 ⟨g2, rfl, hcat, hb⟩; have HCT := Lib.hid hcat; replace HB := Lib.hid (HB.out.trans (hb.mono HB.out.size)); clear hcat hb)
    | (go_at_call_of 12 (Value.string ⟨#[97, 120, 108, 101]⟩); refine (kinds_any (w0 := u4) (Below.refl _ _) HCT.out (by decide) exC_short ⟨#[97, 120, 108, 101]⟩).mono ?_; rintro e u5 ⟨v2, rfl, hrow, hb⟩; (rw [HKA.out] at hrow); obtain ⟨A2, c2, rfl⟩ := own_val hrow; replace HB := Lib.hid (HB.out.trans (hb.mono HB.out.size)); clear hrow hb HCT)
    | (go_at_call_of 22 (Value.string ⟨#[97, 116, 32, 108, 101, 97, 115, 116, 32, 50, 32, 97, 120, 108, 101]⟩); refine (chk_1 w0 HV.out _ (HB0.out.trans (HB.out.mono HB0.out.size))).mono ?_; rintro e u6 ⟨rfl, hb⟩; replace HB := Lib.hid (HB.out.trans (hb.mono HB.out.size)); clear hb) | (go_at_call_of 22 (Value.string ⟨#[97, 116, 32, 108, 101, 97, 115, 116, 32, 51, 32, 97, 120, 108, 101]⟩); refine (chk_2 w0 HV.out _ (HB0.out.trans (HB.out.mono HB0.out.size))).mono ?_; rintro e u7 ⟨rfl, hb⟩; replace HB := Lib.hid (HB.out.trans (hb.mono HB.out.size)); clear hb) | (go_at_call_of 22 (Value.string ⟨#[97, 108, 108, 32, 97, 120, 108, 101, 32, 40, 115, 108, 111, 116, 32, 97, 32, 105, 115, 32, 97, 120, 108, 101, 41]⟩); refine (chk_3 w0 HV.out _ (HB0.out.trans (HB.out.mono HB0.out.size))).mono ?_; rintro e u8 ⟨rfl, hb⟩; replace HB := Lib.hid (HB.out.trans (hb.mono HB.out.size)); clear hb))
  go_wp2_with (first | (go_at_call_of 22 (Value.string ⟨#[115, 108, 111, 116, 32, 102, 114, 111, 110, 116, 32, 105, 115, 32, 97, 120, 108, 101]⟩); refine (chk_4 w0 HV.out _ (HB0.out.trans (HB.out.mono HB0.out.size))).mono ?_; rintro e u9 ⟨rfl, hb⟩; replace HB := Lib.hid (HB.out.trans (hb.mono HB.out.size)); clear hb) | (go_at_call_of 22 (Value.string ⟨#[111, 118, 101, 114, 32, 109, 105, 108, 101, 115, 32, 53]⟩); refine (chk_5 w0 HV.out _ (HB0.out.trans (HB.out.mono HB0.out.size))).mono ?_; rintro e u10 ⟨rfl, hb⟩; replace HB := Lib.hid (HB.out.trans (hb.mono HB.out.size)); clear hb))
  go_at_call 22
  refine (chk_6 w0 HV.out _ (HB0.out.trans (HB.out.mono HB0.out.size))).mono ?_
  rintro e u11 ⟨rfl, hb⟩
  replace HB := Lib.hid (HB.out.trans (hb.mono HB.out.size))
  clear hb
  go_wp2_with fail
  go_ret
  exact ⟨rfl, HB.out⟩
end Go.Proofs.YtcpakaiblelmlaaGreatDoor
namespace Go.Proofs.YtcpakaiblelmlaaGreatDoor
open Go Go.RowKit
attribute [local go_sem] Oper.semAt_some
theorem nodesIt_any (e : Ex) (kv : Value) (W : World) : Calls Tryz.prog 41 #[.agg #[.int .i64 e.op, .string e.name, .string e.value, .int .i64 e.n, .int .i64 e.extra, kv]] W fun r W' => r = .returned (.func (.func 70) #[] #[.pointer (some ⟨W.heap.size, 0, none⟩)]) ∧ W' = W.alloc (.cells (exA e kv) 27) := by
  have hmf : ∀ (fn : Fn) (first cap : Array Value) (w : World), (Instr.makeFunc fn first cap).run Tryz.prog w = .ok (.func fn first cap) w := fun _ _ _ _ => rfl
  go_enter Tryz.func41, Tryz.ntmps41
  go_wp2_with fail
  go_ret
  exact ⟨rfl, rfl⟩
def NsR (J Jx : List NdX → World → Prop) (e : Ex) (r : Ending) (W' : World) : Prop := (∃ v, r = .returned v) ∧ ((∃ xs : List NdX, xs.map (·.1) = nodE e ∧ J xs W') ∨ (∃ pre, True ∧ Jx pre W'))
set_option maxRecDepth 100000 in
set_option maxHeartbeats 8000000 in
theorem nodes_in (l m N : Nat) (e : Ex) (kv : Value) (eb : Nat) (J Jx : List NdX → World → Prop) (W : World) (hY : YieldsE l m N J Jx) (hN : cnt e ≤ N) (hM : cnt e ≤ 1000000) (hJ : ∀ pre A B, J pre A → Below A.heap.size A B → J pre B) (he : Has W eb 27 (exA e kv)) (hl : Lay W kv e.kids) (h0 : J [] W) :
    Calls Tryz.prog 70 #[.func (.yield l) #[] #[], .pointer (some ⟨eb, 0, none⟩)] W (NsR J Jx e) := by
  have hz : (W.alloc (.cells #[.func (.yield l) #[] #[]] 63)).heap.size = W.heap.size + 1 := World.size_alloc _ _
  have hb2 : Below W.heap.size W ((W.alloc (.cells #[.func (.yield l) #[] #[]] 63)).alloc (.cells #[.func (.func 71) #[] #[.pointer (some ⟨W.heap.size, 0, none⟩), .pointer (some ⟨W.heap.size + 1, 0, none⟩)]] 63)) := ((Below.refl _ _).alloc (Nat.le_refl _) _).alloc (by omega) _
  have hw2 : Has ((W.alloc (.cells #[.func (.yield l) #[] #[]] 63)).alloc (.cells #[.func (.func 71) #[] #[.pointer (some ⟨W.heap.size, 0, none⟩), .pointer (some ⟨W.heap.size + 1, 0, none⟩)]] 63)) (W.heap.size + 1) 63 #[.func (.func 71) #[] #[.pointer (some ⟨W.heap.size, 0, none⟩), .pointer (some ⟨W.heap.size + 1, 0, none⟩)]] := by rw [← hz]; exact Has.new _ _ _
  have HC := Lib.hid (nd_rec hY hJ W.heap.size (W.heap.size + 1) (cnt e) e kv [] _ (Nat.le_refl _) hM (hl.later hb2) ((Has.new W 63 #[.func (.yield l) #[] #[]]).alloc _) hw2 (hJ _ _ _ h0 hb2) (by rw [List.length_nil]; omega))
  obtain ⟨c1, f1⟩ := (he.below hb2 he.lt).facts
  obtain ⟨c2, f2⟩ := hw2.facts
  have hmf : ∀ (fn : Fn) (first cap : Array Value) (w : World), (Instr.makeFunc fn first cap).run Tryz.prog w = .ok (.func fn first cap) w := fun _ _ _ _ => rfl
  have hel := he.lt
  clear hY hJ he hl h0 hw2 hb2 hz
  simp only [exA] at c1
  go_enter Tryz.func70, Tryz.ntmps70
  go_wp2_with (go_at_call 71; refine HC.out.mono ?_; clear c1 f1 c2 f2; rintro r W5 (⟨rfl, ys, hys, hJ5, hk5⟩ | ⟨rfl, ys, hJx5⟩))
  · have HF := Lib.hid (show NsR J Jx e (.returned (.tuple #[])) W5 from ⟨⟨_, rfl⟩, .inl ⟨ys, hys, hJ5⟩⟩)
    clear hys hJ5 hk5
    go_wp2_with fail
    refine bodyPost_end (results_none rfl _ _ _) rfl ?_
    exact HF.out
  · have HF := Lib.hid (show NsR J Jx e (.returned (.tuple #[])) W5 from ⟨⟨_, rfl⟩, .inr ⟨ys, trivial, hJx5⟩⟩)
    clear hJx5
    go_wp2_with fail
    refine bodyPost_end (results_none rfl _ _ _) rfl ?_
    exact HF.out
theorem nodes_stops (e : Ex) (kv : Value) (eb n : Nat) (w : World) (hM : cnt e ≤ 1000000) (he : Has w eb 27 (exA e kv)) (hl : Lay w kv e.kids) :
    SeqStopsK Fence.wide n Tryz.prog 70 #[.pointer (some ⟨eb, 0, none⟩)] (fun x : NdX => #[exV x]) KpO (fun ys => ys.map (·.1) = nodE e) (fun _ => True) (cnt e) w := fun l J Jx W hW hJ _ hY h0 =>
  callsIn_wide.2 (nodes_in l (n - 1) (cnt e) e kv eb J Jx W hY (Nat.le_refl _) hM (fun pre A B hp hb => hJ pre A B none hp (below_grown hb) (fun r e => by cases e)) (he.below hW he.lt) (hl.later hW) h0)
structure CuI (w : World) (g : Nat) (pre : List NdX) (W : World) : Prop where
  mp : ∃ m, Mp W Value.string g m ∧ (keysL m).Nodup ∧ (∀ x, x ∈ keysL m ↔ x ∈ (pre.map (·.1)).flatMap ownN) ∧ ∀ p ∈ m, p.2 = .bool true
  nb : Has W (g + 1) 49 #[.map (some g)]
  b : Below w.heap.size w W
  hg : w.heap.size < g
theorem CuI.own {w : World} {g B : Nat} (hB : g + 1 < B) : OwnFrom B (CuI w g) := fun pre W W' row h hg hr => by
  obtain ⟨m, h1, h2⟩ := h.mp
  exact ⟨⟨m, h1.grown hg (fun e => by have := (hr g e.symm).1; omega), h2⟩, has_own h.nb hg (fun r e => (hr r e).2), h.b.grown hg h.b.size (fun k e => by have := (hr k e).1; have := h.hg; omega), h.hg⟩
theorem CuI.below {w W W' : World} {g : Nat} {pre : List NdX} (h : CuI w g pre W) (hb : Below W.heap.size W W') : CuI w g pre W' := by
  obtain ⟨m, h1, h2⟩ := h.mp
  exact ⟨⟨m, h1.below hb h1.lt, h2⟩, h.nb.below hb h.nb.lt, h.b.trans (hb.mono h.b.size), h.hg⟩
theorem CuI.skip {w W : World} {g : Nat} {pre : List NdX} (h : CuI w g pre W) {x : NdX} (hx : ownN x.1 = []) : CuI w g (pre ++ [x]) W := by
  obtain ⟨m, h1, h2, h3, h4⟩ := h.mp
  exact ⟨⟨m, h1, h2, fun y => by rw [List.map_append, List.flatMap_append, List.map_singleton, List.flatMap_singleton, hx, List.append_nil]; exact h3 y, h4⟩, h.nb, h.b, h.hg⟩
theorem mput_keys {m : List (ByteArray × Value)} (hn : (keysL m).Nodup) (ht : ∀ p ∈ m, p.2 = .bool true) (x : ByteArray) : (keysL (mput m x (.bool true))).Nodup ∧ (∀ y, y ∈ keysL (mput m x (.bool true)) ↔ y ∈ keysL m ∨ y = x) ∧ ∀ p ∈ mput m x (.bool true), p.2 = .bool true := by
  cases hi : inS (keysL m) x with
  | false =>
    rw [mput_new hi]
    have hx : x ∉ keysL m := fun h => by rw [(inS_iff _ _).2 h] at hi; cases hi
    refine ⟨?_, fun y => ?_, fun p hp => ?_⟩
    · show ((m ++ [(x, Value.bool true)]).map (·.1)).Nodup
      rw [List.map_append]
      refine List.nodup_append.2 ⟨hn, by simp, fun a ha b hb e => ?_⟩
      simp only [List.map_singleton, List.mem_singleton] at hb
      subst hb
      subst e
      exact hx ha
    · show y ∈ (m ++ [(x, Value.bool true)]).map (·.1) ↔ _
      rw [List.map_append, List.mem_append]
      simp
    · rcases List.mem_append.1 hp with hp | hp
      · exact ht p hp
      · rw [List.mem_singleton.1 hp]
  | true =>
    have hx := (inS_iff _ _).1 hi
    have he : mput m x (.bool true) = m := by
      unfold mput
      cases hq : m.findIdx? (fun p => decide (p.1 = x)) with
      | none =>
        rw [List.findIdx?_eq_none_iff] at hq
        obtain ⟨p, hp, e⟩ := List.mem_map.1 hx
        have := hq p hp
        simp [e] at this
      | some i =>
        obtain ⟨v, hv, _⟩ := find_some hq
        have hvm := List.mem_of_getElem? hv
        have := ht _ hvm
        show m.set i (x, .bool true) = m
        have h2 : (x, Value.bool true) = (x, v) := by rw [show v = .bool true from this]
        rw [h2]
        refine List.ext_getElem? fun j => ?_
        rw [List.getElem?_set]
        split
        · rename_i e
          subst e
          split
          · exact hv.symm
          · rename_i h
            rw [List.getElem?_eq_none (by omega)]
        · rfl
    rw [he]
    exact ⟨hn, fun y => ⟨.inl, fun h => h.elim id fun e => e ▸ hx⟩, ht⟩
theorem CuI.put {w W W' : World} {g : Nat} {pre : List NdX} (h : CuI w g pre W) {m : List (ByteArray × Value)} (hn : (keysL m).Nodup) (hk : ∀ x, x ∈ keysL m ↔ x ∈ (pre.map (·.1)).flatMap ownN) (ht : ∀ p ∈ m, p.2 = .bool true) {x : NdX} (hx : ownN x.1 = [x.1.name]) (hm : Mp W' Value.string g (mput m x.1.name (.bool true))) (hgr : W.grownBy W' (some g)) : CuI w g (pre ++ [x]) W' := by
  obtain ⟨k1, k2, k3⟩ := mput_keys hn ht x.1.name
  refine ⟨⟨_, hm, k1, fun y => ?_, k3⟩, h.nb.grown hgr (fun e => by injection e with e; omega), h.b.grown hgr h.b.size (fun k e => by injection e with e; have := h.hg; omega), h.hg⟩
  rw [k2 y, hk y, List.map_append, List.flatMap_append, List.map_singleton, List.flatMap_singleton, hx, List.mem_append, List.mem_singleton]
theorem Mp.kpo {W W' : World} {g : Nat} {m : List (ByteArray × Value)} (h : Mp W Value.string g m) (hg : W.grownBy W' (some g)) : KpO W W' := fun k o hk hc => (hg.block k (Array.getElem?_eq_some_iff.1 hk).1 (fun e => by
  injection e with e
  subst e
  obtain ⟨es, clock, hb, _⟩ := h
  rw [hb] at hk
  injection hk with hk
  subst hk
  cases hc)).trans hk
mutual
theorem lim_lenE : ∀ e : Ex, (limL e).length ≤ cnt e
  | .mk op name value n extra ks => by
    rw [limL, cnt, List.length_append]
    have := lim_lenL ks
    split <;> simp <;> omega
theorem lim_lenL : ∀ ks : List Ex, (limsL ks).length ≤ cnts ks
  | [] => by rw [limsL]; exact Nat.zero_le _
  | e :: ks => by
    rw [limsL, cnts, List.length_append]
    have := lim_lenE e
    have := lim_lenL ks
    omega
end
theorem fit_limN : ∀ (M : Nat) (e : Ex), cnt e ≤ M → FitE e → ∀ x ∈ limL e, x.size ≤ maxLen
  | 0, e, h, _, _, _ => absurd h (by have := cnt_pos e; omega)
  | M + 1, e, h, hf, x, hx => by
    rw [limL_eq] at hx
    rcases List.mem_append.1 hx with hx | hx
    · split at hx
      · rw [List.mem_singleton.1 hx]; exact hf.strs.1
      · cases hx
    · obtain ⟨k, hk, hx⟩ := limsL_mem.1 hx
      exact fit_limN M k (by have := cnt_kid hk; omega) (hf.kid k hk) x hx
theorem fit_limE (e : Ex) (hf : FitE e) : ∀ x ∈ limL e, x.size ≤ maxLen := fit_limN _ e (Nat.le_refl _) hf
def rkU (e : Ex) : Ru := ⟨⟨#[114]⟩, ⟨#[107]⟩, e⟩
set_option maxRecDepth 100000 in
set_option maxHeartbeats 8000000 in
theorem cur_no (e : Ex) (kv : Value) (w : World) (hc : cnt e ≤ 1000000) (hf : FitE e) (hl : Lay w kv e.kids) (hr : ruleB (rkU e) = false) : Calls Tryz.prog 18 #[.agg #[.int .i64 e.op, .string e.name, .string e.value, .int .i64 e.n, .int .i64 e.extra, kv]] w (KnR w (curU e)) := by
  obtain ⟨A, cc, rfl, _⟩ := hl.slice
  have HX := Lib.hid ((Below.refl w.heap.size w).alloc (Nat.le_refl _) (.cells #[.int .i64 e.op, .string e.name, .string e.value, .int .i64 e.n, .int .i64 e.extra, .slice A e.kids.length cc] 27))
  have HV := Lib.hid (valid_any (rkU e) (.slice A e.kids.length cc) (w.alloc (.cells #[.int .i64 e.op, .string e.name, .string e.value, .int .i64 e.n, .int .i64 e.extra, .slice A e.kids.length cc] 27)) hc hf (show (1 : Nat) ≤ maxLen from (by decide)) (show (1 : Nat) ≤ maxLen from (by decide)) (hl.later HX.out))
  rw [hr] at HV
  have HU := Lib.hid (show curU e = [] by unfold curU; exact if_neg (by rw [show ruleB ⟨⟨#[114]⟩, ⟨#[107]⟩, e⟩ = false from hr]; decide))
  clear hc hf hl hr
  go_enter Tryz.func18, Tryz.ntmps18
  go_wp2_with (go_at_call 11; refine HV.out.mono ?_; rintro r w1 ⟨rfl, hb⟩; have HB := Lib.hid (HX.out.trans (hb.mono HX.out.size)); clear hb)
  go_ret
  exact ⟨_, rfl, by rw [HU.out]; exact ⟨rfl, .inl ⟨rfl, rfl⟩⟩, HB.out⟩
set_option maxRecDepth 100000 in
set_option maxHeartbeats 8000000 in
theorem cur_yes (e : Ex) (kv : Value) (w : World) (hc : cnt e ≤ 1000000) (hf : FitE e) (hl : Lay w kv e.kids) (hr : ruleB (rkU e) = true) : Calls Tryz.prog 18 #[.agg #[.int .i64 e.op, .string e.name, .string e.value, .int .i64 e.n, .int .i64 e.extra, kv]] w (KnR w (curU e)) := by
  obtain ⟨A, cc, rfl, _⟩ := hl.slice
  have HX := Lib.hid ((Below.refl w.heap.size w).alloc (Nat.le_refl _) (.cells #[.int .i64 e.op, .string e.name, .string e.value, .int .i64 e.n, .int .i64 e.extra, .slice A e.kids.length cc] 27))
  have HBX := Lib.hid (Has.new w 27 #[.int .i64 e.op, .string e.name, .string e.value, .int .i64 e.n, .int .i64 e.extra, .slice A e.kids.length cc])
  have HV := Lib.hid (valid_any (rkU e) (.slice A e.kids.length cc) (w.alloc (.cells #[.int .i64 e.op, .string e.name, .string e.value, .int .i64 e.n, .int .i64 e.extra, .slice A e.kids.length cc] 27)) hc hf (show (1 : Nat) ≤ maxLen from (by decide)) (show (1 : Nat) ≤ maxLen from (by decide)) (hl.later HX.out))
  rw [hr] at HV
  have HU := Lib.hid (show curU e = sortD (limL e) by unfold curU; exact if_pos hr)
  have HLL := Lib.hid hl
  have HF := Lib.hid hf
  have HC60 := Lib.hid (show cnt e ≤ 60 from ((trule_iff _ _ _).1 hr).2.2.1)
  have hmm := @run_makeMap Tryz.prog
  clear hc hf hl hr
  refine callsIn_wide.1 (callsIn_of_wp_marks (n := 9) Tryz.func18 rfl trivial ?_ rfl)
  simp only [Tryz.ntmps18, List.size_toArray, List.length_cons, List.length_nil, Nat.reduceAdd, Nat.reduceSub, Array.replicate_succ, Array.replicate_zero, List.push_toArray, List.append_toArray, List.nil_append, List.cons_append]
  refine wpIn_wide.2 ?_
  go_wp2_with (first
    | (go_at_call 11; refine HV.out.mono ?_; rintro r w1 ⟨rfl, hb⟩; have HB := Lib.hid (HX.out.trans (hb.mono HX.out.size)); have HB1 := Lib.hid (HBX.out.below hb HBX.out.lt); obtain ⟨c1, f1⟩ := ((HB1.out.alloc (.map #[] 0)).alloc (.cells #[.map (some w1.heap.size)] 49)).facts; clear hb)
    | (go_at_call 41; refine (nodesIt_any e _ _).mono ?_; rintro r w2 ⟨rfl, rfl⟩; clear c1 f1))
  have HG := Lib.hid (show w.heap.size < w1.heap.size by have := HB1.out.lt; omega)
  have hz1 : (w1.alloc (.map #[] 0)).heap.size = w1.heap.size + 1 := World.size_alloc _ _
  have hz2 : ((w1.alloc (.map #[] 0)).alloc (.cells #[.map (some w1.heap.size)] 49)).heap.size = w1.heap.size + 1 + 1 := by rw [World.size_alloc, hz1]
  have hb2 : Below w1.heap.size w1 ((w1.alloc (.map #[] 0)).alloc (.cells #[.map (some w1.heap.size)] 49)) := ((Below.refl _ _).alloc (Nat.le_refl _) _).alloc (by omega) _
  have hnb : Has ((w1.alloc (.map #[] 0)).alloc (.cells #[.map (some w1.heap.size)] 49)) (w1.heap.size + 1) 49 #[.map (some w1.heap.size)] := by rw [← hz1]; exact Has.new _ _ _
  have hI0 : CuI w w1.heap.size [] ((w1.alloc (.map #[] 0)).alloc (.cells #[.map (some w1.heap.size)] 49)) := ⟨⟨[], (Mp.new w1 Value.string).alloc _, List.nodup_nil, fun x => Iff.rfl, fun p hp => (by cases hp)⟩, hnb, HB.out.trans (hb2.mono HB.out.size), HG.out⟩
  have HI0 := Lib.hid (hI0.below ((Below.refl _ _).alloc (Nat.le_refl _) (.cells (exA e (.slice A e.kids.length cc)) 27)))
  have heb := Has.new ((w1.alloc (.map #[] 0)).alloc (.cells #[.map (some w1.heap.size)] 49)) 27 (exA e (.slice A e.kids.length cc))
  have hz3 : (((w1.alloc (.map #[] 0)).alloc (.cells #[.map (some w1.heap.size)] 49)).alloc (.cells (exA e (.slice A e.kids.length cc)) 27)).heap.size = w1.heap.size + 1 + 1 + 1 := by rw [World.size_alloc, hz2]
  rw [hz2] at heb
  have HEB := Lib.hid heb
  have HZ3 := Lib.hid hz3
  clear hI0 hnb hb2 heb hz3
  clear hz1 hz2
  generalize (((w1.alloc (.map #[] 0)).alloc (.cells #[.map (some w1.heap.size)] 49)).alloc (.cells (exA e (.slice A e.kids.length cc)) 27)) = w3 at *
  generalize w1.heap.size = g at *
  refine (wpIn_wide (n := 9)).1 ?_
  refine wpIn_rangeFunc_ownH rfl (by omega) (gf := 70) (lb := #[.pointer (some ⟨g + 1 + 1, 0, none⟩)]) rfl trivial (enters_of Tryz.func70 (by kernel_rfl) rfl)
    (nodes_stops e (.slice A e.kids.length cc) (g + 1 + 1) 8 w3 (by have := HC60.out; omega) HEB.out (HLL.out.later (HI0.out.b.mono (Nat.le_refl _)))) KpO.trans (fun W l o o' _ h hc _ => KpO.putObj o' h hc) (Below.refl _ _) (fun _ => rfl)
    (CuI w g) (fun _ _ _ => False) (CuI.own (by have := HZ3.out; omega)) (fun _ _ _ _ _ hs _ _ => hs) HI0.out
    (fun x a' W => ∃ Bx, g < Bx ∧ Has W Bx 27 (exA x.1 (kidV x)) ∧ a' = { tmps := #[.agg #[.int .i64 e.op, .string e.name, .string e.value, .int .i64 e.n, .int .i64 e.extra, .slice A e.kids.length cc], .pointer (some ⟨w.heap.size, 0, none⟩), .slice none 0 0, .pointer (some ⟨g + 1, 0, none⟩), .pointer (some ⟨Bx, 0, none⟩), .agg #[.int .i64 e.op, .string e.name, .string e.value, .int .i64 e.n, .int .i64 e.extra, .slice A e.kids.length cc], .agg #[.string ⟨#[114]⟩, .string ⟨#[107]⟩, .int .i64 e.op, .string e.name, .string e.value, .int .i64 e.n, .int .i64 e.extra, .slice A e.kids.length cc], .bool true, .bool false, .map (some g), .agg #[.int .i64 e.op, .string e.name, .string e.value, .int .i64 e.n, .int .i64 e.extra, .slice A e.kids.length cc], .func (.func 70) #[] #[.pointer (some ⟨g + 1 + 1, 0, none⟩)], exV x, undef, undef, undef, undef, undef, undef, undef, undef, undef, undef, undef, undef, undef, undef], defers := [] })
    (fun x a' _ X Y row hs hg hr => by obtain ⟨Bx, e1, e2, e3⟩ := hs; exact ⟨Bx, e1, has_own e2 hg (fun r e => (hr r e).2), e3⟩)
    ?assign ?body ?done ?stop
  case assign =>
    rintro l pre ⟨x, xA, xc⟩ W K hI hK
    have hB := (Below.refl W.heap.size W).alloc (Nat.le_refl _) (.cells (exA x (.slice xA x.kids.length xc)) 27)
    have hgl := hI.nb.lt
    dsimp only [exV, kidV, exA] at hK hB ⊢
    gi_wp2
    exact hK _ _ ((KeepsOthers.alloc _ _).from _) (KpO.of_below hB) (hI.below hB) ⟨W.heap.size, by omega, Has.new W _ _, rfl⟩
  case body =>
    rintro l pre ⟨x, xA, xc⟩ a' W hl ⟨r, hr⟩ hI ⟨Bx, hBx, hX, rfl⟩ hlt
    obtain ⟨m, hm, hn, hk, ht⟩ := hI.mp
    obtain ⟨c1, f1⟩ := hX.facts
    obtain ⟨c2, f2⟩ := hI.nb.facts
    obtain ⟨w6, hp6, hM6, hG6, hS6⟩ := run_put str_keying Tryz.underlying49 hm x.name (.bool true)
    have HW6 := Lib.hid (show KeepsFrom w3.heap.size W w6 ∧ KpO W w6 from ⟨KeepsFrom.of_grownBy hG6 (fun j e => by injection e with e; have := HZ3.out; omega), hm.kpo hG6⟩)
    have HP6 := Lib.hid (fun hx => hI.put (x := (x, xA, xc)) hn hk ht hx hM6 hG6)
    have HI6 := Lib.hid hI
    clear hM6 hG6 hS6 hm hn hk ht hI hX HV HF
    dsimp only [exV, kidV, exA] at c1 ⊢
    by_cases h5 : x.op = 5
    · have ho5 : (x.op == 5) = true := by simp [h5]
      have HQ := Lib.hid (HP6.out (show ownN x = [x.name] from if_pos (.inl h5)))
      clear h5 HP6
      gi_wp2
      exact ⟨HW6.out.1, HW6.out.2, HQ.out⟩
    · have ho5 : (x.op == 5) = false := by simp [h5]
      by_cases h6 : x.op = 6
      · have ho6 : (x.op == 6) = true := by simp [h6]
        have HQ := Lib.hid (HP6.out (show ownN x = [x.name] from if_pos (.inr h6)))
        clear h5 h6 HP6
        gi_wp2
        exact ⟨HW6.out.1, HW6.out.2, HQ.out⟩
      · have ho6 : (x.op == 6) = false := by simp [h6]
        have HQ := Lib.hid (HI6.out.skip (x := (x, xA, xc)) (show ownN x = [] from if_neg (fun h => h.elim h5 h6)))
        clear h5 h6 HP6
        gi_wp2
        exact ⟨KeepsFrom.refl _ _, KpO.refl _, HQ.out⟩
  case done =>
    rintro D ys W hD hS hI hK
    obtain ⟨m, hm, hn, hk, ht⟩ := hI.mp
    rw [hS, nod_limE] at hk
    have hml := nodup_len hn (fun x hx => (hk x).1 hx)
    have hll := lim_lenE e
    have HSO := Lib.hid (sortedOf_any g W m (limL e) hm hn hk (fun p hp => fit_limE e HF.out _ ((hk p.1).1 (List.mem_map.2 ⟨p, hp, rfl⟩))) (by have := HC60.out; simp only [List.length_map] at hml; omega))
    obtain ⟨c2, f2⟩ := hI.nb.facts
    have HI := Lib.hid hI
    have HK := Lib.hid hK
    clear hm hn hk ht hml hll hS hI hK HV
    go_wp2_with (first
      | (go_at_call 32; refine (keysOf_any g W).mono ?_; rintro r w5 ⟨rfl, rfl⟩; clear c2 f2)
      | (go_at_call 31; refine HSO.out.mono ?_; rintro r w6 ⟨v, rfl, hrow, hb⟩; have HR := Lib.hid (own_base hrow (Nat.le_succ_of_le HI.out.b.size)); have HBR := Lib.hid (HI.out.b.trans (hb.mono HI.out.b.size)); have HK6 := Lib.hid ((hb.block D (by have := (Array.getElem?_eq_some_iff.1 HK.out).1; exact this)).trans HK.out); clear hrow hb))
    refine ⟨by simp, .inl ⟨_, _, rfl, run_takeDeferred HK6.out, ?_⟩⟩
    refine ⟨v, by simp [results, Tryz.f18, go_sem], v, rfl, by rw [HU.out]; exact ownsRow_putObj HR.out _ HK6.out rfl, HBR.out.trans (belowK_b (w := w) (Nat.le_refl _) _ D _ _ (by have := HG.out; have := HZ3.out; omega) HK6.out rfl rfl)⟩
  case stop => exact fun D c pre W _ _ h _ => h.elim
theorem curr_any (e : Ex) (kv : Value) (w : World) (hc : cnt e ≤ 1000000) (hf : FitE e) (hl : Lay w kv e.kids) : Calls Tryz.prog 18 #[.agg #[.int .i64 e.op, .string e.name, .string e.value, .int .i64 e.n, .int .i64 e.extra, kv]] w (KnR w (curU e)) := by
  cases hr : ruleB (rkU e) with
  | false => exact cur_no e kv w hc hf hl hr
  | true => exact cur_yes e kv w hc hf hl hr
end Go.Proofs.YtcpakaiblelmlaaGreatDoor
namespace Go.Proofs.YtcpakaiblelmlaaGreatDoor
open Go Go.RowKit
/-- The boxes of a catalog and of a rule. -/
structure B2 (w : World) (cv : Value) (ra : Array Value) (W : World) : Prop where
  c : Has W w.heap.size 24 #[cv]
  r : Has W (w.heap.size + 1) 29 ra
  b : Below w.heap.size w W
section
variable {w W W' : World} {cv : Value} {ra : Array Value}
theorem B2.below (h : B2 w cv ra W) (hb : Below W.heap.size W W') : B2 w cv ra W' := ⟨h.c.below hb h.c.lt, h.r.below hb h.r.lt, h.b.trans (hb.mono h.b.size)⟩
theorem B2.lt (h : B2 w cv ra W) : w.heap.size + 2 ≤ W.heap.size := h.r.lt
theorem B2.start (w : World) (cv : Value) (ra : Array Value) : B2 w cv ra ((w.alloc (.cells #[cv] 24)).alloc (.cells ra 29)) := by
  have z1 : (w.alloc (.cells #[cv] 24)).heap.size = w.heap.size + 1 := World.size_alloc _ _
  refine ⟨(Has.new _ _ _).alloc _, ?_, ((Below.refl _ _).alloc (Nat.le_refl _) _).alloc (by omega) _⟩
  rw [← z1]; exact Has.new _ _ _
end
theorem fewU_cnt {r : Ru} (h : fewU r = true) : cnt r.cond ≤ 80 := by
  unfold fewU at h
  rw [Bool.and_eq_true] at h
  have h2 := h.2
  unfold fewE at h2
  simp only [Bool.and_eq_true, decide_eq_true_eq] at h2
  exact h2.1
set_option maxRecDepth 100000 in
set_option maxHeartbeats 8000000 in
theorem few21_any (w0 : World) (cv : Value) (c : List Kd) (r : Ru) (kv : Value) (w : World) (hb0 : Below w0.heap.size w0 w) (hcv : Cat w0 cv c) (hlay : Lay w0 kv r.cond.kids) :
    Calls Tryz.prog 8 #[.agg #[cv], .agg (ruA r kv)] w fun e w' => e = .returned (.bool (fewCa c && fewU r)) ∧ Below w.heap.size w w' := by
  obtain ⟨A, cc, rfl, _⟩ := hlay.slice
  have H0 := Lib.hid (B2.start w cv #[.string r.name, .string r.kind, .int .i64 r.cond.op, .string r.cond.name, .string r.cond.value, .int .i64 r.cond.n, .int .i64 r.cond.extra, .slice A r.cond.kids.length cc])
  have HB0 := Lib.hid hb0
  have HCV := Lib.hid hcv
  have HLY := Lib.hid hlay
  show Calls _ _ #[.agg #[cv], .agg #[.string r.name, .string r.kind, .int .i64 r.cond.op, .string r.cond.name, .string r.cond.value, .int .i64 r.cond.n, .int .i64 r.cond.extra, .slice A r.cond.kids.length cc]] _ _
  clear hb0 hcv hlay
  obtain ⟨dK, fK⟩ := H0.out.c.facts
  obtain ⟨dR, fR⟩ := H0.out.r.facts
  cases hc : fewCa c with
  | false =>
    have HC := Lib.hid hc
    clear hc
    go_enter Tryz.func8, Tryz.ntmps8
    go_wp2_with (go_at_call 23; refine (few08_any w0 cv c _ (HB0.out.trans (H0.out.b.mono HB0.out.size)) HCV.out).mono ?_; rintro e w1 ⟨rfl, hb⟩; (rw [HC.out]); have HB := Lib.hid (H0.out.b.trans (hb.mono H0.out.b.size)); clear hb dK fK dR fR)
    go_ret
    exact ⟨rfl, HB.out⟩
  | true =>
    have HC := Lib.hid hc
    clear hc
    go_enter Tryz.func8, Tryz.ntmps8
    go_wp2_with (first
      | (go_at_call 23; refine (few08_any w0 cv c _ (HB0.out.trans (H0.out.b.mono HB0.out.size)) HCV.out).mono ?_; rintro e w1 ⟨rfl, hb⟩; (rw [HC.out]); have H1 := Lib.hid (H0.out.below hb); clear hb dK fK dR fR; obtain ⟨dR, fR⟩ := H1.out.r.facts)
      | (go_at_call 24; refine (few1_any r (.slice A r.cond.kids.length cc) _ (HLY.out.later (HB0.out.trans (H1.out.b.mono HB0.out.size)))).mono ?_; rintro e w2 ⟨rfl, hb⟩; have HB := Lib.hid (H1.out.b.trans (hb.mono H1.out.b.size)); clear hb dR fR))
    go_ret
    exact ⟨ret_bool (Bool.true_and _).symm, HB.out⟩
set_option maxRecDepth 100000 in
set_option maxHeartbeats 8000000 in
theorem in21_any (v : Value) (l : List ByteArray) (x : ByteArray) (w : World) (hv : Sl w v l.length 1 (strF l)) (hl : l.length ≤ 1000000) :
    Calls Tryz.prog 15 #[v, .string x] w fun e w' => e = .returned (.bool (inS l x)) ∧ w' = w := by
  obtain ⟨A, cc, rfl, hn, hc⟩ := hv
  have HC := Lib.hid hc
  clear hc
  go_enter Tryz.func15, Tryz.ntmps15
  go_wp2_with fail
  go_loop [5] (fun i => ∃ k : Nat, k ≤ l.length ∧ i = .int .i64 k ∧ Hid (inS (l.take k) x = false)) (fun i => l.length - (intOf i).toNat)
  case atStart => exact ⟨0, Nat.zero_le _, rfl, Lib.hid (by rw [List.take_zero]; rfl)⟩
  case round =>
    obtain ⟨k, hk, rfl, hrel⟩ := hrel
    by_cases hlt : k < l.length
    · obtain ⟨b, o, rfl, hcc⟩ : ∃ b o, A = some ⟨b, o, none⟩ ∧ ∀ j, j < l.length * 1 → w.cell? ⟨b, o + j, none⟩ = some (strF l j) := HC.out.resolve_left (by omega)
      have hce : w.cell? ⟨b, o + k, none⟩ = some (.string (l.getD k ByteArray.empty)) := hcc k (by omega)
      have hki : (k : Int) < (l.length : Int) := by omega
      have HT := Lib.hid (take_getD l k ByteArray.empty hlt)
      have HM := Lib.hid (getD_mem l k ByteArray.empty hlt)
      clear hcc
      generalize l.getD k ByteArray.empty = y at *
      have hbe := beq_bytes y x
      cases he : (y.toList == x.toList)
      · have hne : y ≠ x := by rw [he] at hbe; exact of_decide_eq_false hbe.symm
        have HN := Lib.hid (show inS (l.take (k + 1)) x = false by
          rw [HT.out]
          unfold inS
          rw [List.any_append, show (l.take k).any (fun y => decide (y = x)) = false from hrel.out]
          simp [hne])
        clear hne hbe
        go_wp2_with fail
        go_round
        case rel => exact ⟨k + 1, by omega, by go_num, HN⟩
        case measure => simp [intOf]; omega
      · have heq : y = x := by rw [he] at hbe; exact of_decide_eq_true hbe.symm
        have HI := Lib.hid (show inS l x = true by rw [inS_iff]; exact heq ▸ HM.out)
        clear heq hbe
        go_wp2_with fail
        go_ret
        exact ⟨ret_bool HI.out.symm, rfl⟩
    · obtain rfl : k = l.length := by omega
      have HN := Lib.hid (show inS l x = false by have := hrel.out; rwa [List.take_length] at this)
      go_wp2_with fail
      go_ret
      exact ⟨ret_bool HN.out.symm, rfl⟩
end Go.Proofs.YtcpakaiblelmlaaGreatDoor
namespace Go.Proofs.YtcpakaiblelmlaaGreatDoor
open Go Go.RowKit
theorem cell_kpo {A B : World} {b o : Nat} {v : Value} (hk : KpO A B) (h : A.cell? ⟨b, o, none⟩ = some v) : B.cell? ⟨b, o, none⟩ = some v := by
  unfold World.cell? at h ⊢
  cases hb : A.heap[b]? with
  | none => rw [show A.heap[(⟨b, o, none⟩ : Addr).block]? = none from hb] at h; cases h
  | some ob =>
    cases ob with
    | cells cs t fr =>
      have hB := hk b _ hb rfl
      show (match B.heap[b]? with | _ => _) = _
      rw [hB]
      have h : (match A.heap[b]? with | _ => _) = _ := h
      rw [hb] at h
      exact h
    | _ => rw [show A.heap[(⟨b, o, none⟩ : Addr).block]? = _ from hb] at h; cases h
theorem Sl.kpo {A B : World} {v : Value} {n sz : Nat} {f : Nat → Value} (h : Sl A v n sz f) (hk : KpO A B) : Sl B v n sz f := by
  obtain ⟨A', c, e, h1, h2⟩ := h
  exact ⟨A', c, e, h1, h2.imp id fun ⟨b, o, ha, hc⟩ => ⟨b, o, ha, fun j hj => cell_kpo hk (hc j hj)⟩⟩
theorem mput_old {m : List (ByteArray × Value)} (ht : ∀ p ∈ m, p.2 = .bool true) {x : ByteArray} (hi : inS (keysL m) x = true) : mput m x (.bool true) = m := by
  have hx := (inS_iff _ _).1 hi
  unfold mput
  cases hq : m.findIdx? (fun p => decide (p.1 = x)) with
  | none =>
    rw [List.findIdx?_eq_none_iff] at hq
    obtain ⟨p, hp, e⟩ := List.mem_map.1 hx
    have := hq p hp
    simp [e] at this
  | some i =>
    obtain ⟨v, hv, _⟩ := find_some hq
    have := ht _ (List.mem_of_getElem? hv)
    show m.set i (x, .bool true) = m
    rw [show (x, Value.bool true) = (x, v) by rw [show v = .bool true from this]]
    refine List.ext_getElem? fun j => ?_
    rw [List.getElem?_set]
    split
    · rename_i e
      subst e
      split
      · exact hv.symm
      · rename_i h
        rw [List.getElem?_eq_none (by omega)]
    · rfl
theorem inc_get {l : List ByteArray} (h : Inc l) {k : Nat} (h0 : k ≠ 0) (hk : k < l.length) : ltS (l.getD (k - 1) ByteArray.empty) (l.getD k ByteArray.empty) = true := by
  cases k with
  | zero => exact absurd rfl h0
  | succ j =>
    have := inc_at h (i := j) hk
    rw [List.getD_eq_getElem?_getD, List.getD_eq_getElem?_getD, List.getElem?_eq_getElem hk, show j + 1 - 1 = j from rfl, List.getElem?_eq_getElem (by omega)]
    exact this
/-- The names seen so far: their keys, each once. -/
structure Seen (m : List (ByteArray × Value)) (S : List ByteArray) : Prop where
  nd : (keysL m).Nodup
  ks : ∀ x, x ∈ keysL m ↔ x ∈ S
  tr : ∀ p ∈ m, p.2 = .bool true
theorem Seen.put {m : List (ByteArray × Value)} {S : List ByteArray} (h : Seen m S) (x : ByteArray) : Seen (mput m x (.bool true)) (S ++ [x]) := by
  obtain ⟨k1, k2, k3⟩ := mput_keys h.nd h.tr x
  exact ⟨k1, fun y => by rw [k2 y, h.ks y, List.mem_append, List.mem_singleton], k3⟩
theorem Seen.len {m : List (ByteArray × Value)} {S : List ByteArray} (h : Seen m S) : m.length ≤ S.length := by
  have := nodup_len h.nd fun x hx => (h.ks x).1 hx
  rwa [List.length_map] at this
theorem Seen.all {m : List (ByteArray × Value)} {S : List ByteArray} (h : Seen m S) : m.length = (sortD S).length := by
  rw [sortD_len]
  obtain ⟨h1, h2⟩ := nubL_all S
  have a := nodup_len h.nd (fun x hx => (h2 x).2 ((h.ks x).1 hx))
  have b := nodup_len h1 (fun x hx => (h.ks x).2 ((h2 x).1 hx))
  rw [List.length_map] at a b
  omega
/-- What lies in memory while the kids' currencies are counted. -/
structure Q6 (w : World) (cv : Value) (ra : Array Value) (g : Nat) (v : Value) (l : List ByteArray) (m : List (ByteArray × Value)) (W : World) : Prop where
  bx : B2 w cv ra W
  mp : Mp W Value.string g m
  sl : Sl W v l.length 1 (strF l)
  hg : w.heap.size ≤ g
section
variable {w W W' : World} {cv v : Value} {ra : Array Value} {g : Nat} {l : List ByteArray} {m : List (ByteArray × Value)}
theorem Q6.below (h : Q6 w cv ra g v l m W) (hb : Below W.heap.size W W') : Q6 w cv ra g v l m W' := ⟨h.bx.below hb, h.mp.below hb h.mp.lt, h.sl.below hb, h.hg⟩
theorem Q6.put (h : Q6 w cv ra g v l m W) {m' : List (ByteArray × Value)} (hm : Mp W' Value.string g m') (hgr : W.grownBy W' (some g)) : Q6 w cv ra g v l m' W' :=
  have hk := h.mp.kpo hgr
  ⟨⟨h.bx.c.kpo hk, h.bx.r.kpo hk, h.bx.b.grown hgr h.bx.b.size (fun k e => by injection e with e; have := h.hg; omega)⟩, hm, h.sl.kpo hk, h.hg⟩
end
end Go.Proofs.YtcpakaiblelmlaaGreatDoor
