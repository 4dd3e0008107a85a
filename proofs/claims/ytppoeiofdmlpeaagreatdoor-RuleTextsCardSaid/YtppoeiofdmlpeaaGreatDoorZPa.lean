/- bogielaw20.RuleParts answers true. Condition: the table of powers of ten, and the error variables; the rules lie in memory, their strings fit. -/
import Derived.BigRegion
import Derived.Deep.Cut
import Derived.Deep.CutRange
import Derived.Test.YtppoeiofdmlpeaaGreatDoorZNa
namespace Go.Proofs.YtppoeiofdmlpeaaGreatDoor
open Go Go.RowKit
/-- What is known of the boxes of the two rules. -/
structure TP (w : World) (a b : Ru) (va vb : Value) (W : World) : Prop where
  bl : Below w.heap.size w W
  ha : Has W w.heap.size 26 (ruA a va)
  hb : Has W (w.heap.size + 1) 26 (ruA b vb)
  la : LayS (fun k => k < w.heap.size) W va a.cond.kids
  lb : LayS (fun k => k < w.heap.size) W vb b.cond.kids
section
variable {w W W' : World} {a b : Ru} {va vb : Value}
theorem TP.size (h : TP w a b va vb W) : w.heap.size + 1 < W.heap.size := h.hb.lt
theorem TP.later (h : TP w a b va vb W) (hb : Below W.heap.size W W') : TP w a b va vb W' := ⟨h.bl.trans (hb.mono h.bl.size), h.ha.below hb h.ha.lt, h.hb.below hb h.hb.lt, h.la.later hb, h.lb.later hb⟩
theorem TP.alloc (h : TP w a b va vb W) (o : Obj) : TP w a b va vb (W.alloc o) := h.later ((Below.refl _ _).alloc (Nat.le_refl _) _)
theorem TP.drew (h : TP w a b va vb W) : TP w a b va vb W.drew := h.later (Below.refl _ _).drew
theorem TP.start (hla : Lay w va a.cond.kids) (hlb : Lay w vb b.cond.kids) : TP w a b va vb ((w.alloc (.cells (ruA a va) 26)).alloc (.cells (ruA b vb) 26)) := by
  have hb : Below w.heap.size w ((w.alloc (.cells (ruA a va) 26)).alloc (.cells (ruA b vb) 26)) := ((Below.refl _ _).alloc (Nat.le_refl _) _).alloc (by simp) _
  have h2 := Has.new (w.alloc (.cells (ruA a va) 26)) 26 (ruA b vb)
  rw [World.size_alloc] at h2
  exact ⟨hb, (Has.new w _ _).alloc _, h2, (hla.mono fun k _ h => h).later hb, (hlb.mono fun k _ h => h).later hb⟩
end
/-- The boxes of the two rules made of them, besides. -/
structure TQ (w : World) (a b : Ru) (va vb : Value) (g h : Nat) (X Y : Array Value) (W : World) : Prop where
  p : TP w a b va vb W
  hx : Has W g 26 X
  hy : Has W h 26 Y
  ne : g ≠ h
  l6 : w.heap.size + 1 < g
  l7 : w.heap.size + 1 < h
section
variable {w W W' : World} {a b : Ru} {va vb : Value} {g h : Nat} {X Y : Array Value}
theorem TQ.later (q : TQ w a b va vb g h X Y W) (hb : Below W.heap.size W W') : TQ w a b va vb g h X Y W' := ⟨q.p.later hb, q.hx.below hb q.hx.lt, q.hy.below hb q.hy.lt, q.ne, q.l6, q.l7⟩
theorem TQ.alloc (q : TQ w a b va vb g h X Y W) (o : Obj) : TQ w a b va vb g h X Y (W.alloc o) := q.later ((Below.refl _ _).alloc (Nat.le_refl _) _)
theorem TQ.drew (q : TQ w a b va vb g h X Y W) : TQ w a b va vb g h X Y W.drew := q.later (Below.refl _ _).drew
theorem TP.six (p : TP w a b va vb W) {k : Nat} (hk : w.heap.size + 1 < k) (v0 v1 v2 v3 v4 v5 : Value) : TP w a b va vb (six2 W k v0 v1 v2 v3 v4 v5) :=
  ⟨six2_below p.bl (by omega) _ _ _ _ _ _, (six2_old _ _ _ _ _ _ _ _ (by omega)).trans p.ha, (six2_old _ _ _ _ _ _ _ _ (by omega)).trans p.hb, six2_lay p.la (fun i hi => by omega) _ _ _ _ _ _, six2_lay p.lb (fun i hi => by omega) _ _ _ _ _ _⟩
theorem TQ.sixX {n k : Value} {x0 x1 x2 x3 x4 x5 : Value} (q : TQ w a b va vb g h #[n, k, x0, x1, x2, x3, x4, x5] Y W) (v0 v1 v2 v3 v4 v5 : Value) : TQ w a b va vb g h #[n, k, v0, v1, v2, v3, v4, v5] Y (six2 W g v0 v1 v2 v3 v4 v5) :=
  ⟨q.p.six q.l6 _ _ _ _ _ _, six2_has q.hx _ _ _ _ _ _, (six2_old _ _ _ _ _ _ _ _ (Ne.symm q.ne)).trans q.hy, q.ne, q.l6, q.l7⟩
theorem TQ.sixY {n k : Value} {x0 x1 x2 x3 x4 x5 : Value} (q : TQ w a b va vb g h X #[n, k, x0, x1, x2, x3, x4, x5] W) (v0 v1 v2 v3 v4 v5 : Value) : TQ w a b va vb g h X #[n, k, v0, v1, v2, v3, v4, v5] (six2 W h v0 v1 v2 v3 v4 v5) :=
  ⟨q.p.six q.l7 _ _ _ _ _ _, (six2_old _ _ _ _ _ _ _ _ q.ne).trans q.hx, six2_has q.hy _ _ _ _ _ _, q.ne, q.l6, q.l7⟩
end
theorem TP.two {w W : World} {a b : Ru} {va vb : Value} (p : TP w a b va vb W) (X Y : Array Value) : TQ w a b va vb W.heap.size (W.heap.size + 1) X Y ((W.alloc (.cells X 26)).alloc (.cells Y 26)).drew := by
  have h2 := Has.new (W.alloc (.cells X 26)) 26 Y
  rw [World.size_alloc] at h2
  have hz := p.size
  exact ⟨((p.alloc _).alloc _).drew, ((Has.new W _ _).alloc _).drew, h2.drew, by omega, by omega, by omega⟩
theorem TP.two' {w W : World} {a b : Ru} {va vb : Value} (p : TP w a b va vb W) (X Y : Array Value) : TQ w a b va vb (W.heap.size + 1) W.heap.size X Y ((W.alloc (.cells Y 26)).alloc (.cells X 26)).drew := by
  have h2 := Has.new (W.alloc (.cells Y 26)) 26 X
  rw [World.size_alloc] at h2
  have hz := p.size
  exact ⟨((p.alloc _).alloc _).drew, h2.drew, ((Has.new W _ _).alloc _).drew, by omega, by omega, by omega⟩
theorem ru_two {W : World} {g t : Nat} {a b : Ru} {va vb : Value} (h : Has W g t (ruA a va ++ ruA b vb)) (hla : Lay W va a.cond.kids) (hlb : Lay W vb b.cond.kids) : RuL W (.slice (some ⟨g, 0, none⟩) 2 2) [a, b] := by
  refine ⟨_, 2, rfl, Nat.le_refl _, .inr ⟨g, 0, rfl, fun i hi => ?_⟩⟩
  match i, hi with
  | 0, _ =>
    refine ⟨va, fun j hj => ?_, hla⟩
    rcases (by omega : j = 0 ∨ j = 1 ∨ j = 2 ∨ j = 3 ∨ j = 4 ∨ j = 5 ∨ j = 6 ∨ j = 7) with rfl | rfl | rfl | rfl | rfl | rfl | rfl | rfl
    all_goals exact h.cell _
  | 1, _ =>
    refine ⟨vb, fun j hj => ?_, hlb⟩
    rcases (by omega : j = 0 ∨ j = 1 ∨ j = 2 ∨ j = 3 ∨ j = 4 ∨ j = 5 ∨ j = 6 ∨ j = 7) with rfl | rfl | rfl | rfl | rfl | rfl | rfl | rfl
    all_goals exact h.cell _
/-- A row of one condition, and one of two. -/
theorem lay1R {S : Nat → Prop} {W : World} {g t : Nat} {e : Ex} {kv : Value} (h : Has W g t (exA e kv)) (hg : S g) (hl : LayS S W kv e.kids) : LayS S W (.slice (some ⟨g, 0, none⟩) 1 1) [e] := by
  refine LayS.mk (some ⟨g, 0, none⟩) 1 [e] (fun _ => kv) (Nat.le_refl _) (.inr ⟨g, 0, rfl, hg, fun i hi j hj => ?_⟩) fun i hi => ?_
  · match i, hi with
    | 0, _ =>
      rcases (by omega : j = 0 ∨ j = 1 ∨ j = 2 ∨ j = 3 ∨ j = 4 ∨ j = 5) with rfl | rfl | rfl | rfl | rfl | rfl
      all_goals exact h.cell _
  · match i, hi with
    | 0, _ => exact hl
theorem lay2R {S : Nat → Prop} {W : World} {g t : Nat} {e f : Ex} {kv lv : Value} (h : Has W g t (exA e kv ++ exA f lv)) (hg : S g) (hl : LayS S W kv e.kids) (hm : LayS S W lv f.kids) : LayS S W (.slice (some ⟨g, 0, none⟩) 2 2) [e, f] := by
  refine LayS.mk (some ⟨g, 0, none⟩) 2 [e, f] (fun i => if i = 0 then kv else lv) (Nat.le_refl _) (.inr ⟨g, 0, rfl, hg, fun i hi j hj => ?_⟩) fun i hi => ?_
  · match i, hi with
    | 0, _ =>
      rcases (by omega : j = 0 ∨ j = 1 ∨ j = 2 ∨ j = 3 ∨ j = 4 ∨ j = 5) with rfl | rfl | rfl | rfl | rfl | rfl
      all_goals exact h.cell _
    | 1, _ =>
      rcases (by omega : j = 0 ∨ j = 1 ∨ j = 2 ∨ j = 3 ∨ j = 4 ∨ j = 5) with rfl | rfl | rfl | rfl | rfl | rfl
      all_goals exact h.cell _
  · match i, hi with
    | 0, _ => exact hl
    | 1, _ => exact hm
/-- The box of the negation, made; and that of the conjunction. -/
theorem TQ.negate {w W : World} {a b : Ru} {va vb : Value} {g h : Nat} {Y : Array Value} {n k x0 x1 x2 x3 x4 x5 : Value} (q : TQ w a b va vb g h #[n, k, x0, x1, x2, x3, x4, x5] Y W) :
    TQ w a b va vb g h #[n, k, .int .i64 2, .string ⟨#[]⟩, .string ⟨#[]⟩, .int .i64 0, .int .i64 0, .slice (some ⟨W.heap.size, 0, none⟩) 1 1] Y ((six2 W g (.int .i64 2) (.string ⟨#[]⟩) (.string ⟨#[]⟩) (.int .i64 0) (.int .i64 0) (.slice (some ⟨W.heap.size, 0, none⟩) 1 1)).alloc (.cells (exA a.cond va) 24)) ∧
    LayS (fun i => i ≠ g ∧ i ≠ h) ((six2 W g (.int .i64 2) (.string ⟨#[]⟩) (.string ⟨#[]⟩) (.int .i64 0) (.int .i64 0) (.slice (some ⟨W.heap.size, 0, none⟩) 1 1)).alloc (.cells (exA a.cond va) 24)) (.slice (some ⟨W.heap.size, 0, none⟩) 1 1) [a.cond] := by
  have h1 := q.sixX (.int .i64 2) (.string ⟨#[]⟩) (.string ⟨#[]⟩) (.int .i64 0) (.int .i64 0) (.slice (some ⟨W.heap.size, 0, none⟩) 1 1)
  have h2 := h1.alloc (.cells (exA a.cond va) 24)
  have hr := Has.new (six2 W g (.int .i64 2) (.string ⟨#[]⟩) (.string ⟨#[]⟩) (.int .i64 0) (.int .i64 0) (.slice (some ⟨W.heap.size, 0, none⟩) 1 1)) 24 (exA a.cond va)
  rw [six2_size] at hr
  have l1 := q.hx.lt
  have l2 := q.hy.lt
  have l6 := q.l6
  have l7 := q.l7
  exact ⟨h2, lay1R hr ⟨by omega, by omega⟩ (h2.p.la.mono fun i hi _ => ⟨by omega, by omega⟩)⟩
theorem TQ.unite {w W : World} {a b : Ru} {va vb v : Value} {g h : Nat} {X : Array Value} {n k x0 x1 x2 x3 x4 x5 : Value} {ks : List Ex} (q : TQ w a b va vb g h X #[n, k, x0, x1, x2, x3, x4, x5] W) (lx : LayS (fun i => i ≠ g ∧ i ≠ h) W v ks) :
    TQ w a b va vb g h X #[n, k, .int .i64 3, .string ⟨#[]⟩, .string ⟨#[]⟩, .int .i64 0, .int .i64 0, .slice (some ⟨W.heap.size, 0, none⟩) 2 2] ((six2 W h (.int .i64 3) (.string ⟨#[]⟩) (.string ⟨#[]⟩) (.int .i64 0) (.int .i64 0) (.slice (some ⟨W.heap.size, 0, none⟩) 2 2)).alloc (.cells (exA a.cond va ++ exA b.cond vb) 24)) ∧
    LayS (fun i => i ≠ g ∧ i ≠ h) ((six2 W h (.int .i64 3) (.string ⟨#[]⟩) (.string ⟨#[]⟩) (.int .i64 0) (.int .i64 0) (.slice (some ⟨W.heap.size, 0, none⟩) 2 2)).alloc (.cells (exA a.cond va ++ exA b.cond vb) 24)) v ks ∧
    LayS (fun i => i ≠ g ∧ i ≠ h) ((six2 W h (.int .i64 3) (.string ⟨#[]⟩) (.string ⟨#[]⟩) (.int .i64 0) (.int .i64 0) (.slice (some ⟨W.heap.size, 0, none⟩) 2 2)).alloc (.cells (exA a.cond va ++ exA b.cond vb) 24)) (.slice (some ⟨W.heap.size, 0, none⟩) 2 2) [a.cond, b.cond] := by
  have h1 := q.sixY (.int .i64 3) (.string ⟨#[]⟩) (.string ⟨#[]⟩) (.int .i64 0) (.int .i64 0) (.slice (some ⟨W.heap.size, 0, none⟩) 2 2)
  have h2 := h1.alloc (.cells (exA a.cond va ++ exA b.cond vb) 24)
  have hr := Has.new (six2 W h (.int .i64 3) (.string ⟨#[]⟩) (.string ⟨#[]⟩) (.int .i64 0) (.int .i64 0) (.slice (some ⟨W.heap.size, 0, none⟩) 2 2)) 24 (exA a.cond va ++ exA b.cond vb)
  rw [six2_size] at hr
  have l1 := q.hx.lt
  have l2 := q.hy.lt
  have l6 := q.l6
  have l7 := q.l7
  exact ⟨h2, (six2_lay lx (fun i hi => hi.2) _ _ _ _ _ _).later ((Below.refl _ _).alloc (Nat.le_refl _) _), lay2R hr ⟨by omega, by omega⟩ (h2.p.la.mono fun i hi _ => ⟨by omega, by omega⟩) (h2.p.lb.mono fun i hi _ => ⟨by omega, by omega⟩)⟩
theorem fit_not {c : Ex} (h : FitE c) : FitE (notE c) := by
  have z : In64E 0 := small64 (by decide) (by decide)
  refine .mk _ (Nat.zero_le _) (Nat.zero_le _) (show In64E 2 from small64 (by decide) (by decide)) z z (show 1 ≤ maxLen by decide) fun k hk => ?_
  obtain rfl := List.mem_singleton.1 (show k ∈ [c] from hk)
  exact h
theorem fit_both {c d : Ex} (h : FitE c) (h2 : FitE d) : FitE (bothE c d) := by
  have z : In64E 0 := small64 (by decide) (by decide)
  refine .mk _ (Nat.zero_le _) (Nat.zero_le _) (show In64E 3 from small64 (by decide) (by decide)) z z (show 2 ≤ maxLen by decide) fun k hk => ?_
  rcases List.mem_cons.1 (show k ∈ [c, d] from hk) with rfl | hk
  · exact h
  · obtain rfl := List.mem_singleton.1 hk
    exact h2
set_option maxRecDepth 100000 in
set_option maxHeartbeats 8000000 in
theorem parts_few (w0 : World) (ht : Tab w0) (hv : Evs w0) (a b : Ru) (va vb : Value) (w : World) (hb0 : Below w0.heap.size w0 w)  (hla : Lay w va a.cond.kids) (hlb : Lay w vb b.cond.kids) (hw : fewsU [a, b] = false) :
    Calls Tryz.prog 5 #[.agg (ruA a va), .agg (ruA b vb)] w fun e w' => e = .returned (.bool true) ∧ Below w.heap.size w w' := by
  have hsz0 := hb0.size
  have HHD := Lib.hid (fun W (hb : Below w.heap.size w W) => head_any w0 W ht hv (hb0.trans (hb.mono hsz0)))
  have HFW := Lib.hid (fun (g : Nat) W (h : RuL W (.slice (some ⟨g, 0, none⟩) 2 2) [a, b]) => few_any _ [a, b] W h (show 2 ≤ 5 by decide))
  have HS := Lib.hid (TP.start hla hlb)
  rw [hw] at HFW
  obtain ⟨A, c, rfl, _⟩ := hla.slice
  obtain ⟨B, d, rfl, _⟩ := hlb.slice
  dsimp only [ruA] at *
  clear hla hlb hb0 ht hv
  go_enter Tryz.func5, Tryz.ntmps5
  go_wp2_with (first
    | (go_at_call 7; refine (HHD.out _ HS.out.bl).mono ?_; rintro e w2 ⟨rfl, hb⟩; have HP2 := Lib.hid (HS.out.later hb); obtain ⟨da2, fa2⟩ := HP2.out.ha.facts; (try dsimp only [ruA] at da2); obtain ⟨db2, fb2⟩ := HP2.out.hb.facts; (try dsimp only [ruA] at db2); clear hb)
    | (go_at_call 8; refine (HFW.out _ _ (ru_two (Has.new w2 26 #[.string a.name, .string a.kind, .int .i64 a.cond.op, .string a.cond.name, .string a.cond.value, .int .i64 a.cond.n, .int .i64 a.cond.extra, .slice A a.cond.kids.length c, .string b.name, .string b.kind, .int .i64 b.cond.op, .string b.cond.name, .string b.cond.value, .int .i64 b.cond.n, .int .i64 b.cond.extra, .slice B b.cond.kids.length d]) (HP2.out.alloc (.cells #[.string a.name, .string a.kind, .int .i64 a.cond.op, .string a.cond.name, .string a.cond.value, .int .i64 a.cond.n, .int .i64 a.cond.extra, .slice A a.cond.kids.length c, .string b.name, .string b.kind, .int .i64 b.cond.op, .string b.cond.name, .string b.cond.value, .int .i64 b.cond.n, .int .i64 b.cond.extra, .slice B b.cond.kids.length d] 26)).la.any (HP2.out.alloc (.cells #[.string a.name, .string a.kind, .int .i64 a.cond.op, .string a.cond.name, .string a.cond.value, .int .i64 a.cond.n, .int .i64 a.cond.extra, .slice A a.cond.kids.length c, .string b.name, .string b.kind, .int .i64 b.cond.op, .string b.cond.name, .string b.cond.value, .int .i64 b.cond.n, .int .i64 b.cond.extra, .slice B b.cond.kids.length d] 26)).lb.any)).mono ?_; rintro e w3 ⟨rfl, hb⟩; have HP3 := Lib.hid ((HP2.out.alloc (.cells #[.string a.name, .string a.kind, .int .i64 a.cond.op, .string a.cond.name, .string a.cond.value, .int .i64 a.cond.n, .int .i64 a.cond.extra, .slice A a.cond.kids.length c, .string b.name, .string b.kind, .int .i64 b.cond.op, .string b.cond.name, .string b.cond.value, .int .i64 b.cond.n, .int .i64 b.cond.extra, .slice B b.cond.kids.length d] 26)).later hb); clear da2 fa2 db2 fb2; obtain ⟨da3, fa3⟩ := HP3.out.ha.facts; (try dsimp only [ruA] at da3); obtain ⟨db3, fb3⟩ := HP3.out.hb.facts; (try dsimp only [ruA] at db3); clear hb))
  go_ret
  exact ⟨rfl, HP3.out.bl⟩
abbrev HidL (W : World) (A : Option Addr) (a : Ru) (c : Nat) : Prop := Lay W (.slice A a.cond.kids.length c) a.cond.kids
set_option maxRecDepth 100000 in
set_option maxHeartbeats 8000000 in
theorem parts_no (w0 : World) (ht : Tab w0) (hv : Evs w0) (a b : Ru) (va vb : Value) (w : World) (hb0 : Below w0.heap.size w0 w) (hca : cnt a.cond ≤ 80) (hcb : cnt b.cond ≤ 80) (hfa : FitE a.cond) (hfb : FitE b.cond) (hna : a.name.size ≤ maxLen) (hka : a.kind.size ≤ maxLen) (hla : Lay w va a.cond.kids) (hlb : Lay w vb b.cond.kids) (hw : fewsU [a, b] = true) (hn : ruleB a = false) :
    Calls Tryz.prog 5 #[.agg (ruA a va), .agg (ruA b vb)] w fun e w' => e = .returned (.bool true) ∧ Below w.heap.size w w' := by
  have hsz0 := hb0.size
  have HHD := Lib.hid (fun W (hb : Below w.heap.size w W) => head_any w0 W ht hv (hb0.trans (hb.mono hsz0)))
  have HFW := Lib.hid (fun (g : Nat) W (h : RuL W (.slice (some ⟨g, 0, none⟩) 2 2) [a, b]) => few_any _ [a, b] W h (show 2 ≤ 5 by decide))
  have HS := Lib.hid (TP.start hla hlb)
  have HVA := Lib.hid (fun W (h : Lay W va a.cond.kids) => valid_any a va W (by omega) hfa hna hka h)
  have HVN := Lib.hid (fun v W (h : Lay W v [a.cond]) => show Calls Tryz.prog 14 #[.agg #[.string a.name, .string a.kind, .int .i64 2, .string ⟨#[]⟩, .string ⟨#[]⟩, .int .i64 0, .int .i64 0, v]] W fun e w' => e = .returned (.bool (ruleB ⟨a.name, a.kind, notE a.cond⟩)) ∧ Below W.heap.size W w' from valid_any ⟨a.name, a.kind, notE a.cond⟩ v W (by have := cnt_not a.cond; dsimp only; omega) (fit_not hfa) hna hka h)
  have HVD := Lib.hid (fun v W (h : Lay W v [a.cond, b.cond]) => show Calls Tryz.prog 14 #[.agg #[.string a.name, .string a.kind, .int .i64 3, .string ⟨#[]⟩, .string ⟨#[]⟩, .int .i64 0, .int .i64 0, v]] W fun e w' => e = .returned (.bool (ruleB ⟨a.name, a.kind, bothE a.cond b.cond⟩)) ∧ Below W.heap.size W w' from valid_any ⟨a.name, a.kind, bothE a.cond b.cond⟩ v W (by have := cnt_both a.cond b.cond; dsimp only; omega) (fit_both hfa hfb) hna hka h)
  rw [hw] at HFW
  rw [hn] at HVA
  rw [rule_no_not hn] at HVN
  rw [rule_no_both b.cond hn] at HVD
  obtain ⟨A, c, rfl, _⟩ := hla.slice
  obtain ⟨B, d, rfl, _⟩ := hlb.slice
  dsimp only [ruA] at *
  clear hla hlb hb0 ht hv hca hcb hfa hfb hna hka
  go_enter Tryz.func5, Tryz.ntmps5
  go_wp2_with (first
    | (go_at_call 7; refine (HHD.out _ HS.out.bl).mono ?_; rintro e w2 ⟨rfl, hb⟩; have HP2 := Lib.hid (HS.out.later hb); obtain ⟨da2, fa2⟩ := HP2.out.ha.facts; (try dsimp only [ruA] at da2); obtain ⟨db2, fb2⟩ := HP2.out.hb.facts; (try dsimp only [ruA] at db2); clear hb)
    | (go_at_call 8; refine (HFW.out _ _ (ru_two (Has.new w2 26 #[.string a.name, .string a.kind, .int .i64 a.cond.op, .string a.cond.name, .string a.cond.value, .int .i64 a.cond.n, .int .i64 a.cond.extra, .slice A a.cond.kids.length c, .string b.name, .string b.kind, .int .i64 b.cond.op, .string b.cond.name, .string b.cond.value, .int .i64 b.cond.n, .int .i64 b.cond.extra, .slice B b.cond.kids.length d]) (HP2.out.alloc (.cells #[.string a.name, .string a.kind, .int .i64 a.cond.op, .string a.cond.name, .string a.cond.value, .int .i64 a.cond.n, .int .i64 a.cond.extra, .slice A a.cond.kids.length c, .string b.name, .string b.kind, .int .i64 b.cond.op, .string b.cond.name, .string b.cond.value, .int .i64 b.cond.n, .int .i64 b.cond.extra, .slice B b.cond.kids.length d] 26)).la.any (HP2.out.alloc (.cells #[.string a.name, .string a.kind, .int .i64 a.cond.op, .string a.cond.name, .string a.cond.value, .int .i64 a.cond.n, .int .i64 a.cond.extra, .slice A a.cond.kids.length c, .string b.name, .string b.kind, .int .i64 b.cond.op, .string b.cond.name, .string b.cond.value, .int .i64 b.cond.n, .int .i64 b.cond.extra, .slice B b.cond.kids.length d] 26)).lb.any)).mono ?_; rintro e w3 ⟨rfl, hb⟩; have HP3 := Lib.hid ((HP2.out.alloc (.cells #[.string a.name, .string a.kind, .int .i64 a.cond.op, .string a.cond.name, .string a.cond.value, .int .i64 a.cond.n, .int .i64 a.cond.extra, .slice A a.cond.kids.length c, .string b.name, .string b.kind, .int .i64 b.cond.op, .string b.cond.name, .string b.cond.value, .int .i64 b.cond.n, .int .i64 b.cond.extra, .slice B b.cond.kids.length d] 26)).later hb); clear da2 fa2 db2 fb2; obtain ⟨da3, fa3⟩ := HP3.out.ha.facts; (try dsimp only [ruA] at da3); obtain ⟨db3, fb3⟩ := HP3.out.hb.facts; (try dsimp only [ruA] at db3); clear hb))
  go_cut [6, 7] from 17 to 18 (fun p q wc => ∃ g h, p = .pointer (some ⟨g, 0, none⟩) ∧ q = .pointer (some ⟨h, 0, none⟩) ∧ Hid (TQ w a b (.slice A a.cond.kids.length c) (.slice B b.cond.kids.length d) g h #[.string a.name, .string a.kind, .int .i64 a.cond.op, .string a.cond.name, .string a.cond.value, .int .i64 a.cond.n, .int .i64 a.cond.extra, .slice A a.cond.kids.length c] #[.string a.name, .string a.kind, .int .i64 a.cond.op, .string a.cond.name, .string a.cond.value, .int .i64 a.cond.n, .int .i64 a.cond.extra, .slice A a.cond.kids.length c] wc))
  case first =>
    have hz3 : w.heap.size < w3.heap.size := Nat.lt_of_succ_lt HP3.out.size
    go_region
    all_goals (go_wp2_with fail)
    all_goals go_meet
    all_goals first
      | exact ⟨_, _, rfl, rfl, HP3.out.two _ _⟩
      | exact ⟨_, _, rfl, rfl, HP3.out.two' _ _⟩
  case rest =>
    obtain ⟨g, hh, rfl, rfl, HQ4⟩ := hcut
    clear HP2 HP3 da3 db3 fa3 fb3
    obtain ⟨da4, fa4⟩ := HQ4.out.p.ha.facts; (try dsimp only [ruA] at da4); obtain ⟨db4, fb4⟩ := HQ4.out.p.hb.facts; (try dsimp only [ruA] at db4); obtain ⟨dx4, fx4⟩ := HQ4.out.hx.facts; (try dsimp only [ruA] at dx4); obtain ⟨dy4, fy4⟩ := HQ4.out.hy.facts; (try dsimp only [ruA] at dy4)
    have hg4 : g < wc.heap.size := HQ4.out.hx.lt
    have hz4 : hh < wc.heap.size := HQ4.out.hy.lt
    have hw4 : w.heap.size < wc.heap.size := HQ4.out.p.ha.lt
    have hv4 : w.heap.size + 1 < wc.heap.size := HQ4.out.p.hb.lt
    have hgh : ¬ g = hh := HQ4.out.ne
    go_upto_region 6 with fail
    obtain ⟨hq5, hx5⟩ := HQ4.out.negate
    change Code.wp _ _ _ _ ((six2 wc g (.int .i64 2) (.string ⟨#[]⟩) (.string ⟨#[]⟩) (.int .i64 0) (.int .i64 0) (.slice (some ⟨wc.heap.size, 0, none⟩) 1 1)).alloc (.cells #[.int .i64 a.cond.op, .string a.cond.name, .string a.cond.value, .int .i64 a.cond.n, .int .i64 a.cond.extra, .slice A a.cond.kids.length c] 24))
    change TQ _ _ _ _ _ _ _ _ _ ((six2 wc g (.int .i64 2) (.string ⟨#[]⟩) (.string ⟨#[]⟩) (.int .i64 0) (.int .i64 0) (.slice (some ⟨wc.heap.size, 0, none⟩) 1 1)).alloc (.cells #[.int .i64 a.cond.op, .string a.cond.name, .string a.cond.value, .int .i64 a.cond.n, .int .i64 a.cond.extra, .slice A a.cond.kids.length c] 24)) at hq5
    change LayS _ ((six2 wc g (.int .i64 2) (.string ⟨#[]⟩) (.string ⟨#[]⟩) (.int .i64 0) (.int .i64 0) (.slice (some ⟨wc.heap.size, 0, none⟩) 1 1)).alloc (.cells #[.int .i64 a.cond.op, .string a.cond.name, .string a.cond.value, .int .i64 a.cond.n, .int .i64 a.cond.extra, .slice A a.cond.kids.length c] 24)) _ _ at hx5
    generalize ((six2 wc g (.int .i64 2) (.string ⟨#[]⟩) (.string ⟨#[]⟩) (.int .i64 0) (.int .i64 0) (.slice (some ⟨wc.heap.size, 0, none⟩) 1 1)).alloc (.cells #[.int .i64 a.cond.op, .string a.cond.name, .string a.cond.value, .int .i64 a.cond.n, .int .i64 a.cond.extra, .slice A a.cond.kids.length c] 24)) = w5 at *
    (try clear da4); (try clear db4); (try clear dx4); (try clear dy4); (try clear fa4); (try clear fb4); (try clear fx4); (try clear fy4)
    clear hg4 hz4 hw4 hv4 HQ4
    generalize wc.heap.size = rx at *
    have HQ5 := Lib.hid hq5
    have HX5 := Lib.hid hx5
    clear hq5 hx5
    obtain ⟨da5, fa5⟩ := HQ5.out.p.ha.facts; (try dsimp only [ruA] at da5); obtain ⟨db5, fb5⟩ := HQ5.out.p.hb.facts; (try dsimp only [ruA] at db5); obtain ⟨dx5, fx5⟩ := HQ5.out.hx.facts; (try dsimp only [ruA] at dx5); obtain ⟨dy5, fy5⟩ := HQ5.out.hy.facts; (try dsimp only [ruA] at dy5)
    have hg5 : g < w5.heap.size := HQ5.out.hx.lt
    have hz5 : hh < w5.heap.size := HQ5.out.hy.lt
    have hw5 : w.heap.size < w5.heap.size := HQ5.out.p.ha.lt
    have hv5 : w.heap.size + 1 < w5.heap.size := HQ5.out.p.hb.lt
    have hhg : ¬ hh = g := fun e => hgh e.symm
    go_upto_region 7 with fail
    obtain ⟨hq6, hx6, hy6⟩ := HQ5.out.unite HX5.out
    change Code.wp _ _ _ _ ((six2 w5 hh (.int .i64 3) (.string ⟨#[]⟩) (.string ⟨#[]⟩) (.int .i64 0) (.int .i64 0) (.slice (some ⟨w5.heap.size, 0, none⟩) 2 2)).alloc (.cells #[.int .i64 a.cond.op, .string a.cond.name, .string a.cond.value, .int .i64 a.cond.n, .int .i64 a.cond.extra, .slice A a.cond.kids.length c, .int .i64 b.cond.op, .string b.cond.name, .string b.cond.value, .int .i64 b.cond.n, .int .i64 b.cond.extra, .slice B b.cond.kids.length d] 24))
    change TQ _ _ _ _ _ _ _ _ _ ((six2 w5 hh (.int .i64 3) (.string ⟨#[]⟩) (.string ⟨#[]⟩) (.int .i64 0) (.int .i64 0) (.slice (some ⟨w5.heap.size, 0, none⟩) 2 2)).alloc (.cells #[.int .i64 a.cond.op, .string a.cond.name, .string a.cond.value, .int .i64 a.cond.n, .int .i64 a.cond.extra, .slice A a.cond.kids.length c, .int .i64 b.cond.op, .string b.cond.name, .string b.cond.value, .int .i64 b.cond.n, .int .i64 b.cond.extra, .slice B b.cond.kids.length d] 24)) at hq6
    change LayS _ ((six2 w5 hh (.int .i64 3) (.string ⟨#[]⟩) (.string ⟨#[]⟩) (.int .i64 0) (.int .i64 0) (.slice (some ⟨w5.heap.size, 0, none⟩) 2 2)).alloc (.cells #[.int .i64 a.cond.op, .string a.cond.name, .string a.cond.value, .int .i64 a.cond.n, .int .i64 a.cond.extra, .slice A a.cond.kids.length c, .int .i64 b.cond.op, .string b.cond.name, .string b.cond.value, .int .i64 b.cond.n, .int .i64 b.cond.extra, .slice B b.cond.kids.length d] 24)) _ _ at hx6
    change LayS _ ((six2 w5 hh (.int .i64 3) (.string ⟨#[]⟩) (.string ⟨#[]⟩) (.int .i64 0) (.int .i64 0) (.slice (some ⟨w5.heap.size, 0, none⟩) 2 2)).alloc (.cells #[.int .i64 a.cond.op, .string a.cond.name, .string a.cond.value, .int .i64 a.cond.n, .int .i64 a.cond.extra, .slice A a.cond.kids.length c, .int .i64 b.cond.op, .string b.cond.name, .string b.cond.value, .int .i64 b.cond.n, .int .i64 b.cond.extra, .slice B b.cond.kids.length d] 24)) _ _ at hy6
    generalize ((six2 w5 hh (.int .i64 3) (.string ⟨#[]⟩) (.string ⟨#[]⟩) (.int .i64 0) (.int .i64 0) (.slice (some ⟨w5.heap.size, 0, none⟩) 2 2)).alloc (.cells #[.int .i64 a.cond.op, .string a.cond.name, .string a.cond.value, .int .i64 a.cond.n, .int .i64 a.cond.extra, .slice A a.cond.kids.length c, .int .i64 b.cond.op, .string b.cond.name, .string b.cond.value, .int .i64 b.cond.n, .int .i64 b.cond.extra, .slice B b.cond.kids.length d] 24)) = w6 at *
    (try clear da5); (try clear db5); (try clear dx5); (try clear dy5); (try clear fa5); (try clear fb5); (try clear fx5); (try clear fy5)
    clear hg5 hz5 hw5 hv5 HQ5 HX5 hgh hhg
    generalize w5.heap.size = ry at *
    have HQ6 := Lib.hid hq6
    have HX6 := Lib.hid hx6
    have HY6 := Lib.hid hy6
    clear hq6 hx6 hy6
    obtain ⟨da6, fa6⟩ := HQ6.out.p.ha.facts; (try dsimp only [ruA] at da6); obtain ⟨db6, fb6⟩ := HQ6.out.p.hb.facts; (try dsimp only [ruA] at db6); obtain ⟨dx6, fx6⟩ := HQ6.out.hx.facts; (try dsimp only [ruA] at dx6); obtain ⟨dy6, fy6⟩ := HQ6.out.hy.facts; (try dsimp only [ruA] at dy6)
    go_wp2_with (go_at_call 14; first
      | ((with_reducible show Calls _ _ #[.agg #[.string a.name, .string a.kind, .int .i64 a.cond.op, .string a.cond.name, .string a.cond.value, .int .i64 a.cond.n, .int .i64 a.cond.extra, .slice A a.cond.kids.length c]] _ _); refine (HVA.out _ HQ6.out.p.la.any).mono ?_; rintro e w7 ⟨rfl, hb⟩; have HQ7 := Lib.hid (HQ6.out.later hb); have HX7 := Lib.hid (HX6.out.later hb); have HY7 := Lib.hid (HY6.out.later hb); (try clear da6); (try clear db6); (try clear dx6); (try clear dy6); (try clear fa6); (try clear fb6); (try clear fx6); (try clear fy6); obtain ⟨da7, fa7⟩ := HQ7.out.p.ha.facts; (try dsimp only [ruA] at da7); obtain ⟨db7, fb7⟩ := HQ7.out.p.hb.facts; (try dsimp only [ruA] at db7); obtain ⟨dx7, fx7⟩ := HQ7.out.hx.facts; (try dsimp only [ruA] at dx7); obtain ⟨dy7, fy7⟩ := HQ7.out.hy.facts; (try dsimp only [ruA] at dy7); clear hb)
      | ((with_reducible show Calls _ _ #[.agg #[.string a.name, .string a.kind, .int .i64 2, .string ⟨#[]⟩, .string ⟨#[]⟩, .int .i64 0, .int .i64 0, .slice (some ⟨rx, 0, none⟩) 1 1]] _ _); refine (HVN.out _ _ HX7.out.any).mono ?_; rintro e w8 ⟨rfl, hb⟩; have HQ8 := Lib.hid (HQ7.out.later hb); have HX8 := Lib.hid (HX7.out.later hb); have HY8 := Lib.hid (HY7.out.later hb); (try clear da7); (try clear db7); (try clear dx7); (try clear dy7); (try clear fa7); (try clear fb7); (try clear fx7); (try clear fy7); obtain ⟨da8, fa8⟩ := HQ8.out.p.ha.facts; (try dsimp only [ruA] at da8); obtain ⟨db8, fb8⟩ := HQ8.out.p.hb.facts; (try dsimp only [ruA] at db8); obtain ⟨dx8, fx8⟩ := HQ8.out.hx.facts; (try dsimp only [ruA] at dx8); obtain ⟨dy8, fy8⟩ := HQ8.out.hy.facts; (try dsimp only [ruA] at dy8); clear hb)
      | ((with_reducible show Calls _ _ #[.agg #[.string a.name, .string a.kind, .int .i64 3, .string ⟨#[]⟩, .string ⟨#[]⟩, .int .i64 0, .int .i64 0, .slice (some ⟨ry, 0, none⟩) 2 2]] _ _); refine (HVD.out _ _ HY8.out.any).mono ?_; rintro e w9 ⟨rfl, hb⟩; have HQ9 := Lib.hid (HQ8.out.later hb); have HX9 := Lib.hid (HX8.out.later hb); have HY9 := Lib.hid (HY8.out.later hb); (try clear da8); (try clear db8); (try clear dx8); (try clear dy8); (try clear fa8); (try clear fb8); (try clear fx8); (try clear fy8); obtain ⟨da9, fa9⟩ := HQ9.out.p.ha.facts; (try dsimp only [ruA] at da9); obtain ⟨db9, fb9⟩ := HQ9.out.p.hb.facts; (try dsimp only [ruA] at db9); obtain ⟨dx9, fx9⟩ := HQ9.out.hx.facts; (try dsimp only [ruA] at dx9); obtain ⟨dy9, fy9⟩ := HQ9.out.hy.facts; (try dsimp only [ruA] at dy9); clear hb))
    go_ret
    exact ⟨rfl, HQ9.out.p.bl⟩
set_option maxRecDepth 100000 in
set_option maxHeartbeats 8000000 in
theorem parts_yes (w0 : World) (ht : Tab w0) (hv : Evs w0) (a b : Ru) (va vb : Value) (w : World) (hb0 : Below w0.heap.size w0 w) (hca : cnt a.cond ≤ 80) (hcb : cnt b.cond ≤ 80) (hfa : FitE a.cond) (hfb : FitE b.cond) (hna : a.name.size ≤ maxLen) (hka : a.kind.size ≤ maxLen) (hnb : b.name.size ≤ maxLen) (hkb : b.kind.size ≤ maxLen) (hla : Lay w va a.cond.kids) (hlb : Lay w vb b.cond.kids) (hw : fewsU [a, b] = true) (hy : ruleB a = true) (hbv : ruleB b = true) :
    Calls Tryz.prog 5 #[.agg (ruA a va), .agg (ruA b vb)] w fun e w' => e = .returned (.bool true) ∧ Below w.heap.size w w' := by
  have hsz0 := hb0.size
  have HHD := Lib.hid (fun W (hb : Below w.heap.size w W) => head_any w0 W ht hv (hb0.trans (hb.mono hsz0)))
  have HFW := Lib.hid (fun (g : Nat) W (h : RuL W (.slice (some ⟨g, 0, none⟩) 2 2) [a, b]) => few_any _ [a, b] W h (show 2 ≤ 5 by decide))
  have HS := Lib.hid (TP.start hla hlb)
  have HVA := Lib.hid (fun W (h : Lay W va a.cond.kids) => valid_any a va W (by omega) hfa hna hka h)
  have HVN := Lib.hid (fun v W (h : Lay W v [a.cond]) => show Calls Tryz.prog 14 #[.agg #[.string a.name, .string a.kind, .int .i64 2, .string ⟨#[]⟩, .string ⟨#[]⟩, .int .i64 0, .int .i64 0, v]] W fun e w' => e = .returned (.bool (ruleB ⟨a.name, a.kind, notE a.cond⟩)) ∧ Below W.heap.size W w' from valid_any ⟨a.name, a.kind, notE a.cond⟩ v W (by have := cnt_not a.cond; dsimp only; omega) (fit_not hfa) hna hka h)
  have HVD := Lib.hid (fun v W (h : Lay W v [a.cond, b.cond]) => show Calls Tryz.prog 14 #[.agg #[.string a.name, .string a.kind, .int .i64 3, .string ⟨#[]⟩, .string ⟨#[]⟩, .int .i64 0, .int .i64 0, v]] W fun e w' => e = .returned (.bool (ruleB ⟨a.name, a.kind, bothE a.cond b.cond⟩)) ∧ Below W.heap.size W w' from valid_any ⟨a.name, a.kind, bothE a.cond b.cond⟩ v W (by have := cnt_both a.cond b.cond; dsimp only; omega) (fit_both hfa hfb) hna hka h)
  rw [hw] at HFW
  rw [hy] at HVA
  have HVB := Lib.hid (fun W (h : Lay W vb b.cond.kids) => valid_any b vb W (by omega) hfb hnb hkb h)
  rw [hbv] at HVB
  have HVK := Lib.hid (fun k (hk : k < a.cond.kids.length) v W (h : Lay W v (a.cond.kids[k]).kids) => (valid_any ⟨a.name, a.kind, a.cond.kids[k]⟩ v W (by have := cnt_kid (List.getElem_mem hk); dsimp only; omega) (hfa.kid _ (List.getElem_mem hk)) hna hka h).mono (by rw [rule_kid hy (List.getElem_mem hk)]; exact fun _ _ h => h))
  have HN1 := Lib.hid (fun W (h : Lay W va a.cond.kids) => nodes_any a.cond 80 va W (by decide) h)
  have HN2 := Lib.hid (fun W (h : Lay W vb b.cond.kids) => nodes_any b.cond 80 vb W (by decide) h)
  rw [rule_not hy] at HVN
  rw [rule_both hy hbv] at HVD
  have HLN := Lib.hid (show a.cond.kids.length ≤ 1000 by have := len_cnts a.cond.kids; have := cnt_eq a.cond; omega)
  obtain ⟨z1, hz1⟩ : ∃ z, ndN a.cond 80 = z := ⟨_, rfl⟩
  obtain ⟨z2, hz2⟩ : ∃ z, ndN b.cond 80 = z := ⟨_, rfl⟩
  have z1l : z1 ≤ 81 := by rw [← hz1]; unfold ndN; omega
  have z2l : z2 ≤ 81 := by rw [← hz2]; unfold ndN; omega
  rw [hz1] at HVN HN1
  rw [hz2] at HN2
  obtain ⟨bn, hbn⟩ : ∃ x, decide (z1 < 60) = x := ⟨_, rfl⟩
  have HZN := Lib.hid (show decide ((z1 : Int) < 60) = bn from (decide_eq_decide.2 (by omega)).trans hbn)
  rw [hbn] at HVN
  rw [hz1, hz2] at HVD
  obtain ⟨bd, hbd⟩ : ∃ x, decide (z1 + z2 < 60) = x := ⟨_, rfl⟩
  have HZD := Lib.hid (show IntKind.i64.wrap ((z1 : Int) + (z2 : Int)) = (z1 : Int) + (z2 : Int) ∧ decide ((z1 : Int) + (z2 : Int) < 60) = bd from ⟨IntWalk.i64_in _ (by omega), (decide_eq_decide.2 (by omega)).trans hbd⟩)
  rw [hbd] at HVD
  clear hbn hbd hz1 hz2 z1l z2l
  obtain ⟨A, c, rfl, _⟩ := hla.slice
  obtain ⟨B, d, rfl, _⟩ := hlb.slice
  dsimp only [ruA] at *
  clear hla hlb hb0 ht hv hca hcb hfa hfb hna hka hnb hkb
  go_enter Tryz.func5, Tryz.ntmps5
  go_wp2_with (first
    | (go_at_call 7; refine (HHD.out _ HS.out.bl).mono ?_; rintro e w2 ⟨rfl, hb⟩; have HP2 := Lib.hid (HS.out.later hb); obtain ⟨da2, fa2⟩ := HP2.out.ha.facts; (try dsimp only [ruA] at da2); obtain ⟨db2, fb2⟩ := HP2.out.hb.facts; (try dsimp only [ruA] at db2); clear hb)
    | (go_at_call 8; refine (HFW.out _ _ (ru_two (Has.new w2 26 #[.string a.name, .string a.kind, .int .i64 a.cond.op, .string a.cond.name, .string a.cond.value, .int .i64 a.cond.n, .int .i64 a.cond.extra, .slice A a.cond.kids.length c, .string b.name, .string b.kind, .int .i64 b.cond.op, .string b.cond.name, .string b.cond.value, .int .i64 b.cond.n, .int .i64 b.cond.extra, .slice B b.cond.kids.length d]) (HP2.out.alloc (.cells #[.string a.name, .string a.kind, .int .i64 a.cond.op, .string a.cond.name, .string a.cond.value, .int .i64 a.cond.n, .int .i64 a.cond.extra, .slice A a.cond.kids.length c, .string b.name, .string b.kind, .int .i64 b.cond.op, .string b.cond.name, .string b.cond.value, .int .i64 b.cond.n, .int .i64 b.cond.extra, .slice B b.cond.kids.length d] 26)).la.any (HP2.out.alloc (.cells #[.string a.name, .string a.kind, .int .i64 a.cond.op, .string a.cond.name, .string a.cond.value, .int .i64 a.cond.n, .int .i64 a.cond.extra, .slice A a.cond.kids.length c, .string b.name, .string b.kind, .int .i64 b.cond.op, .string b.cond.name, .string b.cond.value, .int .i64 b.cond.n, .int .i64 b.cond.extra, .slice B b.cond.kids.length d] 26)).lb.any)).mono ?_; rintro e w3 ⟨rfl, hb⟩; have HP3 := Lib.hid ((HP2.out.alloc (.cells #[.string a.name, .string a.kind, .int .i64 a.cond.op, .string a.cond.name, .string a.cond.value, .int .i64 a.cond.n, .int .i64 a.cond.extra, .slice A a.cond.kids.length c, .string b.name, .string b.kind, .int .i64 b.cond.op, .string b.cond.name, .string b.cond.value, .int .i64 b.cond.n, .int .i64 b.cond.extra, .slice B b.cond.kids.length d] 26)).later hb); clear da2 fa2 db2 fb2; obtain ⟨da3, fa3⟩ := HP3.out.ha.facts; (try dsimp only [ruA] at da3); obtain ⟨db3, fb3⟩ := HP3.out.hb.facts; (try dsimp only [ruA] at db3); clear hb))
  go_cut [6, 7] from 17 to 18 (fun p q wc => ∃ g h, p = .pointer (some ⟨g, 0, none⟩) ∧ q = .pointer (some ⟨h, 0, none⟩) ∧ Hid (TQ w a b (.slice A a.cond.kids.length c) (.slice B b.cond.kids.length d) g h #[.string a.name, .string a.kind, .int .i64 a.cond.op, .string a.cond.name, .string a.cond.value, .int .i64 a.cond.n, .int .i64 a.cond.extra, .slice A a.cond.kids.length c] #[.string a.name, .string a.kind, .int .i64 a.cond.op, .string a.cond.name, .string a.cond.value, .int .i64 a.cond.n, .int .i64 a.cond.extra, .slice A a.cond.kids.length c] wc))
  case first =>
    have hz3 : w.heap.size < w3.heap.size := Nat.lt_of_succ_lt HP3.out.size
    go_region
    all_goals (go_wp2_with fail)
    all_goals go_meet
    all_goals first
      | exact ⟨_, _, rfl, rfl, HP3.out.two _ _⟩
      | exact ⟨_, _, rfl, rfl, HP3.out.two' _ _⟩
  case rest =>
    obtain ⟨g, hh, rfl, rfl, HQ4⟩ := hcut
    clear HP2 HP3 da3 db3 fa3 fb3
    obtain ⟨da4, fa4⟩ := HQ4.out.p.ha.facts; (try dsimp only [ruA] at da4); obtain ⟨db4, fb4⟩ := HQ4.out.p.hb.facts; (try dsimp only [ruA] at db4); obtain ⟨dx4, fx4⟩ := HQ4.out.hx.facts; (try dsimp only [ruA] at dx4); obtain ⟨dy4, fy4⟩ := HQ4.out.hy.facts; (try dsimp only [ruA] at dy4)
    have hg4 : g < wc.heap.size := HQ4.out.hx.lt
    have hz4 : hh < wc.heap.size := HQ4.out.hy.lt
    have hw4 : w.heap.size < wc.heap.size := HQ4.out.p.ha.lt
    have hv4 : w.heap.size + 1 < wc.heap.size := HQ4.out.p.hb.lt
    have hgh : ¬ g = hh := HQ4.out.ne
    go_upto_region 6 with fail
    obtain ⟨hq5, hx5⟩ := HQ4.out.negate
    change Code.wp _ _ _ _ ((six2 wc g (.int .i64 2) (.string ⟨#[]⟩) (.string ⟨#[]⟩) (.int .i64 0) (.int .i64 0) (.slice (some ⟨wc.heap.size, 0, none⟩) 1 1)).alloc (.cells #[.int .i64 a.cond.op, .string a.cond.name, .string a.cond.value, .int .i64 a.cond.n, .int .i64 a.cond.extra, .slice A a.cond.kids.length c] 24))
    change TQ _ _ _ _ _ _ _ _ _ ((six2 wc g (.int .i64 2) (.string ⟨#[]⟩) (.string ⟨#[]⟩) (.int .i64 0) (.int .i64 0) (.slice (some ⟨wc.heap.size, 0, none⟩) 1 1)).alloc (.cells #[.int .i64 a.cond.op, .string a.cond.name, .string a.cond.value, .int .i64 a.cond.n, .int .i64 a.cond.extra, .slice A a.cond.kids.length c] 24)) at hq5
    change LayS _ ((six2 wc g (.int .i64 2) (.string ⟨#[]⟩) (.string ⟨#[]⟩) (.int .i64 0) (.int .i64 0) (.slice (some ⟨wc.heap.size, 0, none⟩) 1 1)).alloc (.cells #[.int .i64 a.cond.op, .string a.cond.name, .string a.cond.value, .int .i64 a.cond.n, .int .i64 a.cond.extra, .slice A a.cond.kids.length c] 24)) _ _ at hx5
    generalize ((six2 wc g (.int .i64 2) (.string ⟨#[]⟩) (.string ⟨#[]⟩) (.int .i64 0) (.int .i64 0) (.slice (some ⟨wc.heap.size, 0, none⟩) 1 1)).alloc (.cells #[.int .i64 a.cond.op, .string a.cond.name, .string a.cond.value, .int .i64 a.cond.n, .int .i64 a.cond.extra, .slice A a.cond.kids.length c] 24)) = w5 at *
    (try clear da4); (try clear db4); (try clear dx4); (try clear dy4); (try clear fa4); (try clear fb4); (try clear fx4); (try clear fy4)
    clear hg4 hz4 hw4 hv4 HQ4
    generalize wc.heap.size = rx at *
    have HQ5 := Lib.hid hq5
    have HX5 := Lib.hid hx5
    clear hq5 hx5
    obtain ⟨da5, fa5⟩ := HQ5.out.p.ha.facts; (try dsimp only [ruA] at da5); obtain ⟨db5, fb5⟩ := HQ5.out.p.hb.facts; (try dsimp only [ruA] at db5); obtain ⟨dx5, fx5⟩ := HQ5.out.hx.facts; (try dsimp only [ruA] at dx5); obtain ⟨dy5, fy5⟩ := HQ5.out.hy.facts; (try dsimp only [ruA] at dy5)
    have hg5 : g < w5.heap.size := HQ5.out.hx.lt
    have hz5 : hh < w5.heap.size := HQ5.out.hy.lt
    have hw5 : w.heap.size < w5.heap.size := HQ5.out.p.ha.lt
    have hv5 : w.heap.size + 1 < w5.heap.size := HQ5.out.p.hb.lt
    have hhg : ¬ hh = g := fun e => hgh e.symm
    go_upto_region 7 with fail
    obtain ⟨hq6, hx6, hy6⟩ := HQ5.out.unite HX5.out
    change Code.wp _ _ _ _ ((six2 w5 hh (.int .i64 3) (.string ⟨#[]⟩) (.string ⟨#[]⟩) (.int .i64 0) (.int .i64 0) (.slice (some ⟨w5.heap.size, 0, none⟩) 2 2)).alloc (.cells #[.int .i64 a.cond.op, .string a.cond.name, .string a.cond.value, .int .i64 a.cond.n, .int .i64 a.cond.extra, .slice A a.cond.kids.length c, .int .i64 b.cond.op, .string b.cond.name, .string b.cond.value, .int .i64 b.cond.n, .int .i64 b.cond.extra, .slice B b.cond.kids.length d] 24))
    change TQ _ _ _ _ _ _ _ _ _ ((six2 w5 hh (.int .i64 3) (.string ⟨#[]⟩) (.string ⟨#[]⟩) (.int .i64 0) (.int .i64 0) (.slice (some ⟨w5.heap.size, 0, none⟩) 2 2)).alloc (.cells #[.int .i64 a.cond.op, .string a.cond.name, .string a.cond.value, .int .i64 a.cond.n, .int .i64 a.cond.extra, .slice A a.cond.kids.length c, .int .i64 b.cond.op, .string b.cond.name, .string b.cond.value, .int .i64 b.cond.n, .int .i64 b.cond.extra, .slice B b.cond.kids.length d] 24)) at hq6
    change LayS _ ((six2 w5 hh (.int .i64 3) (.string ⟨#[]⟩) (.string ⟨#[]⟩) (.int .i64 0) (.int .i64 0) (.slice (some ⟨w5.heap.size, 0, none⟩) 2 2)).alloc (.cells #[.int .i64 a.cond.op, .string a.cond.name, .string a.cond.value, .int .i64 a.cond.n, .int .i64 a.cond.extra, .slice A a.cond.kids.length c, .int .i64 b.cond.op, .string b.cond.name, .string b.cond.value, .int .i64 b.cond.n, .int .i64 b.cond.extra, .slice B b.cond.kids.length d] 24)) _ _ at hx6
    change LayS _ ((six2 w5 hh (.int .i64 3) (.string ⟨#[]⟩) (.string ⟨#[]⟩) (.int .i64 0) (.int .i64 0) (.slice (some ⟨w5.heap.size, 0, none⟩) 2 2)).alloc (.cells #[.int .i64 a.cond.op, .string a.cond.name, .string a.cond.value, .int .i64 a.cond.n, .int .i64 a.cond.extra, .slice A a.cond.kids.length c, .int .i64 b.cond.op, .string b.cond.name, .string b.cond.value, .int .i64 b.cond.n, .int .i64 b.cond.extra, .slice B b.cond.kids.length d] 24)) _ _ at hy6
    generalize ((six2 w5 hh (.int .i64 3) (.string ⟨#[]⟩) (.string ⟨#[]⟩) (.int .i64 0) (.int .i64 0) (.slice (some ⟨w5.heap.size, 0, none⟩) 2 2)).alloc (.cells #[.int .i64 a.cond.op, .string a.cond.name, .string a.cond.value, .int .i64 a.cond.n, .int .i64 a.cond.extra, .slice A a.cond.kids.length c, .int .i64 b.cond.op, .string b.cond.name, .string b.cond.value, .int .i64 b.cond.n, .int .i64 b.cond.extra, .slice B b.cond.kids.length d] 24)) = w6 at *
    (try clear da5); (try clear db5); (try clear dx5); (try clear dy5); (try clear fa5); (try clear fb5); (try clear fx5); (try clear fy5)
    clear hg5 hz5 hw5 hv5 HQ5 HX5 hgh hhg
    generalize w5.heap.size = ry at *
    have HQ6 := Lib.hid hq6
    have HX6 := Lib.hid hx6
    have HY6 := Lib.hid hy6
    clear hq6 hx6 hy6
    obtain ⟨da6, fa6⟩ := HQ6.out.p.ha.facts; (try dsimp only [ruA] at da6); obtain ⟨db6, fb6⟩ := HQ6.out.p.hb.facts; (try dsimp only [ruA] at db6); obtain ⟨dx6, fx6⟩ := HQ6.out.hx.facts; (try dsimp only [ruA] at dx6); obtain ⟨dy6, fy6⟩ := HQ6.out.hy.facts; (try dsimp only [ruA] at dy6)
    go_wp2_with (go_at_call 14; first
      | ((with_reducible show Calls _ _ #[.agg #[.string a.name, .string a.kind, .int .i64 a.cond.op, .string a.cond.name, .string a.cond.value, .int .i64 a.cond.n, .int .i64 a.cond.extra, .slice A a.cond.kids.length c]] _ _); refine (HVA.out _ HQ6.out.p.la.any).mono ?_; rintro e w7 ⟨rfl, hb⟩; have HQ7 := Lib.hid (HQ6.out.later hb); have HX7 := Lib.hid (HX6.out.later hb); have HY7 := Lib.hid (HY6.out.later hb); (try clear da6); (try clear db6); (try clear dx6); (try clear dy6); (try clear fa6); (try clear fb6); (try clear fx6); (try clear fy6); obtain ⟨da7, fa7⟩ := HQ7.out.p.ha.facts; (try dsimp only [ruA] at da7); obtain ⟨db7, fb7⟩ := HQ7.out.p.hb.facts; (try dsimp only [ruA] at db7); obtain ⟨dx7, fx7⟩ := HQ7.out.hx.facts; (try dsimp only [ruA] at dx7); obtain ⟨dy7, fy7⟩ := HQ7.out.hy.facts; (try dsimp only [ruA] at dy7); clear hb))
    go_loopw [8] (fun i wr => ∃ k : Nat, i = .int .i64 k ∧ k ≤ a.cond.kids.length ∧ Hid (TQ w a b (.slice A a.cond.kids.length c) (.slice B b.cond.kids.length d) g hh #[.string a.name, .string a.kind, .int .i64 2, .string ⟨#[]⟩, .string ⟨#[]⟩, .int .i64 0, .int .i64 0, .slice (some ⟨rx, 0, none⟩) 1 1] #[.string a.name, .string a.kind, .int .i64 3, .string ⟨#[]⟩, .string ⟨#[]⟩, .int .i64 0, .int .i64 0, .slice (some ⟨ry, 0, none⟩) 2 2] wr) ∧ Hid (LayS (fun i => i ≠ g ∧ i ≠ hh) wr (.slice (some ⟨rx, 0, none⟩) 1 1) [a.cond]) ∧ Hid (LayS (fun i => i ≠ g ∧ i ≠ hh) wr (.slice (some ⟨ry, 0, none⟩) 2 2) [a.cond, b.cond])) (fun i _ => a.cond.kids.length - (intOf i).toNat)
    case atStart => exact ⟨0, rfl, Nat.zero_le _, HQ7.out, HX7.out, HY7.out⟩
    case round =>
      obtain ⟨k, rfl, hk, HQr, HXr, HYr⟩ := hrel
      (try clear da7); (try clear db7); (try clear dx7); (try clear dy7); (try clear fa7); (try clear fb7); (try clear fx7); (try clear fy7)
      clear HQ6 HX6 HY6 HQ7 HX7 HY7 HVA
      obtain ⟨dar, far⟩ := HQr.out.p.ha.facts; (try dsimp only [ruA] at dar); obtain ⟨dbr, fbr⟩ := HQr.out.p.hb.facts; (try dsimp only [ruA] at dbr); obtain ⟨dxr, fxr⟩ := HQr.out.hx.facts; (try dsimp only [ruA] at dxr); obtain ⟨dyr, fyr⟩ := HQr.out.hy.facts; (try dsimp only [ruA] at dyr)
      have hwr : w.heap.size < wr.heap.size := HQr.out.p.ha.lt
      by_cases hlt : k < a.cond.kids.length
      · have hki : (k : Int) < (a.cond.kids.length : Int) := by omega
        have hs3 : IntKind.i64.wrap ((k : Int) + 1) = (k : Int) + 1 := IntWalk.i64_in _ (by have := HLN.out; omega)
        have HC := Lib.hid (HVK.out k hlt)
        have hal : HidL wr A a c := HQr.out.p.la.any
        obtain ⟨_, _, hkid⟩ := LayS.kid hal
        obtain ⟨kb, ko, kv, rfl, hcell, hkk⟩ := hkid k hlt
        have hc0 := hcell 0 (by decide)
        have hc1 := hcell 1 (by decide)
        have hc2 := hcell 2 (by decide)
        have hc3 := hcell 3 (by decide)
        have hc4 := hcell 4 (by decide)
        have hc5 := hcell 5 (by decide)
        simp only [exF, if_true, if_false, Nat.reduceEqDiff, Nat.add_one_ne_zero, ← Nat.add_assoc, Nat.add_zero] at hc0 hc1 hc2 hc3 hc4 hc5
        have hkz := cell_size hc0
        have HKK := Lib.hid hkk
        obtain ⟨Ak, ck, rfl, _⟩ := hkk.slice
        clear hkid hcell hkk hal
        generalize a.cond.kids[k] = ek at *
        go_wp2_with (go_at_call 14; refine (HC.out _ _ (HKK.out.later ((Below.refl _ _).alloc (Nat.le_refl _) _))).mono ?_; rintro e w8 ⟨rfl, hb⟩; have HQ8 := Lib.hid ((HQr.out.alloc (.cells #[.string a.name, .string a.kind, .int .i64 ek.op, .string ek.name, .string ek.value, .int .i64 ek.n, .int .i64 ek.extra, .slice Ak ek.kids.length ck] 26)).later hb); have HX8 := Lib.hid ((HXr.out.later ((Below.refl _ _).alloc (Nat.le_refl _) (.cells #[.string a.name, .string a.kind, .int .i64 ek.op, .string ek.name, .string ek.value, .int .i64 ek.n, .int .i64 ek.extra, .slice Ak ek.kids.length ck] 26))).later hb); have HY8 := Lib.hid ((HYr.out.later ((Below.refl _ _).alloc (Nat.le_refl _) (.cells #[.string a.name, .string a.kind, .int .i64 ek.op, .string ek.name, .string ek.value, .int .i64 ek.n, .int .i64 ek.extra, .slice Ak ek.kids.length ck] 26))).later hb); clear hb)
        go_roundw
        case rel => exact ⟨k + 1, by go_num, hlt, HQ8, HX8, HY8⟩
        case measure => simp [intOf]; omega
      · have hki : ¬ (k : Int) < (a.cond.kids.length : Int) := by omega
        have hzn := HZN.out
        clear HVK HLN
        go_wp2_with fail
        go_cut [70] from 64 to 70 (fun v wc => v = .bool false ∧ Hid (TQ w a b (.slice A a.cond.kids.length c) (.slice B b.cond.kids.length d) g hh #[.string a.name, .string a.kind, .int .i64 2, .string ⟨#[]⟩, .string ⟨#[]⟩, .int .i64 0, .int .i64 0, .slice (some ⟨rx, 0, none⟩) 1 1] #[.string a.name, .string a.kind, .int .i64 3, .string ⟨#[]⟩, .string ⟨#[]⟩, .int .i64 0, .int .i64 0, .slice (some ⟨ry, 0, none⟩) 2 2] wc) ∧ Hid (LayS (fun i => i ≠ g ∧ i ≠ hh) wc (.slice (some ⟨rx, 0, none⟩) 1 1) [a.cond]) ∧ Hid (LayS (fun i => i ≠ g ∧ i ≠ hh) wc (.slice (some ⟨ry, 0, none⟩) 2 2) [a.cond, b.cond]))
        case first =>
          have HK16 := Lib.hid (fun W (q : TQ w a b (.slice A a.cond.kids.length c) (.slice B b.cond.kids.length d) g hh #[.string a.name, .string a.kind, .int .i64 2, .string ⟨#[]⟩, .string ⟨#[]⟩, .int .i64 0, .int .i64 0, .slice (some ⟨rx, 0, none⟩) 1 1] #[.string a.name, .string a.kind, .int .i64 3, .string ⟨#[]⟩, .string ⟨#[]⟩, .int .i64 0, .int .i64 0, .slice (some ⟨ry, 0, none⟩) 2 2] W) => ((⟨q.hx.cell 0, q.hx.cell 1, q.hx.cell 2, q.hx.cell 3, q.hx.cell 4, q.hx.cell 5, q.hx.cell 6, q.hx.cell 7, q.p.ha.cell 2, q.p.ha.cell 3, q.p.ha.cell 4, q.p.ha.cell 5, q.p.ha.cell 6, q.p.ha.cell 7⟩) : (fun W => W.cell? ⟨g, 0, none⟩ = some (.string a.name) ∧ W.cell? ⟨g, 1, none⟩ = some (.string a.kind) ∧ W.cell? ⟨g, 2, none⟩ = some (.int .i64 2) ∧ W.cell? ⟨g, 3, none⟩ = some (.string ⟨#[]⟩) ∧ W.cell? ⟨g, 4, none⟩ = some (.string ⟨#[]⟩) ∧ W.cell? ⟨g, 5, none⟩ = some (.int .i64 0) ∧ W.cell? ⟨g, 6, none⟩ = some (.int .i64 0) ∧ W.cell? ⟨g, 7, none⟩ = some (.slice (some ⟨rx, 0, none⟩) 1 1) ∧ W.cell? ⟨w.heap.size, 2, none⟩ = some (.int .i64 a.cond.op) ∧ W.cell? ⟨w.heap.size, 3, none⟩ = some (.string a.cond.name) ∧ W.cell? ⟨w.heap.size, 4, none⟩ = some (.string a.cond.value) ∧ W.cell? ⟨w.heap.size, 5, none⟩ = some (.int .i64 a.cond.n) ∧ W.cell? ⟨w.heap.size, 6, none⟩ = some (.int .i64 a.cond.extra) ∧ W.cell? ⟨w.heap.size, 7, none⟩ = some (.slice A a.cond.kids.length c)) W))
          refine wp_region_held_drew (S := fun W => W.cell? ⟨g, 0, none⟩ = some (.string a.name) ∧ W.cell? ⟨g, 1, none⟩ = some (.string a.kind) ∧ W.cell? ⟨g, 2, none⟩ = some (.int .i64 2) ∧ W.cell? ⟨g, 3, none⟩ = some (.string ⟨#[]⟩) ∧ W.cell? ⟨g, 4, none⟩ = some (.string ⟨#[]⟩) ∧ W.cell? ⟨g, 5, none⟩ = some (.int .i64 0) ∧ W.cell? ⟨g, 6, none⟩ = some (.int .i64 0) ∧ W.cell? ⟨g, 7, none⟩ = some (.slice (some ⟨rx, 0, none⟩) 1 1) ∧ W.cell? ⟨w.heap.size, 2, none⟩ = some (.int .i64 a.cond.op) ∧ W.cell? ⟨w.heap.size, 3, none⟩ = some (.string a.cond.name) ∧ W.cell? ⟨w.heap.size, 4, none⟩ = some (.string a.cond.value) ∧ W.cell? ⟨w.heap.size, 5, none⟩ = some (.int .i64 a.cond.n) ∧ W.cell? ⟨w.heap.size, 6, none⟩ = some (.int .i64 a.cond.extra) ∧ W.cell? ⟨w.heap.size, 7, none⟩ = some (.slice A a.cond.kids.length c)) (by kernel_rfl) (HK16.out _ HQr.out.drew) (fun hHeld => ?_)
          refine plI [(0, false), (2, false), (3, false)] ?_
          repeat ((first | ((with_reducible show Plan ((_, true) :: _) _); refine plF ?_) | (refine plR (v := ?_) ?_ ?_; rotate_left; focus (intro W hSW; (try dsimp only at hSW); go_simp; all_goals (with_reducible rfl)))); try simp only [Act.put, List.setIfInBounds_toArray, List.set_cons_zero, List.set_cons_succ])
          refine plE ?_
          refine wpAnyH_ready (rs := [1]) (by kernel_rfl) (by simp) ?_
          refine AllReadyH.cons (o := ⟨_, _, _, _, _, _⟩) rfl (fun K hK => ?_) AllReadyH.nil
          go_simp
          go_at_call 14; refine (HVN.out _ _ (HXr.out.later (Below.refl _ _).drew).any).mono ?_; rintro e wd1 ⟨rfl, hb⟩; have HQc1 := Lib.hid ((HQr.out.drew).later hb); have HXc1 := Lib.hid (((HXr.out.later (Below.refl _ _).drew)).later hb); have HYc1 := Lib.hid (((HYr.out.later (Below.refl _ _).drew)).later hb); clear hb
          refine hK.out _ _ (HK16.out _ HQc1.out) (fun hHeld => ?_)
          clear hK K
          try simp only [Act.put, List.setIfInBounds_toArray, List.set_cons_zero, List.set_cons_succ]
          refine wpAnyH_ready (rs := [4]) (by kernel_rfl) (by simp) ?_
          refine AllReadyH.cons (o := ⟨_, _, _, _, _, _⟩) rfl (fun K hK => ?_) AllReadyH.nil
          go_simp
          go_at_call 16; refine (HN1.out _ HQc1.out.p.la.any).mono ?_; rintro e wd4 ⟨rfl, hb⟩; have HQc4 := Lib.hid ((HQc1.out).later hb); have HXc4 := Lib.hid ((HXc1.out).later hb); have HYc4 := Lib.hid ((HYc1.out).later hb); clear hb
          refine hK.out _ _ (HK16.out _ HQc4.out) (fun hHeld => ?_)
          clear hK K
          try simp only [Act.put, List.setIfInBounds_toArray, List.set_cons_zero, List.set_cons_succ]
          refine plI [(5, false), (6, false)] ?_
          repeat ((first | ((with_reducible show Plan ((_, true) :: _) _); refine plF ?_) | (refine plR (v := ?_) ?_ ?_; rotate_left; focus (intro W hSW; (try dsimp only at hSW); go_simp; all_goals (with_reducible rfl)))); try simp only [Act.put, List.setIfInBounds_toArray, List.set_cons_zero, List.set_cons_succ])
          refine plE ?_
          refine wpAnyH_done (by kernel_rfl) ?_ _
          clear hHeld HK16
          go_wp2_with fail
          go_meet
          exact ⟨by simp, HQc4.out, HXc4.out, HYc4.out⟩
        case rest =>
          obtain ⟨rfl, HQ9, HX9, HY9⟩ := hcut
          (try clear dar); (try clear dbr); (try clear dxr); (try clear dyr); (try clear far); (try clear fbr); (try clear fxr); (try clear fyr)
          clear HQr HXr HYr
          obtain ⟨da9, fa9⟩ := HQ9.out.p.ha.facts; (try dsimp only [ruA] at da9); obtain ⟨db9, fb9⟩ := HQ9.out.p.hb.facts; (try dsimp only [ruA] at db9); obtain ⟨dx9, fx9⟩ := HQ9.out.hx.facts; (try dsimp only [ruA] at dx9); obtain ⟨dy9, fy9⟩ := HQ9.out.hy.facts; (try dsimp only [ruA] at dy9)
          have hzd := HZD.out
          go_wp2_with fail
          have HK18 := Lib.hid (fun W (q : TQ w a b (.slice A a.cond.kids.length c) (.slice B b.cond.kids.length d) g hh #[.string a.name, .string a.kind, .int .i64 2, .string ⟨#[]⟩, .string ⟨#[]⟩, .int .i64 0, .int .i64 0, .slice (some ⟨rx, 0, none⟩) 1 1] #[.string a.name, .string a.kind, .int .i64 3, .string ⟨#[]⟩, .string ⟨#[]⟩, .int .i64 0, .int .i64 0, .slice (some ⟨ry, 0, none⟩) 2 2] W) => ((⟨q.p.hb.cell 0, q.p.hb.cell 1, q.p.hb.cell 2, q.p.hb.cell 3, q.p.hb.cell 4, q.p.hb.cell 5, q.p.hb.cell 6, q.p.hb.cell 7, q.hy.cell 0, q.hy.cell 1, q.hy.cell 2, q.hy.cell 3, q.hy.cell 4, q.hy.cell 5, q.hy.cell 6, q.hy.cell 7, q.p.ha.cell 2, q.p.ha.cell 3, q.p.ha.cell 4, q.p.ha.cell 5, q.p.ha.cell 6, q.p.ha.cell 7⟩) : (fun W => W.cell? ⟨w.heap.size + 1, 0, none⟩ = some (.string b.name) ∧ W.cell? ⟨w.heap.size + 1, 1, none⟩ = some (.string b.kind) ∧ W.cell? ⟨w.heap.size + 1, 2, none⟩ = some (.int .i64 b.cond.op) ∧ W.cell? ⟨w.heap.size + 1, 3, none⟩ = some (.string b.cond.name) ∧ W.cell? ⟨w.heap.size + 1, 4, none⟩ = some (.string b.cond.value) ∧ W.cell? ⟨w.heap.size + 1, 5, none⟩ = some (.int .i64 b.cond.n) ∧ W.cell? ⟨w.heap.size + 1, 6, none⟩ = some (.int .i64 b.cond.extra) ∧ W.cell? ⟨w.heap.size + 1, 7, none⟩ = some (.slice B b.cond.kids.length d) ∧ W.cell? ⟨hh, 0, none⟩ = some (.string a.name) ∧ W.cell? ⟨hh, 1, none⟩ = some (.string a.kind) ∧ W.cell? ⟨hh, 2, none⟩ = some (.int .i64 3) ∧ W.cell? ⟨hh, 3, none⟩ = some (.string ⟨#[]⟩) ∧ W.cell? ⟨hh, 4, none⟩ = some (.string ⟨#[]⟩) ∧ W.cell? ⟨hh, 5, none⟩ = some (.int .i64 0) ∧ W.cell? ⟨hh, 6, none⟩ = some (.int .i64 0) ∧ W.cell? ⟨hh, 7, none⟩ = some (.slice (some ⟨ry, 0, none⟩) 2 2) ∧ W.cell? ⟨w.heap.size, 2, none⟩ = some (.int .i64 a.cond.op) ∧ W.cell? ⟨w.heap.size, 3, none⟩ = some (.string a.cond.name) ∧ W.cell? ⟨w.heap.size, 4, none⟩ = some (.string a.cond.value) ∧ W.cell? ⟨w.heap.size, 5, none⟩ = some (.int .i64 a.cond.n) ∧ W.cell? ⟨w.heap.size, 6, none⟩ = some (.int .i64 a.cond.extra) ∧ W.cell? ⟨w.heap.size, 7, none⟩ = some (.slice A a.cond.kids.length c)) W))
          refine wp_region_held_drew (S := fun W => W.cell? ⟨w.heap.size + 1, 0, none⟩ = some (.string b.name) ∧ W.cell? ⟨w.heap.size + 1, 1, none⟩ = some (.string b.kind) ∧ W.cell? ⟨w.heap.size + 1, 2, none⟩ = some (.int .i64 b.cond.op) ∧ W.cell? ⟨w.heap.size + 1, 3, none⟩ = some (.string b.cond.name) ∧ W.cell? ⟨w.heap.size + 1, 4, none⟩ = some (.string b.cond.value) ∧ W.cell? ⟨w.heap.size + 1, 5, none⟩ = some (.int .i64 b.cond.n) ∧ W.cell? ⟨w.heap.size + 1, 6, none⟩ = some (.int .i64 b.cond.extra) ∧ W.cell? ⟨w.heap.size + 1, 7, none⟩ = some (.slice B b.cond.kids.length d) ∧ W.cell? ⟨hh, 0, none⟩ = some (.string a.name) ∧ W.cell? ⟨hh, 1, none⟩ = some (.string a.kind) ∧ W.cell? ⟨hh, 2, none⟩ = some (.int .i64 3) ∧ W.cell? ⟨hh, 3, none⟩ = some (.string ⟨#[]⟩) ∧ W.cell? ⟨hh, 4, none⟩ = some (.string ⟨#[]⟩) ∧ W.cell? ⟨hh, 5, none⟩ = some (.int .i64 0) ∧ W.cell? ⟨hh, 6, none⟩ = some (.int .i64 0) ∧ W.cell? ⟨hh, 7, none⟩ = some (.slice (some ⟨ry, 0, none⟩) 2 2) ∧ W.cell? ⟨w.heap.size, 2, none⟩ = some (.int .i64 a.cond.op) ∧ W.cell? ⟨w.heap.size, 3, none⟩ = some (.string a.cond.name) ∧ W.cell? ⟨w.heap.size, 4, none⟩ = some (.string a.cond.value) ∧ W.cell? ⟨w.heap.size, 5, none⟩ = some (.int .i64 a.cond.n) ∧ W.cell? ⟨w.heap.size, 6, none⟩ = some (.int .i64 a.cond.extra) ∧ W.cell? ⟨w.heap.size, 7, none⟩ = some (.slice A a.cond.kids.length c)) (by kernel_rfl) (HK18.out _ HQ9.out.drew) (fun hHeld => ?_)
          refine plI [(0, false), (1, false), (2, false)] ?_
          repeat ((first | ((with_reducible show Plan ((_, true) :: _) _); refine plF ?_) | (refine plR (v := ?_) ?_ ?_; rotate_left; focus (intro W hSW; (try dsimp only at hSW); go_simp; all_goals (with_reducible rfl)))); try simp only [Act.put, List.setIfInBounds_toArray, List.set_cons_zero, List.set_cons_succ])
          refine plE ?_
          refine wpAnyH_ready (rs := [3]) (by kernel_rfl) (by simp) ?_
          refine AllReadyH.cons (o := ⟨_, _, _, _, _, _⟩) rfl (fun K hK => ?_) AllReadyH.nil
          go_simp
          go_at_call 14; refine (HVB.out _ HQ9.out.drew.p.lb.any).mono ?_; rintro e wd3 ⟨rfl, hb⟩; have HQc3 := Lib.hid ((HQ9.out.drew).later hb); have HXc3 := Lib.hid (((HX9.out.later (Below.refl _ _).drew)).later hb); have HYc3 := Lib.hid (((HY9.out.later (Below.refl _ _).drew)).later hb); clear hb
          refine hK.out _ _ (HK18.out _ HQc3.out) (fun hHeld => ?_)
          clear hK K
          try simp only [Act.put, List.setIfInBounds_toArray, List.set_cons_zero, List.set_cons_succ]
          refine plI [(4, false), (5, false), (6, false), (8, false), (9, false), (11, false), (12, false)] ?_
          repeat ((first | ((with_reducible show Plan ((_, true) :: _) _); refine plF ?_) | (refine plR (v := ?_) ?_ ?_; rotate_left; focus (intro W hSW; (try dsimp only at hSW); go_simp; all_goals (with_reducible rfl)))); try simp only [Act.put, List.setIfInBounds_toArray, List.set_cons_zero, List.set_cons_succ])
          refine plE ?_
          refine wpAnyH_ready (rs := [7]) (by kernel_rfl) (by simp) ?_
          refine AllReadyH.cons (o := ⟨_, _, _, _, _, _⟩) rfl (fun K hK => ?_) AllReadyH.nil
          go_simp
          go_at_call 14; refine (HVD.out _ _ HYc3.out.any).mono ?_; rintro e wd7 ⟨rfl, hb⟩; have HQc7 := Lib.hid ((HQc3.out).later hb); have HXc7 := Lib.hid ((HXc3.out).later hb); have HYc7 := Lib.hid ((HYc3.out).later hb); clear hb
          refine hK.out _ _ (HK18.out _ HQc7.out) (fun hHeld => ?_)
          clear hK K
          try simp only [Act.put, List.setIfInBounds_toArray, List.set_cons_zero, List.set_cons_succ]
          refine wpAnyH_ready (rs := [10]) (by kernel_rfl) (by simp) ?_
          refine AllReadyH.cons (o := ⟨_, _, _, _, _, _⟩) rfl (fun K hK => ?_) AllReadyH.nil
          go_simp
          go_at_call 16; refine (HN1.out _ HQc7.out.p.la.any).mono ?_; rintro e wd10 ⟨rfl, hb⟩; have HQc10 := Lib.hid ((HQc7.out).later hb); have HXc10 := Lib.hid ((HXc7.out).later hb); have HYc10 := Lib.hid ((HYc7.out).later hb); clear hb
          refine hK.out _ _ (HK18.out _ HQc10.out) (fun hHeld => ?_)
          clear hK K
          try simp only [Act.put, List.setIfInBounds_toArray, List.set_cons_zero, List.set_cons_succ]
          refine wpAnyH_ready (rs := [13]) (by kernel_rfl) (by simp) ?_
          refine AllReadyH.cons (o := ⟨_, _, _, _, _, _⟩) rfl (fun K hK => ?_) AllReadyH.nil
          go_simp
          go_at_call 16; refine (HN2.out _ HQc10.out.p.lb.any).mono ?_; rintro e wd13 ⟨rfl, hb⟩; have HQc13 := Lib.hid ((HQc10.out).later hb); have HXc13 := Lib.hid ((HXc10.out).later hb); have HYc13 := Lib.hid ((HYc10.out).later hb); clear hb
          refine hK.out _ _ (HK18.out _ HQc13.out) (fun hHeld => ?_)
          clear hK K
          try simp only [Act.put, List.setIfInBounds_toArray, List.set_cons_zero, List.set_cons_succ]
          refine plI [(14, false), (15, false), (16, false), (17, false), (18, false), (19, false)] ?_
          repeat ((first | ((with_reducible show Plan ((_, true) :: _) _); refine plF ?_) | (refine plR (v := ?_) ?_ ?_; rotate_left; focus (intro W hSW; (try dsimp only at hSW); go_simp; all_goals (with_reducible rfl)))); try simp only [Act.put, List.setIfInBounds_toArray, List.set_cons_zero, List.set_cons_succ])
          refine plE ?_
          refine wpAnyH_done (by kernel_rfl) ?_ _
          clear hHeld HK18
          go_wp2_with fail
          go_ret
          exact ⟨ret_bool (by simp), HQc13.out.p.bl⟩
set_option maxRecDepth 100000 in
set_option maxHeartbeats 8000000 in
theorem parts_half (w0 : World) (ht : Tab w0) (hv : Evs w0) (a b : Ru) (va vb : Value) (w : World) (hb0 : Below w0.heap.size w0 w) (hca : cnt a.cond ≤ 80) (hcb : cnt b.cond ≤ 80) (hfa : FitE a.cond) (hfb : FitE b.cond) (hna : a.name.size ≤ maxLen) (hka : a.kind.size ≤ maxLen) (hnb : b.name.size ≤ maxLen) (hkb : b.kind.size ≤ maxLen) (hla : Lay w va a.cond.kids) (hlb : Lay w vb b.cond.kids) (hw : fewsU [a, b] = true) (hy : ruleB a = true) (hbv : ruleB b = false) :
    Calls Tryz.prog 5 #[.agg (ruA a va), .agg (ruA b vb)] w fun e w' => e = .returned (.bool true) ∧ Below w.heap.size w w' := by
  have hsz0 := hb0.size
  have HHD := Lib.hid (fun W (hb : Below w.heap.size w W) => head_any w0 W ht hv (hb0.trans (hb.mono hsz0)))
  have HFW := Lib.hid (fun (g : Nat) W (h : RuL W (.slice (some ⟨g, 0, none⟩) 2 2) [a, b]) => few_any _ [a, b] W h (show 2 ≤ 5 by decide))
  have HS := Lib.hid (TP.start hla hlb)
  have HVA := Lib.hid (fun W (h : Lay W va a.cond.kids) => valid_any a va W (by omega) hfa hna hka h)
  have HVN := Lib.hid (fun v W (h : Lay W v [a.cond]) => show Calls Tryz.prog 14 #[.agg #[.string a.name, .string a.kind, .int .i64 2, .string ⟨#[]⟩, .string ⟨#[]⟩, .int .i64 0, .int .i64 0, v]] W fun e w' => e = .returned (.bool (ruleB ⟨a.name, a.kind, notE a.cond⟩)) ∧ Below W.heap.size W w' from valid_any ⟨a.name, a.kind, notE a.cond⟩ v W (by have := cnt_not a.cond; dsimp only; omega) (fit_not hfa) hna hka h)
  have HVD := Lib.hid (fun v W (h : Lay W v [a.cond, b.cond]) => show Calls Tryz.prog 14 #[.agg #[.string a.name, .string a.kind, .int .i64 3, .string ⟨#[]⟩, .string ⟨#[]⟩, .int .i64 0, .int .i64 0, v]] W fun e w' => e = .returned (.bool (ruleB ⟨a.name, a.kind, bothE a.cond b.cond⟩)) ∧ Below W.heap.size W w' from valid_any ⟨a.name, a.kind, bothE a.cond b.cond⟩ v W (by have := cnt_both a.cond b.cond; dsimp only; omega) (fit_both hfa hfb) hna hka h)
  rw [hw] at HFW
  rw [hy] at HVA
  have HVB := Lib.hid (fun W (h : Lay W vb b.cond.kids) => valid_any b vb W (by omega) hfb hnb hkb h)
  rw [hbv] at HVB
  have HVK := Lib.hid (fun k (hk : k < a.cond.kids.length) v W (h : Lay W v (a.cond.kids[k]).kids) => (valid_any ⟨a.name, a.kind, a.cond.kids[k]⟩ v W (by have := cnt_kid (List.getElem_mem hk); dsimp only; omega) (hfa.kid _ (List.getElem_mem hk)) hna hka h).mono (by rw [rule_kid hy (List.getElem_mem hk)]; exact fun _ _ h => h))
  have HN1 := Lib.hid (fun W (h : Lay W va a.cond.kids) => nodes_any a.cond 80 va W (by decide) h)
  have HN2 := Lib.hid (fun W (h : Lay W vb b.cond.kids) => nodes_any b.cond 80 vb W (by decide) h)
  rw [rule_not hy] at HVN
  have HLN := Lib.hid (show a.cond.kids.length ≤ 1000 by have := len_cnts a.cond.kids; have := cnt_eq a.cond; omega)
  obtain ⟨z1, hz1⟩ : ∃ z, ndN a.cond 80 = z := ⟨_, rfl⟩
  obtain ⟨z2, hz2⟩ : ∃ z, ndN b.cond 80 = z := ⟨_, rfl⟩
  have z1l : z1 ≤ 81 := by rw [← hz1]; unfold ndN; omega
  have z2l : z2 ≤ 81 := by rw [← hz2]; unfold ndN; omega
  rw [hz1] at HVN HN1
  rw [hz2] at HN2
  obtain ⟨bn, hbn⟩ : ∃ x, decide (z1 < 60) = x := ⟨_, rfl⟩
  have HZN := Lib.hid (show decide ((z1 : Int) < 60) = bn from (decide_eq_decide.2 (by omega)).trans hbn)
  rw [hbn] at HVN
  have HZD := Lib.hid (Nat.le_refl z2)
  clear hbn hz1 hz2 z1l z2l
  obtain ⟨A, c, rfl, _⟩ := hla.slice
  obtain ⟨B, d, rfl, _⟩ := hlb.slice
  dsimp only [ruA] at *
  clear hla hlb hb0 ht hv hca hcb hfa hfb hna hka hnb hkb
  go_enter Tryz.func5, Tryz.ntmps5
  go_wp2_with (first
    | (go_at_call 7; refine (HHD.out _ HS.out.bl).mono ?_; rintro e w2 ⟨rfl, hb⟩; have HP2 := Lib.hid (HS.out.later hb); obtain ⟨da2, fa2⟩ := HP2.out.ha.facts; (try dsimp only [ruA] at da2); obtain ⟨db2, fb2⟩ := HP2.out.hb.facts; (try dsimp only [ruA] at db2); clear hb)
    | (go_at_call 8; refine (HFW.out _ _ (ru_two (Has.new w2 26 #[.string a.name, .string a.kind, .int .i64 a.cond.op, .string a.cond.name, .string a.cond.value, .int .i64 a.cond.n, .int .i64 a.cond.extra, .slice A a.cond.kids.length c, .string b.name, .string b.kind, .int .i64 b.cond.op, .string b.cond.name, .string b.cond.value, .int .i64 b.cond.n, .int .i64 b.cond.extra, .slice B b.cond.kids.length d]) (HP2.out.alloc (.cells #[.string a.name, .string a.kind, .int .i64 a.cond.op, .string a.cond.name, .string a.cond.value, .int .i64 a.cond.n, .int .i64 a.cond.extra, .slice A a.cond.kids.length c, .string b.name, .string b.kind, .int .i64 b.cond.op, .string b.cond.name, .string b.cond.value, .int .i64 b.cond.n, .int .i64 b.cond.extra, .slice B b.cond.kids.length d] 26)).la.any (HP2.out.alloc (.cells #[.string a.name, .string a.kind, .int .i64 a.cond.op, .string a.cond.name, .string a.cond.value, .int .i64 a.cond.n, .int .i64 a.cond.extra, .slice A a.cond.kids.length c, .string b.name, .string b.kind, .int .i64 b.cond.op, .string b.cond.name, .string b.cond.value, .int .i64 b.cond.n, .int .i64 b.cond.extra, .slice B b.cond.kids.length d] 26)).lb.any)).mono ?_; rintro e w3 ⟨rfl, hb⟩; have HP3 := Lib.hid ((HP2.out.alloc (.cells #[.string a.name, .string a.kind, .int .i64 a.cond.op, .string a.cond.name, .string a.cond.value, .int .i64 a.cond.n, .int .i64 a.cond.extra, .slice A a.cond.kids.length c, .string b.name, .string b.kind, .int .i64 b.cond.op, .string b.cond.name, .string b.cond.value, .int .i64 b.cond.n, .int .i64 b.cond.extra, .slice B b.cond.kids.length d] 26)).later hb); clear da2 fa2 db2 fb2; obtain ⟨da3, fa3⟩ := HP3.out.ha.facts; (try dsimp only [ruA] at da3); obtain ⟨db3, fb3⟩ := HP3.out.hb.facts; (try dsimp only [ruA] at db3); clear hb))
  go_cut [6, 7] from 17 to 18 (fun p q wc => ∃ g h, p = .pointer (some ⟨g, 0, none⟩) ∧ q = .pointer (some ⟨h, 0, none⟩) ∧ Hid (TQ w a b (.slice A a.cond.kids.length c) (.slice B b.cond.kids.length d) g h #[.string a.name, .string a.kind, .int .i64 a.cond.op, .string a.cond.name, .string a.cond.value, .int .i64 a.cond.n, .int .i64 a.cond.extra, .slice A a.cond.kids.length c] #[.string a.name, .string a.kind, .int .i64 a.cond.op, .string a.cond.name, .string a.cond.value, .int .i64 a.cond.n, .int .i64 a.cond.extra, .slice A a.cond.kids.length c] wc))
  case first =>
    have hz3 : w.heap.size < w3.heap.size := Nat.lt_of_succ_lt HP3.out.size
    go_region
    all_goals (go_wp2_with fail)
    all_goals go_meet
    all_goals first
      | exact ⟨_, _, rfl, rfl, HP3.out.two _ _⟩
      | exact ⟨_, _, rfl, rfl, HP3.out.two' _ _⟩
  case rest =>
    obtain ⟨g, hh, rfl, rfl, HQ4⟩ := hcut
    clear HP2 HP3 da3 db3 fa3 fb3
    obtain ⟨da4, fa4⟩ := HQ4.out.p.ha.facts; (try dsimp only [ruA] at da4); obtain ⟨db4, fb4⟩ := HQ4.out.p.hb.facts; (try dsimp only [ruA] at db4); obtain ⟨dx4, fx4⟩ := HQ4.out.hx.facts; (try dsimp only [ruA] at dx4); obtain ⟨dy4, fy4⟩ := HQ4.out.hy.facts; (try dsimp only [ruA] at dy4)
    have hg4 : g < wc.heap.size := HQ4.out.hx.lt
    have hz4 : hh < wc.heap.size := HQ4.out.hy.lt
    have hw4 : w.heap.size < wc.heap.size := HQ4.out.p.ha.lt
    have hv4 : w.heap.size + 1 < wc.heap.size := HQ4.out.p.hb.lt
    have hgh : ¬ g = hh := HQ4.out.ne
    go_upto_region 6 with fail
    obtain ⟨hq5, hx5⟩ := HQ4.out.negate
    change Code.wp _ _ _ _ ((six2 wc g (.int .i64 2) (.string ⟨#[]⟩) (.string ⟨#[]⟩) (.int .i64 0) (.int .i64 0) (.slice (some ⟨wc.heap.size, 0, none⟩) 1 1)).alloc (.cells #[.int .i64 a.cond.op, .string a.cond.name, .string a.cond.value, .int .i64 a.cond.n, .int .i64 a.cond.extra, .slice A a.cond.kids.length c] 24))
    change TQ _ _ _ _ _ _ _ _ _ ((six2 wc g (.int .i64 2) (.string ⟨#[]⟩) (.string ⟨#[]⟩) (.int .i64 0) (.int .i64 0) (.slice (some ⟨wc.heap.size, 0, none⟩) 1 1)).alloc (.cells #[.int .i64 a.cond.op, .string a.cond.name, .string a.cond.value, .int .i64 a.cond.n, .int .i64 a.cond.extra, .slice A a.cond.kids.length c] 24)) at hq5
    change LayS _ ((six2 wc g (.int .i64 2) (.string ⟨#[]⟩) (.string ⟨#[]⟩) (.int .i64 0) (.int .i64 0) (.slice (some ⟨wc.heap.size, 0, none⟩) 1 1)).alloc (.cells #[.int .i64 a.cond.op, .string a.cond.name, .string a.cond.value, .int .i64 a.cond.n, .int .i64 a.cond.extra, .slice A a.cond.kids.length c] 24)) _ _ at hx5
    generalize ((six2 wc g (.int .i64 2) (.string ⟨#[]⟩) (.string ⟨#[]⟩) (.int .i64 0) (.int .i64 0) (.slice (some ⟨wc.heap.size, 0, none⟩) 1 1)).alloc (.cells #[.int .i64 a.cond.op, .string a.cond.name, .string a.cond.value, .int .i64 a.cond.n, .int .i64 a.cond.extra, .slice A a.cond.kids.length c] 24)) = w5 at *
    (try clear da4); (try clear db4); (try clear dx4); (try clear dy4); (try clear fa4); (try clear fb4); (try clear fx4); (try clear fy4)
    clear hg4 hz4 hw4 hv4 HQ4
    generalize wc.heap.size = rx at *
    have HQ5 := Lib.hid hq5
    have HX5 := Lib.hid hx5
    clear hq5 hx5
    obtain ⟨da5, fa5⟩ := HQ5.out.p.ha.facts; (try dsimp only [ruA] at da5); obtain ⟨db5, fb5⟩ := HQ5.out.p.hb.facts; (try dsimp only [ruA] at db5); obtain ⟨dx5, fx5⟩ := HQ5.out.hx.facts; (try dsimp only [ruA] at dx5); obtain ⟨dy5, fy5⟩ := HQ5.out.hy.facts; (try dsimp only [ruA] at dy5)
    have hg5 : g < w5.heap.size := HQ5.out.hx.lt
    have hz5 : hh < w5.heap.size := HQ5.out.hy.lt
    have hw5 : w.heap.size < w5.heap.size := HQ5.out.p.ha.lt
    have hv5 : w.heap.size + 1 < w5.heap.size := HQ5.out.p.hb.lt
    have hhg : ¬ hh = g := fun e => hgh e.symm
    go_upto_region 7 with fail
    obtain ⟨hq6, hx6, hy6⟩ := HQ5.out.unite HX5.out
    change Code.wp _ _ _ _ ((six2 w5 hh (.int .i64 3) (.string ⟨#[]⟩) (.string ⟨#[]⟩) (.int .i64 0) (.int .i64 0) (.slice (some ⟨w5.heap.size, 0, none⟩) 2 2)).alloc (.cells #[.int .i64 a.cond.op, .string a.cond.name, .string a.cond.value, .int .i64 a.cond.n, .int .i64 a.cond.extra, .slice A a.cond.kids.length c, .int .i64 b.cond.op, .string b.cond.name, .string b.cond.value, .int .i64 b.cond.n, .int .i64 b.cond.extra, .slice B b.cond.kids.length d] 24))
    change TQ _ _ _ _ _ _ _ _ _ ((six2 w5 hh (.int .i64 3) (.string ⟨#[]⟩) (.string ⟨#[]⟩) (.int .i64 0) (.int .i64 0) (.slice (some ⟨w5.heap.size, 0, none⟩) 2 2)).alloc (.cells #[.int .i64 a.cond.op, .string a.cond.name, .string a.cond.value, .int .i64 a.cond.n, .int .i64 a.cond.extra, .slice A a.cond.kids.length c, .int .i64 b.cond.op, .string b.cond.name, .string b.cond.value, .int .i64 b.cond.n, .int .i64 b.cond.extra, .slice B b.cond.kids.length d] 24)) at hq6
    change LayS _ ((six2 w5 hh (.int .i64 3) (.string ⟨#[]⟩) (.string ⟨#[]⟩) (.int .i64 0) (.int .i64 0) (.slice (some ⟨w5.heap.size, 0, none⟩) 2 2)).alloc (.cells #[.int .i64 a.cond.op, .string a.cond.name, .string a.cond.value, .int .i64 a.cond.n, .int .i64 a.cond.extra, .slice A a.cond.kids.length c, .int .i64 b.cond.op, .string b.cond.name, .string b.cond.value, .int .i64 b.cond.n, .int .i64 b.cond.extra, .slice B b.cond.kids.length d] 24)) _ _ at hx6
    change LayS _ ((six2 w5 hh (.int .i64 3) (.string ⟨#[]⟩) (.string ⟨#[]⟩) (.int .i64 0) (.int .i64 0) (.slice (some ⟨w5.heap.size, 0, none⟩) 2 2)).alloc (.cells #[.int .i64 a.cond.op, .string a.cond.name, .string a.cond.value, .int .i64 a.cond.n, .int .i64 a.cond.extra, .slice A a.cond.kids.length c, .int .i64 b.cond.op, .string b.cond.name, .string b.cond.value, .int .i64 b.cond.n, .int .i64 b.cond.extra, .slice B b.cond.kids.length d] 24)) _ _ at hy6
    generalize ((six2 w5 hh (.int .i64 3) (.string ⟨#[]⟩) (.string ⟨#[]⟩) (.int .i64 0) (.int .i64 0) (.slice (some ⟨w5.heap.size, 0, none⟩) 2 2)).alloc (.cells #[.int .i64 a.cond.op, .string a.cond.name, .string a.cond.value, .int .i64 a.cond.n, .int .i64 a.cond.extra, .slice A a.cond.kids.length c, .int .i64 b.cond.op, .string b.cond.name, .string b.cond.value, .int .i64 b.cond.n, .int .i64 b.cond.extra, .slice B b.cond.kids.length d] 24)) = w6 at *
    (try clear da5); (try clear db5); (try clear dx5); (try clear dy5); (try clear fa5); (try clear fb5); (try clear fx5); (try clear fy5)
    clear hg5 hz5 hw5 hv5 HQ5 HX5 hgh hhg
    generalize w5.heap.size = ry at *
    have HQ6 := Lib.hid hq6
    have HX6 := Lib.hid hx6
    have HY6 := Lib.hid hy6
    clear hq6 hx6 hy6
    obtain ⟨da6, fa6⟩ := HQ6.out.p.ha.facts; (try dsimp only [ruA] at da6); obtain ⟨db6, fb6⟩ := HQ6.out.p.hb.facts; (try dsimp only [ruA] at db6); obtain ⟨dx6, fx6⟩ := HQ6.out.hx.facts; (try dsimp only [ruA] at dx6); obtain ⟨dy6, fy6⟩ := HQ6.out.hy.facts; (try dsimp only [ruA] at dy6)
    go_wp2_with (go_at_call 14; first
      | ((with_reducible show Calls _ _ #[.agg #[.string a.name, .string a.kind, .int .i64 a.cond.op, .string a.cond.name, .string a.cond.value, .int .i64 a.cond.n, .int .i64 a.cond.extra, .slice A a.cond.kids.length c]] _ _); refine (HVA.out _ HQ6.out.p.la.any).mono ?_; rintro e w7 ⟨rfl, hb⟩; have HQ7 := Lib.hid (HQ6.out.later hb); have HX7 := Lib.hid (HX6.out.later hb); have HY7 := Lib.hid (HY6.out.later hb); (try clear da6); (try clear db6); (try clear dx6); (try clear dy6); (try clear fa6); (try clear fb6); (try clear fx6); (try clear fy6); obtain ⟨da7, fa7⟩ := HQ7.out.p.ha.facts; (try dsimp only [ruA] at da7); obtain ⟨db7, fb7⟩ := HQ7.out.p.hb.facts; (try dsimp only [ruA] at db7); obtain ⟨dx7, fx7⟩ := HQ7.out.hx.facts; (try dsimp only [ruA] at dx7); obtain ⟨dy7, fy7⟩ := HQ7.out.hy.facts; (try dsimp only [ruA] at dy7); clear hb))
    go_loopw [8] (fun i wr => ∃ k : Nat, i = .int .i64 k ∧ k ≤ a.cond.kids.length ∧ Hid (TQ w a b (.slice A a.cond.kids.length c) (.slice B b.cond.kids.length d) g hh #[.string a.name, .string a.kind, .int .i64 2, .string ⟨#[]⟩, .string ⟨#[]⟩, .int .i64 0, .int .i64 0, .slice (some ⟨rx, 0, none⟩) 1 1] #[.string a.name, .string a.kind, .int .i64 3, .string ⟨#[]⟩, .string ⟨#[]⟩, .int .i64 0, .int .i64 0, .slice (some ⟨ry, 0, none⟩) 2 2] wr) ∧ Hid (LayS (fun i => i ≠ g ∧ i ≠ hh) wr (.slice (some ⟨rx, 0, none⟩) 1 1) [a.cond]) ∧ Hid (LayS (fun i => i ≠ g ∧ i ≠ hh) wr (.slice (some ⟨ry, 0, none⟩) 2 2) [a.cond, b.cond])) (fun i _ => a.cond.kids.length - (intOf i).toNat)
    case atStart => exact ⟨0, rfl, Nat.zero_le _, HQ7.out, HX7.out, HY7.out⟩
    case round =>
      obtain ⟨k, rfl, hk, HQr, HXr, HYr⟩ := hrel
      (try clear da7); (try clear db7); (try clear dx7); (try clear dy7); (try clear fa7); (try clear fb7); (try clear fx7); (try clear fy7)
      clear HQ6 HX6 HY6 HQ7 HX7 HY7 HVA
      obtain ⟨dar, far⟩ := HQr.out.p.ha.facts; (try dsimp only [ruA] at dar); obtain ⟨dbr, fbr⟩ := HQr.out.p.hb.facts; (try dsimp only [ruA] at dbr); obtain ⟨dxr, fxr⟩ := HQr.out.hx.facts; (try dsimp only [ruA] at dxr); obtain ⟨dyr, fyr⟩ := HQr.out.hy.facts; (try dsimp only [ruA] at dyr)
      have hwr : w.heap.size < wr.heap.size := HQr.out.p.ha.lt
      by_cases hlt : k < a.cond.kids.length
      · have hki : (k : Int) < (a.cond.kids.length : Int) := by omega
        have hs3 : IntKind.i64.wrap ((k : Int) + 1) = (k : Int) + 1 := IntWalk.i64_in _ (by have := HLN.out; omega)
        have HC := Lib.hid (HVK.out k hlt)
        have hal : HidL wr A a c := HQr.out.p.la.any
        obtain ⟨_, _, hkid⟩ := LayS.kid hal
        obtain ⟨kb, ko, kv, rfl, hcell, hkk⟩ := hkid k hlt
        have hc0 := hcell 0 (by decide)
        have hc1 := hcell 1 (by decide)
        have hc2 := hcell 2 (by decide)
        have hc3 := hcell 3 (by decide)
        have hc4 := hcell 4 (by decide)
        have hc5 := hcell 5 (by decide)
        simp only [exF, if_true, if_false, Nat.reduceEqDiff, Nat.add_one_ne_zero, ← Nat.add_assoc, Nat.add_zero] at hc0 hc1 hc2 hc3 hc4 hc5
        have hkz := cell_size hc0
        have HKK := Lib.hid hkk
        obtain ⟨Ak, ck, rfl, _⟩ := hkk.slice
        clear hkid hcell hkk hal
        generalize a.cond.kids[k] = ek at *
        go_wp2_with (go_at_call 14; refine (HC.out _ _ (HKK.out.later ((Below.refl _ _).alloc (Nat.le_refl _) _))).mono ?_; rintro e w8 ⟨rfl, hb⟩; have HQ8 := Lib.hid ((HQr.out.alloc (.cells #[.string a.name, .string a.kind, .int .i64 ek.op, .string ek.name, .string ek.value, .int .i64 ek.n, .int .i64 ek.extra, .slice Ak ek.kids.length ck] 26)).later hb); have HX8 := Lib.hid ((HXr.out.later ((Below.refl _ _).alloc (Nat.le_refl _) (.cells #[.string a.name, .string a.kind, .int .i64 ek.op, .string ek.name, .string ek.value, .int .i64 ek.n, .int .i64 ek.extra, .slice Ak ek.kids.length ck] 26))).later hb); have HY8 := Lib.hid ((HYr.out.later ((Below.refl _ _).alloc (Nat.le_refl _) (.cells #[.string a.name, .string a.kind, .int .i64 ek.op, .string ek.name, .string ek.value, .int .i64 ek.n, .int .i64 ek.extra, .slice Ak ek.kids.length ck] 26))).later hb); clear hb)
        go_roundw
        case rel => exact ⟨k + 1, by go_num, hlt, HQ8, HX8, HY8⟩
        case measure => simp [intOf]; omega
      · have hki : ¬ (k : Int) < (a.cond.kids.length : Int) := by omega
        have hzn := HZN.out
        clear HVK HLN
        go_wp2_with fail
        go_cut [70] from 64 to 70 (fun v wc => v = .bool false ∧ Hid (TQ w a b (.slice A a.cond.kids.length c) (.slice B b.cond.kids.length d) g hh #[.string a.name, .string a.kind, .int .i64 2, .string ⟨#[]⟩, .string ⟨#[]⟩, .int .i64 0, .int .i64 0, .slice (some ⟨rx, 0, none⟩) 1 1] #[.string a.name, .string a.kind, .int .i64 3, .string ⟨#[]⟩, .string ⟨#[]⟩, .int .i64 0, .int .i64 0, .slice (some ⟨ry, 0, none⟩) 2 2] wc) ∧ Hid (LayS (fun i => i ≠ g ∧ i ≠ hh) wc (.slice (some ⟨rx, 0, none⟩) 1 1) [a.cond]) ∧ Hid (LayS (fun i => i ≠ g ∧ i ≠ hh) wc (.slice (some ⟨ry, 0, none⟩) 2 2) [a.cond, b.cond]))
        case first =>
          have HK16 := Lib.hid (fun W (q : TQ w a b (.slice A a.cond.kids.length c) (.slice B b.cond.kids.length d) g hh #[.string a.name, .string a.kind, .int .i64 2, .string ⟨#[]⟩, .string ⟨#[]⟩, .int .i64 0, .int .i64 0, .slice (some ⟨rx, 0, none⟩) 1 1] #[.string a.name, .string a.kind, .int .i64 3, .string ⟨#[]⟩, .string ⟨#[]⟩, .int .i64 0, .int .i64 0, .slice (some ⟨ry, 0, none⟩) 2 2] W) => ((⟨q.hx.cell 0, q.hx.cell 1, q.hx.cell 2, q.hx.cell 3, q.hx.cell 4, q.hx.cell 5, q.hx.cell 6, q.hx.cell 7, q.p.ha.cell 2, q.p.ha.cell 3, q.p.ha.cell 4, q.p.ha.cell 5, q.p.ha.cell 6, q.p.ha.cell 7⟩) : (fun W => W.cell? ⟨g, 0, none⟩ = some (.string a.name) ∧ W.cell? ⟨g, 1, none⟩ = some (.string a.kind) ∧ W.cell? ⟨g, 2, none⟩ = some (.int .i64 2) ∧ W.cell? ⟨g, 3, none⟩ = some (.string ⟨#[]⟩) ∧ W.cell? ⟨g, 4, none⟩ = some (.string ⟨#[]⟩) ∧ W.cell? ⟨g, 5, none⟩ = some (.int .i64 0) ∧ W.cell? ⟨g, 6, none⟩ = some (.int .i64 0) ∧ W.cell? ⟨g, 7, none⟩ = some (.slice (some ⟨rx, 0, none⟩) 1 1) ∧ W.cell? ⟨w.heap.size, 2, none⟩ = some (.int .i64 a.cond.op) ∧ W.cell? ⟨w.heap.size, 3, none⟩ = some (.string a.cond.name) ∧ W.cell? ⟨w.heap.size, 4, none⟩ = some (.string a.cond.value) ∧ W.cell? ⟨w.heap.size, 5, none⟩ = some (.int .i64 a.cond.n) ∧ W.cell? ⟨w.heap.size, 6, none⟩ = some (.int .i64 a.cond.extra) ∧ W.cell? ⟨w.heap.size, 7, none⟩ = some (.slice A a.cond.kids.length c)) W))
          refine wp_region_held_drew (S := fun W => W.cell? ⟨g, 0, none⟩ = some (.string a.name) ∧ W.cell? ⟨g, 1, none⟩ = some (.string a.kind) ∧ W.cell? ⟨g, 2, none⟩ = some (.int .i64 2) ∧ W.cell? ⟨g, 3, none⟩ = some (.string ⟨#[]⟩) ∧ W.cell? ⟨g, 4, none⟩ = some (.string ⟨#[]⟩) ∧ W.cell? ⟨g, 5, none⟩ = some (.int .i64 0) ∧ W.cell? ⟨g, 6, none⟩ = some (.int .i64 0) ∧ W.cell? ⟨g, 7, none⟩ = some (.slice (some ⟨rx, 0, none⟩) 1 1) ∧ W.cell? ⟨w.heap.size, 2, none⟩ = some (.int .i64 a.cond.op) ∧ W.cell? ⟨w.heap.size, 3, none⟩ = some (.string a.cond.name) ∧ W.cell? ⟨w.heap.size, 4, none⟩ = some (.string a.cond.value) ∧ W.cell? ⟨w.heap.size, 5, none⟩ = some (.int .i64 a.cond.n) ∧ W.cell? ⟨w.heap.size, 6, none⟩ = some (.int .i64 a.cond.extra) ∧ W.cell? ⟨w.heap.size, 7, none⟩ = some (.slice A a.cond.kids.length c)) (by kernel_rfl) (HK16.out _ HQr.out.drew) (fun hHeld => ?_)
          refine plI [(0, false), (2, false), (3, false)] ?_
          repeat ((first | ((with_reducible show Plan ((_, true) :: _) _); refine plF ?_) | (refine plR (v := ?_) ?_ ?_; rotate_left; focus (intro W hSW; (try dsimp only at hSW); go_simp; all_goals (with_reducible rfl)))); try simp only [Act.put, List.setIfInBounds_toArray, List.set_cons_zero, List.set_cons_succ])
          refine plE ?_
          refine wpAnyH_ready (rs := [1]) (by kernel_rfl) (by simp) ?_
          refine AllReadyH.cons (o := ⟨_, _, _, _, _, _⟩) rfl (fun K hK => ?_) AllReadyH.nil
          go_simp
          go_at_call 14; refine (HVN.out _ _ (HXr.out.later (Below.refl _ _).drew).any).mono ?_; rintro e wd1 ⟨rfl, hb⟩; have HQc1 := Lib.hid ((HQr.out.drew).later hb); have HXc1 := Lib.hid (((HXr.out.later (Below.refl _ _).drew)).later hb); have HYc1 := Lib.hid (((HYr.out.later (Below.refl _ _).drew)).later hb); clear hb
          refine hK.out _ _ (HK16.out _ HQc1.out) (fun hHeld => ?_)
          clear hK K
          try simp only [Act.put, List.setIfInBounds_toArray, List.set_cons_zero, List.set_cons_succ]
          refine wpAnyH_ready (rs := [4]) (by kernel_rfl) (by simp) ?_
          refine AllReadyH.cons (o := ⟨_, _, _, _, _, _⟩) rfl (fun K hK => ?_) AllReadyH.nil
          go_simp
          go_at_call 16; refine (HN1.out _ HQc1.out.p.la.any).mono ?_; rintro e wd4 ⟨rfl, hb⟩; have HQc4 := Lib.hid ((HQc1.out).later hb); have HXc4 := Lib.hid ((HXc1.out).later hb); have HYc4 := Lib.hid ((HYc1.out).later hb); clear hb
          refine hK.out _ _ (HK16.out _ HQc4.out) (fun hHeld => ?_)
          clear hK K
          try simp only [Act.put, List.setIfInBounds_toArray, List.set_cons_zero, List.set_cons_succ]
          refine plI [(5, false), (6, false)] ?_
          repeat ((first | ((with_reducible show Plan ((_, true) :: _) _); refine plF ?_) | (refine plR (v := ?_) ?_ ?_; rotate_left; focus (intro W hSW; (try dsimp only at hSW); go_simp; all_goals (with_reducible rfl)))); try simp only [Act.put, List.setIfInBounds_toArray, List.set_cons_zero, List.set_cons_succ])
          refine plE ?_
          refine wpAnyH_done (by kernel_rfl) ?_ _
          clear hHeld HK16
          go_wp2_with fail
          go_meet
          exact ⟨by simp, HQc4.out, HXc4.out, HYc4.out⟩
        case rest =>
          obtain ⟨rfl, HQ9, HX9, HY9⟩ := hcut
          (try clear dar); (try clear dbr); (try clear dxr); (try clear dyr); (try clear far); (try clear fbr); (try clear fxr); (try clear fyr)
          clear HQr HXr HYr
          obtain ⟨da9, fa9⟩ := HQ9.out.p.ha.facts; (try dsimp only [ruA] at da9); obtain ⟨db9, fb9⟩ := HQ9.out.p.hb.facts; (try dsimp only [ruA] at db9); obtain ⟨dx9, fx9⟩ := HQ9.out.hx.facts; (try dsimp only [ruA] at dx9); obtain ⟨dy9, fy9⟩ := HQ9.out.hy.facts; (try dsimp only [ruA] at dy9)
          have hzd := HZD.out
          go_wp2_with fail
          have HK18 := Lib.hid (fun W (q : TQ w a b (.slice A a.cond.kids.length c) (.slice B b.cond.kids.length d) g hh #[.string a.name, .string a.kind, .int .i64 2, .string ⟨#[]⟩, .string ⟨#[]⟩, .int .i64 0, .int .i64 0, .slice (some ⟨rx, 0, none⟩) 1 1] #[.string a.name, .string a.kind, .int .i64 3, .string ⟨#[]⟩, .string ⟨#[]⟩, .int .i64 0, .int .i64 0, .slice (some ⟨ry, 0, none⟩) 2 2] W) => ((⟨q.p.hb.cell 0, q.p.hb.cell 1, q.p.hb.cell 2, q.p.hb.cell 3, q.p.hb.cell 4, q.p.hb.cell 5, q.p.hb.cell 6, q.p.hb.cell 7, q.hy.cell 0, q.hy.cell 1, q.hy.cell 2, q.hy.cell 3, q.hy.cell 4, q.hy.cell 5, q.hy.cell 6, q.hy.cell 7, q.p.ha.cell 2, q.p.ha.cell 3, q.p.ha.cell 4, q.p.ha.cell 5, q.p.ha.cell 6, q.p.ha.cell 7⟩) : (fun W => W.cell? ⟨w.heap.size + 1, 0, none⟩ = some (.string b.name) ∧ W.cell? ⟨w.heap.size + 1, 1, none⟩ = some (.string b.kind) ∧ W.cell? ⟨w.heap.size + 1, 2, none⟩ = some (.int .i64 b.cond.op) ∧ W.cell? ⟨w.heap.size + 1, 3, none⟩ = some (.string b.cond.name) ∧ W.cell? ⟨w.heap.size + 1, 4, none⟩ = some (.string b.cond.value) ∧ W.cell? ⟨w.heap.size + 1, 5, none⟩ = some (.int .i64 b.cond.n) ∧ W.cell? ⟨w.heap.size + 1, 6, none⟩ = some (.int .i64 b.cond.extra) ∧ W.cell? ⟨w.heap.size + 1, 7, none⟩ = some (.slice B b.cond.kids.length d) ∧ W.cell? ⟨hh, 0, none⟩ = some (.string a.name) ∧ W.cell? ⟨hh, 1, none⟩ = some (.string a.kind) ∧ W.cell? ⟨hh, 2, none⟩ = some (.int .i64 3) ∧ W.cell? ⟨hh, 3, none⟩ = some (.string ⟨#[]⟩) ∧ W.cell? ⟨hh, 4, none⟩ = some (.string ⟨#[]⟩) ∧ W.cell? ⟨hh, 5, none⟩ = some (.int .i64 0) ∧ W.cell? ⟨hh, 6, none⟩ = some (.int .i64 0) ∧ W.cell? ⟨hh, 7, none⟩ = some (.slice (some ⟨ry, 0, none⟩) 2 2) ∧ W.cell? ⟨w.heap.size, 2, none⟩ = some (.int .i64 a.cond.op) ∧ W.cell? ⟨w.heap.size, 3, none⟩ = some (.string a.cond.name) ∧ W.cell? ⟨w.heap.size, 4, none⟩ = some (.string a.cond.value) ∧ W.cell? ⟨w.heap.size, 5, none⟩ = some (.int .i64 a.cond.n) ∧ W.cell? ⟨w.heap.size, 6, none⟩ = some (.int .i64 a.cond.extra) ∧ W.cell? ⟨w.heap.size, 7, none⟩ = some (.slice A a.cond.kids.length c)) W))
          refine wp_region_held_drew (S := fun W => W.cell? ⟨w.heap.size + 1, 0, none⟩ = some (.string b.name) ∧ W.cell? ⟨w.heap.size + 1, 1, none⟩ = some (.string b.kind) ∧ W.cell? ⟨w.heap.size + 1, 2, none⟩ = some (.int .i64 b.cond.op) ∧ W.cell? ⟨w.heap.size + 1, 3, none⟩ = some (.string b.cond.name) ∧ W.cell? ⟨w.heap.size + 1, 4, none⟩ = some (.string b.cond.value) ∧ W.cell? ⟨w.heap.size + 1, 5, none⟩ = some (.int .i64 b.cond.n) ∧ W.cell? ⟨w.heap.size + 1, 6, none⟩ = some (.int .i64 b.cond.extra) ∧ W.cell? ⟨w.heap.size + 1, 7, none⟩ = some (.slice B b.cond.kids.length d) ∧ W.cell? ⟨hh, 0, none⟩ = some (.string a.name) ∧ W.cell? ⟨hh, 1, none⟩ = some (.string a.kind) ∧ W.cell? ⟨hh, 2, none⟩ = some (.int .i64 3) ∧ W.cell? ⟨hh, 3, none⟩ = some (.string ⟨#[]⟩) ∧ W.cell? ⟨hh, 4, none⟩ = some (.string ⟨#[]⟩) ∧ W.cell? ⟨hh, 5, none⟩ = some (.int .i64 0) ∧ W.cell? ⟨hh, 6, none⟩ = some (.int .i64 0) ∧ W.cell? ⟨hh, 7, none⟩ = some (.slice (some ⟨ry, 0, none⟩) 2 2) ∧ W.cell? ⟨w.heap.size, 2, none⟩ = some (.int .i64 a.cond.op) ∧ W.cell? ⟨w.heap.size, 3, none⟩ = some (.string a.cond.name) ∧ W.cell? ⟨w.heap.size, 4, none⟩ = some (.string a.cond.value) ∧ W.cell? ⟨w.heap.size, 5, none⟩ = some (.int .i64 a.cond.n) ∧ W.cell? ⟨w.heap.size, 6, none⟩ = some (.int .i64 a.cond.extra) ∧ W.cell? ⟨w.heap.size, 7, none⟩ = some (.slice A a.cond.kids.length c)) (by kernel_rfl) (HK18.out _ HQ9.out.drew) (fun hHeld => ?_)
          refine plI [(0, false), (1, false), (2, false)] ?_
          repeat ((first | ((with_reducible show Plan ((_, true) :: _) _); refine plF ?_) | (refine plR (v := ?_) ?_ ?_; rotate_left; focus (intro W hSW; (try dsimp only at hSW); go_simp; all_goals (with_reducible rfl)))); try simp only [Act.put, List.setIfInBounds_toArray, List.set_cons_zero, List.set_cons_succ])
          refine plE ?_
          refine wpAnyH_ready (rs := [3]) (by kernel_rfl) (by simp) ?_
          refine AllReadyH.cons (o := ⟨_, _, _, _, _, _⟩) rfl (fun K hK => ?_) AllReadyH.nil
          go_simp
          go_at_call 14; refine (HVB.out _ HQ9.out.drew.p.lb.any).mono ?_; rintro e wd3 ⟨rfl, hb⟩; have HQc3 := Lib.hid ((HQ9.out.drew).later hb); have HXc3 := Lib.hid (((HX9.out.later (Below.refl _ _).drew)).later hb); have HYc3 := Lib.hid (((HY9.out.later (Below.refl _ _).drew)).later hb); clear hb
          refine hK.out _ _ (HK18.out _ HQc3.out) (fun hHeld => ?_)
          clear hK K
          try simp only [Act.put, List.setIfInBounds_toArray, List.set_cons_zero, List.set_cons_succ]
          refine plI [(4, false), (5, false), (6, true), (7, true), (8, true), (9, true), (10, true), (11, true), (12, true), (13, true), (14, true), (15, true), (16, true), (17, false), (18, false), (19, false)] ?_
          repeat ((first | ((with_reducible show Plan ((_, true) :: _) _); refine plF ?_) | (refine plR (v := ?_) ?_ ?_; rotate_left; focus (intro W hSW; (try dsimp only at hSW); go_simp; all_goals (with_reducible rfl)))); try simp only [Act.put, List.setIfInBounds_toArray, List.set_cons_zero, List.set_cons_succ])
          refine plE ?_
          refine wpAnyH_done (by kernel_rfl) ?_ _
          clear hHeld HK18
          go_wp2_with fail
          go_ret
          exact ⟨ret_bool (by simp), HQc3.out.p.bl⟩
theorem parts_any (w0 : World) (ht : Tab w0) (hv : Evs w0) (a b : Ru) (va vb : Value) (w : World) (hb0 : Below w0.heap.size w0 w) (hfa : FitE a.cond) (hfb : FitE b.cond) (hna : a.name.size ≤ maxLen) (hka : a.kind.size ≤ maxLen) (hnb : b.name.size ≤ maxLen) (hkb : b.kind.size ≤ maxLen) (hla : Lay w va a.cond.kids) (hlb : Lay w vb b.cond.kids) :
    Calls Tryz.prog 5 #[.agg (ruA a va), .agg (ruA b vb)] w fun e w' => e = .returned (.bool true) ∧ Below w.heap.size w w' := by
  cases hw : fewsU [a, b] with
  | false => exact parts_few w0 ht hv a b va vb w hb0 hla hlb hw
  | true =>
    have hca := few_cnt hw (List.mem_cons_self ..)
    have hcb := few_cnt hw (List.mem_cons_of_mem _ (List.mem_cons_self ..))
    cases hy : ruleB a with
    | false => exact parts_no w0 ht hv a b va vb w hb0 hca hcb hfa hfb hna hka hla hlb hw hy
    | true =>
      cases hbv : ruleB b with
      | false => exact parts_half w0 ht hv a b va vb w hb0 hca hcb hfa hfb hna hka hnb hkb hla hlb hw hy hbv
      | true => exact parts_yes w0 ht hv a b va vb w hb0 hca hcb hfa hfb hna hka hnb hkb hla hlb hw hy hbv
end Go.Proofs.YtppoeiofdmlpeaaGreatDoor
