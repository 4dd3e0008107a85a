/- The parser's rule. Condition: the error variables of strconv hold something. The deferred closure of rule.Parse: of a frame that returns, of one that panics with a failure. Condition: the three results' cells are new. Tokens of a text are few and short; what is read has few nodes. No condition. What the parser reads has at most as many nodes as tokens. No condition. rule.Parse, where the text is no tokens. Condition: the text lies in memory. rule.Parse, where the tokens are no rule. Condition: the text lies in memory; the error variables of strconv hold something. rule.Parse: the rule of a text, or an error and its offset. Condition: the text lies in memory; the error variables of strconv hold something. -/
import Derived.Defers
import Derived.Recover
import Derived.RegionTactic
import Derived.Test.YtcpakaiblelmlaaGreatDoorU01
import Derived.Test.YtcpakaiblelmlaaGreatDoorU02
import Derived.Test.YtcpakaiblelmlaaGreatDoorU14
import Derived.Test.YtcpakaiblelmlaaGreatDoorU16
namespace Go.Proofs.YtcpakaiblelmlaaGreatDoor
open Go Go.RowKit
/-- A rule's value. -/
def RuR (N : Nat) (w : World) (v : Value) (r : Ru) : Prop := ∃ kv, v = .agg (ruA r kv) ∧ LayS (fun b => N ≤ b) w kv r.cond.kids
abbrev zRu : Array Value := #[.string ⟨#[]⟩, .string ⟨#[]⟩, .int .i64 0, .string ⟨#[]⟩, .string ⟨#[]⟩, .int .i64 0, .int .i64 0, .slice none 0 0]
theorem Par.some {w : World} {g : Nat} {E : Int} {l : List Fnd} (h : Par w g E l) : ∃ A c, Has w g 114 #[.slice A l.length c, .int .i64 E] := by
  obtain ⟨v, h1, _, A, c, rfl, _⟩ := h
  exact ⟨A, c, h1⟩
theorem StP.set {w W : World} {g T B : Nat} {E : Int} {cs : Array Value} {l : List Fnd} (h : StP w g E T cs l W) (hg : g < w.heap.size) (hB : w.heap.size < B) (i : Nat) (v : Value) : StP w g E T cs l (W.setCell ⟨B, i, none⟩ v) :=
  ⟨h.aw.set B i (.inr (.inr (Nat.le_of_lt hB))) v, h.par.on fun b hb => heap_setCell_other W ⟨B, i, none⟩ b v (by show b ≠ B; omega), h.res.far ⟨B, i, none⟩ (by show w.heap.size ≠ B; omega) v⟩
/-- Six cells laid from the third on. -/
def six2 (W : World) (B : Nat) (v0 v1 v2 v3 v4 v5 : Value) : World := (((((W.setCell ⟨B, 2, none⟩ v0).setCell ⟨B, 3, none⟩ v1).setCell ⟨B, 4, none⟩ v2).setCell ⟨B, 5, none⟩ v3).setCell ⟨B, 6, none⟩ v4).setCell ⟨B, 7, none⟩ v5
theorem six2_has {W : World} {B t : Nat} {b0 b1 a0 a1 a2 a3 a4 a5 : Value} (h : Has W B t #[b0, b1, a0, a1, a2, a3, a4, a5]) (v0 v1 v2 v3 v4 v5 : Value) : Has (six2 W B v0 v1 v2 v3 v4 v5) B t #[b0, b1, v0, v1, v2, v3, v4, v5] :=
  (((((h.put 2 v0).put 3 v1).put 4 v2).put 5 v3).put 6 v4).put 7 v5
theorem six2_old (W : World) (B : Nat) (v0 v1 v2 v3 v4 v5 : Value) {k : Nat} (hk : k ≠ B) : (six2 W B v0 v1 v2 v3 v4 v5).heap[k]? = W.heap[k]? := by
  unfold six2
  iterate 6 rw [heap_setCell_other _ ⟨B, _, none⟩ k _ hk]
theorem six2_size (W : World) (B : Nat) (v0 v1 v2 v3 v4 v5 : Value) : (six2 W B v0 v1 v2 v3 v4 v5).heap.size = W.heap.size := by
  unfold six2
  simp only [World.size_setCell]
theorem six2_aw {u W : World} {g b B : Nat} (h : Aw g b u W) (hB : B = g ∨ B = b ∨ u.heap.size ≤ B) (v0 v1 v2 v3 v4 v5 : Value) : Aw g b u (six2 W B v0 v1 v2 v3 v4 v5) :=
  (((((h.set B 2 hB v0).set B 3 hB v1).set B 4 hB v2).set B 5 hB v3).set B 6 hB v4).set B 7 hB v5
theorem StP.six2 {w W : World} {g T B : Nat} {E : Int} {cs : Array Value} {l : List Fnd} (h : StP w g E T cs l W) (hg : g < w.heap.size) (hB : w.heap.size < B) (v0 v1 v2 v3 v4 v5 : Value) : StP w g E T cs l (six2 W B v0 v1 v2 v3 v4 v5) :=
  (((((h.set hg hB 2 v0).set hg hB 3 v1).set hg hB 4 v2).set hg hB 5 v3).set hg hB 6 v4).set hg hB 7 v5
theorem six2_lay {S : Nat → Prop} {W : World} {B : Nat} {v : Value} {ks : List Ex} (h : LayS S W v ks) (hS : ∀ b, S b → b ≠ B) (v0 v1 v2 v3 v4 v5 : Value) : LayS S (six2 W B v0 v1 v2 v3 v4 v5) v ks := h.on (fun b hb _ => six2_old W B _ _ _ _ _ _ (hS b hb)) fun _b hb _ => hb
set_option maxRecDepth 100000 in
set_option maxHeartbeats 8000000 in
theorem prule_any (w0 : World) (hv : Evs w0) (g : Nat) (E : Int) (l : List Fnd) (w : World) (hb0 : Below w0.heap.size w0 w) (hg : w0.heap.size ≤ g) (h : Par w g E l) (hm : l.length + 1 ≤ 1000000) :
    Calls Tryz.prog 82 #[.pointer (some ⟨g, 0, none⟩)] w (Rd (RuR w.heap.size) w g E (ruleP E l)) := by
  have hlt := h.lt
  have hnot := not_rec w0 hv g E hg (l.length + 1)
  have hnl := notP_len E (l.length + 1)
  have HS0 := Lib.hid (StP.start (T := 29) (cs := zRu) h)
  have HSb := Lib.hid (HS0.out.alloc (.cells zRu 29))
  have HX0 := Lib.hid (show Has ((w.alloc (.cells zRu 29)).alloc (.cells zRu 29)) (w.heap.size + 1) 29 zRu from by rw [show w.heap.size + 1 = (w.alloc (.cells zRu 29)).heap.size from (World.size_alloc _ _).symm]; exact Has.new _ _ _)
  have HS1 := Lib.hid (HSb.out.alloc (.cells #[.string ⟨#[114, 117, 108, 101]⟩] 9))
  have HX1 := Lib.hid (HX0.out.alloc (.cells #[.string ⟨#[114, 117, 108, 101]⟩] 9))
  have HC1 := Lib.hid (alloc_cell ((w.alloc (.cells zRu 29)).alloc (.cells zRu 29)) wRule 9 (w.heap.size + 1 + 1) (by rw [World.size_alloc, World.size_alloc]))
  clear HS0 HSb HX0
  have hbw : w.heap.size + 1 ≠ g := (by omega)
  go_enter Tryz.func82, Tryz.ntmps82
  go_wp2_with (first
    | (go_at_call 97; refine (want_any g E wRule l _ _ _ HS1.out.par HC1.out).mono ?_; clear HC1; rintro e w1 (⟨hq, rfl, rfl⟩ | ⟨hq, rfl, ha, hpr⟩); (exact ⟨rfl, Rd.bad (by unfold ruleP; rw [hq]; rfl) HS1.out.aw⟩); have HQ1 := Lib.hid hq; have HS2 := Lib.hid (HS1.out.next hlt ha hpr); have HX2 := Lib.hid (HX1.out.aw ha hbw hbw); obtain ⟨dx2, fx2⟩ := HX2.out.facts; clear hq ha hpr)
    | (go_at_call 98; refine (pname_any g E l.tail _ HS2.out.par).mono ?_; rintro e w2 hd; rcases hd.cases with ⟨er, at', hq, rfl, ha⟩ | ⟨nm, r1, v, hq, rfl, rfl, ha, hpr⟩; (exact ⟨rfl, Rd.bad (by unfold ruleP; rw [HQ1.out]; show ((nameP E l.tail).bind _) = _; rw [hq]; rfl) (HS2.out.aw.trans ha)⟩); have HQ2 := Lib.hid hq; have HS3 := Lib.hid (HS2.out.next hlt ha hpr); have HX3 := Lib.hid (HX2.out.aw ha hbw hbw); obtain ⟨dx3, fx3⟩ := HX3.out.facts; have HS4 := Lib.hid ((HS3.out.set hlt (Nat.lt_succ_self _) 0 (.string nm)).alloc (.cells #[.string ⟨#[102, 111, 114]⟩] 9)); have HX4 := Lib.hid ((HX3.out.put 0 (.string nm)).alloc (.cells #[.string ⟨#[102, 111, 114]⟩] 9)); have HC4 := Lib.hid (alloc_cell (w2.setCell ⟨w.heap.size + 1, 0, none⟩ (.string nm)) wFor 9 w2.heap.size (World.size_setCell _ _ _).symm); clear hq ha hpr hd)
    | (go_at_call 97; refine (want_any g E wFor r1 _ _ _ HS4.out.par HC4.out).mono ?_; clear HC4; rintro e w3 (⟨hq, rfl, rfl⟩ | ⟨hq, rfl, ha, hpr⟩); (exact ⟨rfl, Rd.bad (by unfold ruleP; rw [HQ1.out]; show ((nameP E l.tail).bind _) = _; rw [HQ2.out]; show ((wantP E wFor r1).bind _) = _; rw [hq]; rfl) HS4.out.aw⟩); have HQ3 := Lib.hid hq; have HS5 := Lib.hid (HS4.out.next hlt ha hpr); have HX5 := Lib.hid (HX4.out.aw ha hbw hbw); obtain ⟨dx5, fx5⟩ := HX5.out.facts; clear hq ha hpr)
    | (go_at_call 98; refine (pname_any g E r1.tail _ HS5.out.par).mono ?_; rintro e w4 hd; rcases hd.cases with ⟨er, at', hq, rfl, ha⟩ | ⟨kd, r2, v, hq, rfl, rfl, ha, hpr⟩; (exact ⟨rfl, Rd.bad (by unfold ruleP; rw [HQ1.out]; show ((nameP E l.tail).bind _) = _; rw [HQ2.out]; show ((wantP E wFor r1).bind _) = _; rw [HQ3.out]; show ((nameP E r1.tail).bind _) = _; rw [hq]; rfl) (HS5.out.aw.trans ha)⟩); have HQ4 := Lib.hid hq; have HS6 := Lib.hid (HS5.out.next hlt ha hpr); have HX6 := Lib.hid (HX5.out.aw ha hbw hbw); obtain ⟨dx6, fx6⟩ := HX6.out.facts; have HS7 := Lib.hid ((HS6.out.set hlt (Nat.lt_succ_self _) 1 (.string kd)).alloc (.cells #[.string ⟨#[58]⟩] 9)); have HX7 := Lib.hid ((HX6.out.put 1 (.string kd)).alloc (.cells #[.string ⟨#[58]⟩] 9)); have HC7 := Lib.hid (alloc_cell (w4.setCell ⟨w.heap.size + 1, 1, none⟩ (.string kd)) wColon 9 w4.heap.size (World.size_setCell _ _ _).symm); clear hq ha hpr hd)
    | (go_at_call 97; refine (want_any g E wColon r2 _ _ _ HS7.out.par HC7.out).mono ?_; clear HC7; rintro e w5 (⟨hq, rfl, rfl⟩ | ⟨hq, rfl, ha, hpr⟩); (exact ⟨rfl, Rd.bad (by unfold ruleP; rw [HQ1.out]; show ((nameP E l.tail).bind _) = _; rw [HQ2.out]; show ((wantP E wFor r1).bind _) = _; rw [HQ3.out]; show ((nameP E r1.tail).bind _) = _; rw [HQ4.out]; show ((wantP E wColon r2).bind _) = _; rw [hq]; rfl) HS7.out.aw⟩); have HQ5 := Lib.hid hq; have HS8 := Lib.hid (HS7.out.next hlt ha hpr); have HX8 := Lib.hid (HX7.out.aw ha hbw hbw); obtain ⟨dx8, fx8⟩ := HX8.out.facts; have HLen := Lib.hid (show r2.tail.length + 1 ≤ 1000000 ∧ r2.tail.length < l.length + 1 by have a1 := (wantP_len HQ1.out).1; have a2 := nameP_len HQ2.out; have a3 := (wantP_len HQ3.out).1; have a4 := nameP_len HQ4.out; have a5 := (wantP_len hq).1; omega); have HZ8 := Lib.hid (show w.heap.size + 2 ≤ w5.heap.size from HX8.out.lt); clear hq ha hpr)
    | (go_at_call 99; refine (cond_any w0 g E (notP E (l.length + 1)) r2.tail _ (HS8.out.aw.below hb0 hg hg) hg HS8.out.par HLen.out.1 (fun l' W h1 h2 h3 => hnot l' W (by have := HLen.out; omega) (by have := HLen.out; omega) h2 h3) hnl).mono ?_; rintro e w6 hd; rcases hd.cases with ⟨er, at', hq, rfl, ha⟩ | ⟨x, r3, v, hq, rfl, ⟨kv, rfl, hvv⟩, ha, hpr⟩; (exact ⟨rfl, Rd.bad (by unfold ruleP; rw [HQ1.out]; show ((nameP E l.tail).bind _) = _; rw [HQ2.out]; show ((wantP E wFor r1).bind _) = _; rw [HQ3.out]; show ((nameP E r1.tail).bind _) = _; rw [HQ4.out]; show ((wantP E wColon r2).bind _) = _; rw [HQ5.out]; show ((condP (notP E (l.length + 1)) r2.tail).bind _) = _; rw [hq]; rfl) (HS8.out.aw.trans ha)⟩); obtain ⟨A', c', rfl, _⟩ := hvv.slice; have HQ6 := Lib.hid hq; have HS9 := Lib.hid (HS8.out.next hlt ha hpr); have HX9 := Lib.hid (HX8.out.aw ha hbw hbw); obtain ⟨dx9, fx9⟩ := HX9.out.facts; have HV := Lib.hid (hvv.mono (T := fun b => w.heap.size + 2 ≤ b) fun b hb _ => Nat.le_trans HZ8.out hb); have HS10 := Lib.hid ((HS9.out.six2 hlt (Nat.lt_succ_self _) (.int .i64 x.op) (.string x.name) (.string x.value) (.int .i64 x.n) (.int .i64 x.extra) (.slice A' x.kids.length c')).alloc (.cells #[.string ⟨#[59]⟩] 9)); have HX10 := Lib.hid ((six2_has HX9.out (.int .i64 x.op) (.string x.name) (.string x.value) (.int .i64 x.n) (.int .i64 x.extra) (.slice A' x.kids.length c')).alloc (.cells #[.string ⟨#[59]⟩] 9)); have HC10 := Lib.hid (alloc_cell (six2 w6 (w.heap.size + 1) (.int .i64 x.op) (.string x.name) (.string x.value) (.int .i64 x.n) (.int .i64 x.extra) (.slice A' x.kids.length c')) wSemi 9 w6.heap.size (six2_size _ _ _ _ _ _ _ _).symm); have HV10 := Lib.hid ((six2_lay (B := w.heap.size + 1) HV.out (fun b hb => by omega) (.int .i64 x.op) (.string x.name) (.string x.value) (.int .i64 x.n) (.int .i64 x.extra) (.slice A' x.kids.length c')).later ((Below.refl _ _).alloc (Nat.le_refl _) (.cells #[.string ⟨#[59]⟩] 9))); clear hq hvv ha hpr hd))
  go_at_call 97
  refine (want_any g E wSemi r3 _ _ _ HS10.out.par HC10.out).mono ?_
  clear HC10
  rintro e w7 (⟨hq, rfl, rfl⟩ | ⟨hq, rfl, ha, hpr⟩)
  (exact ⟨rfl, Rd.bad (by unfold ruleP; rw [HQ1.out]; show ((nameP E l.tail).bind _) = _; rw [HQ2.out]; show ((wantP E wFor r1).bind _) = _; rw [HQ3.out]; show ((nameP E r1.tail).bind _) = _; rw [HQ4.out]; show ((wantP E wColon r2).bind _) = _; rw [HQ5.out]; show ((condP (notP E (l.length + 1)) r2.tail).bind _) = _; rw [HQ6.out]; show ((wantP E wSemi r3).bind _) = _; rw [hq]; rfl) HS10.out.aw⟩)
  have HQ7 := Lib.hid hq
  have HS11 := Lib.hid (HS10.out.next hlt ha hpr)
  have HX11 := Lib.hid (HX10.out.aw ha hbw hbw)
  obtain ⟨dx11, fx11⟩ := HX11.out.facts
  have HV11 := Lib.hid (HV10.out.on (T := fun b => w.heap.size + 2 ≤ b) (fun b hb hl => ha.2.2.2.2 b hl (by omega) (by omega)) fun b hb _ => hb)
  clear hq ha hpr
  clear HX1 HX2 HX3 HX4 HX5 HX6 HX7 HX8 HX9 HX10 HS1 HS2 HS3 HS4 HS5 HS6 HS7 HS8 HS9 HS10 HV HV10 dx2 fx2 dx3 fx3 dx5 fx5 dx6 fx6 dx8 fx8 dx9 fx9
  obtain ⟨dr, fr⟩ := HS11.out.res.facts
  have HPar := Lib.hid HS11.out.par
  have HQ8 := Lib.hid (show ruleP E l = (match r3.tail with | [] => .ok ⟨nm, kd, x⟩ [] | t :: _ => .bad 8 t.pos) from by unfold ruleP; rw [HQ1.out]; show ((nameP E l.tail).bind _) = _; rw [HQ2.out]; show ((wantP E wFor r1).bind _) = _; rw [HQ3.out]; show ((nameP E r1.tail).bind _) = _; rw [HQ4.out]; show ((wantP E wColon r2).bind _) = _; rw [HQ5.out]; show ((condP (notP E (l.length + 1)) r2.tail).bind _) = _; rw [HQ6.out]; show ((wantP E wSemi r3).bind _) = _; rw [HQ7.out]; rfl)
  generalize r3.tail = r6 at *
  cases r6 with
  | nil =>
    obtain ⟨Ap, cp, hpp⟩ := HPar.out.some
    obtain ⟨dp, fp⟩ := hpp.facts
    go_wp2_with fail
    have HE := Lib.hid (six2_has ((HS11.out.res.put 0 (.string nm)).put 1 (.string kd)) (.int .i64 x.op) (.string x.name) (.string x.value) (.int .i64 x.n) (.int .i64 x.extra) (.slice A' x.kids.length c'))
    have hsix : ∀ k, k ≠ w.heap.size → (six2 ((w7.setCell ⟨w.heap.size, 0, none⟩ (.string nm)).setCell ⟨w.heap.size, 1, none⟩ (.string kd)) w.heap.size (.int .i64 x.op) (.string x.name) (.string x.value) (.int .i64 x.n) (.int .i64 x.extra) (.slice A' x.kids.length c')).heap[k]? = w7.heap[k]? := fun k hk =>
      (six2_old _ _ _ _ _ _ _ _ hk).trans ((heap_setCell_other _ ⟨w.heap.size, 1, none⟩ k _ hk).trans (heap_setCell_other w7 ⟨w.heap.size, 0, none⟩ k _ hk))
    have hA : Aw g g w (six2 ((w7.setCell ⟨w.heap.size, 0, none⟩ (.string nm)).setCell ⟨w.heap.size, 1, none⟩ (.string kd)) w.heap.size (.int .i64 x.op) (.string x.name) (.string x.value) (.int .i64 x.n) (.int .i64 x.extra) (.slice A' x.kids.length c')) := six2_aw ((HS11.out.aw.set w.heap.size 0 (.inr (.inr (Nat.le_refl _))) _).set w.heap.size 1 (.inr (.inr (Nat.le_refl _))) _) (.inr (.inr (Nat.le_refl _))) _ _ _ _ _ _
    show bodyPost _ _ _ _ _ (six2 ((w7.setCell ⟨w.heap.size, 0, none⟩ (.string nm)).setCell ⟨w.heap.size, 1, none⟩ (.string kd)) w.heap.size (.int .i64 x.op) (.string x.name) (.string x.value) (.int .i64 x.n) (.int .i64 x.extra) (.slice A' x.kids.length c'))
    generalize (six2 ((w7.setCell ⟨w.heap.size, 0, none⟩ (.string nm)).setCell ⟨w.heap.size, 1, none⟩ (.string kd)) w.heap.size (.int .i64 x.op) (.string x.name) (.string x.value) (.int .i64 x.n) (.int .i64 x.extra) (.slice A' x.kids.length c')) = W8 at *
    have hL : LayS (fun b => w.heap.size ≤ b) W8 (.slice A' x.kids.length c') x.kids := HV11.out.on (fun b hb _ => hsix b (by clear dp fp dr fr; omega)) fun b hb _ => by clear dp fp dr fr; omega
    have hP : Par W8 g E [] := HPar.out.on fun b hb => hsix b (by clear dp fp dr fr; omega)
    obtain ⟨d8, f8⟩ := HE.out.facts
    have HFn := Lib.hid (Rd.ok (R := RuR w.heap.size) (x := ⟨nm, kd, x⟩) (v := .agg #[.string nm, .string kd, .int .i64 x.op, .string x.name, .string x.value, .int .i64 x.n, .int .i64 x.extra, .slice A' x.kids.length c']) HQ8.out hA ⟨_, rfl, hL⟩ hP)
    clear hsix hA hL hP HE
    refine bodyPost_ret (v := .agg #[.string nm, .string kd, .int .i64 x.op, .string x.name, .string x.value, .int .i64 x.n, .int .i64 x.extra, .slice A' x.kids.length c']) (by simp [results, Tryz.results82, go_sem, d8]) rfl ?_
    exact HFn.out
  | cons t6 r7 =>
    obtain ⟨Ap, cp, hpp⟩ := HPar.out.some
    obtain ⟨dp, fp⟩ := hpp.facts
    have hgt : (0 : Int) < ((r7.length + 1 : Nat) : Int) := (by omega)
    clear dr fr
    go_wp2_with (go_at_call 100; refine (fail_any g E 8 (t6 :: r7) _ HPar.out).mono ?_; rintro e w8 ⟨rfl, rfl⟩)
    exact ⟨rfl, Rd.bad HQ8.out HS11.out.aw⟩
end Go.Proofs.YtcpakaiblelmlaaGreatDoor
namespace Go.Proofs.YtcpakaiblelmlaaGreatDoor
open Go Go.RowKit
set_option maxRecDepth 100000 in
set_option maxHeartbeats 4000000 in
theorem catch_idle (a b c : Nat) (w : World) :
    CallsD Tryz.prog 81 #[.pointer (some ⟨a, 0, none⟩), .pointer (some ⟨b, 0, none⟩), .pointer (some ⟨c, 0, none⟩)] .returning w fun e u' w' => e = .returned (.tuple #[]) ∧ u' = .returning ∧ w' = w := by
  refine callsD_of_wpS Tryz.func81 rfl fun c₀ cs hu => ?_
  apply wpS_seq
  apply wpS_region
  simp [wpOpsS, go_sem, recoverD, hu, Tryz.ntmps81, Exit.thenS]
  refine wpS_of_wp ?_
  go_wp2_with fail
  exact ⟨rfl, .returning, by rw [← hu], .tuple #[], by simp [results, Tryz.results81, go_sem], rfl, rfl, rfl⟩
abbrev zRv : Value := .agg #[.string ⟨#[]⟩, .string ⟨#[]⟩, .int .i64 0, .string ⟨#[]⟩, .string ⟨#[]⟩, .int .i64 0, .int .i64 0, .slice none 0 0]
set_option maxRecDepth 100000 in
set_option maxHeartbeats 8000000 in
theorem catch_panic (a b c : Nat) (er at' : Int) (older : List PanicEntry) (r0 r1 r2 r3 r4 r5 r6 r7 x y : Value) (w : World) (ha : Has w a 29 #[r0, r1, r2, r3, r4, r5, r6, r7]) (hb : Has w b 32 #[x]) (hc : Has w c 3 #[y]) (hab : a ≠ b) (hac : a ≠ c) (hbc : b ≠ c) :
    CallsD Tryz.prog 81 #[.pointer (some ⟨a, 0, none⟩), .pointer (some ⟨b, 0, none⟩), .pointer (some ⟨c, 0, none⟩)] (.panicking ({ v := .iface 111 (.agg #[.int .i64 er, .int .i64 at']), recovered := false } :: older)) w fun e u' w' =>
      e = .returned (.tuple #[]) ∧ u' = .panicking ({ v := .iface 111 (.agg #[.int .i64 er, .int .i64 at']), recovered := true } :: older) ∧ Has w' a 29 zRu ∧ Has w' b 32 #[.int .i64 er] ∧ Has w' c 3 #[.int .i64 at'] ∧ w.heap.size ≤ w'.heap.size ∧ w'.os = w.os ∧ w'.tape = w.tape ∧ w'.output = w.output ∧ ∀ k, k < w.heap.size → k ≠ a → k ≠ b → k ≠ c → w'.heap[k]? = w.heap[k]? := by
  have hmx : Tryz.prog.follows .mixedOrders = true := by kernel_rfl
  have hal := ha.lt
  have hbl := hb.lt
  have hcl := hc.lt
  obtain ⟨c1, f1⟩ := ha.facts
  obtain ⟨c2, f2⟩ := hb.facts
  obtain ⟨c3, f3⟩ := hc.facts
  have hta : (Instr.typeAssert (.iface 111 (.agg #[.int .i64 er, .int .i64 at'])) 20 111 true).run Tryz.prog w = .ok (.tuple #[.agg #[.int .i64 er, .int .i64 at'], .bool true]) w := by kernel_rfl
  refine callsD_of_wpS Tryz.func81 rfl fun c₀ cs hu => ?_
  apply wpS_seq
  apply wpS_region
  simp [wpOpsS, go_sem, recoverD, hu, Tryz.ntmps81, Exit.thenS]
  refine wpS_of_wp ?_
  simp only [Array.replicate_succ, Array.replicate_zero, List.push_toArray, List.nil_append, List.cons_append, Array.setIfInBounds]
  go_wp2_with fail
  refine wp_region_held_drew (S := fun W => W.cell? ⟨w.heap.size, 0, none⟩ = some (.int .i64 er) ∧ W.cell? ⟨w.heap.size, 1, none⟩ = some (.int .i64 at')) (by kernel_rfl) (⟨(Has.new w 111 #[.int .i64 er, .int .i64 at']).cell 0, (Has.new w 111 #[.int .i64 er, .int .i64 at']).cell 1⟩) (fun hHeld => ?_)
  refine plI [(0, false), (1, false), (2, false), (3, false), (4, false)] ?_
  repeat ((first | ((with_reducible show Plan ((_, true) :: _) _); refine plF ?_) | (refine plR (v := ?_) ?_ ?_; rotate_left; focus (intro W hSW; (try dsimp only at hSW); go_simp; all_goals (with_reducible rfl)))); try simp only [Act.put, List.setIfInBounds_toArray, List.set_cons_zero, List.set_cons_succ])
  refine plE ?_
  refine wpAnyH_ready (rs := [5]) (by kernel_rfl) (by simp) ?_
  refine AllReadyH.cons (o := ⟨_, _, _, _, _, _⟩) rfl (fun K hK => ?_) AllReadyH.nil
  go_simp
  have H4 : ∀ k, k ≠ a → (six2 ((w.setCell ⟨a, 0, none⟩ (.string ⟨#[]⟩)).setCell ⟨a, 1, none⟩ (.string ⟨#[]⟩)) a (.int .i64 0) (.string ⟨#[]⟩) (.string ⟨#[]⟩) (.int .i64 0) (.int .i64 0) (.slice none 0 0)).heap[k]? = w.heap[k]? := fun k hk => (six2_old _ _ _ _ _ _ _ _ hk).trans ((heap_setCell_other _ ⟨a, 1, none⟩ k _ hk).trans (heap_setCell_other w ⟨a, 0, none⟩ k _ hk))
  have hz4 : (six2 ((w.setCell ⟨a, 0, none⟩ (.string ⟨#[]⟩)).setCell ⟨a, 1, none⟩ (.string ⟨#[]⟩)) a (.int .i64 0) (.string ⟨#[]⟩) (.string ⟨#[]⟩) (.int .i64 0) (.int .i64 0) (.slice none 0 0)).heap.size = w.heap.size := by rw [six2_size, World.size_setCell, World.size_setCell]
  have HA4 : Has (six2 ((w.setCell ⟨a, 0, none⟩ (.string ⟨#[]⟩)).setCell ⟨a, 1, none⟩ (.string ⟨#[]⟩)) a (.int .i64 0) (.string ⟨#[]⟩) (.string ⟨#[]⟩) (.int .i64 0) (.int .i64 0) (.slice none 0 0)) a 29 zRu := six2_has (b0 := .string ⟨#[]⟩) (b1 := .string ⟨#[]⟩) (a0 := r2) (a1 := r3) (a2 := r4) (a3 := r5) (a4 := r6) (a5 := r7) ((ha.put 0 _).put 1 _) _ _ _ _ _ _
  have HZ4 : Aw a a w (six2 ((w.setCell ⟨a, 0, none⟩ (.string ⟨#[]⟩)).setCell ⟨a, 1, none⟩ (.string ⟨#[]⟩)) a (.int .i64 0) (.string ⟨#[]⟩) (.string ⟨#[]⟩) (.int .i64 0) (.int .i64 0) (.slice none 0 0)) := six2_aw (((Aw.refl a a w).set a 0 (.inl rfl) _).set a 1 (.inl rfl) _) (.inl rfl) _ _ _ _ _ _
  have HB4 := (H4 _ (Ne.symm hab)).trans hb
  have HC4 := (H4 _ (Ne.symm hac)).trans hc
  change K _ (((six2 ((w.setCell ⟨a, 0, none⟩ (.string ⟨#[]⟩)).setCell ⟨a, 1, none⟩ (.string ⟨#[]⟩)) a (.int .i64 0) (.string ⟨#[]⟩) (.string ⟨#[]⟩) (.int .i64 0) (.int .i64 0) (.slice none 0 0)).alloc (.cells #[.int .i64 er, .int .i64 at'] 111)).drew)
  generalize (six2 ((w.setCell ⟨a, 0, none⟩ (.string ⟨#[]⟩)).setCell ⟨a, 1, none⟩ (.string ⟨#[]⟩)) a (.int .i64 0) (.string ⟨#[]⟩) (.string ⟨#[]⟩) (.int .i64 0) (.int .i64 0) (.slice none 0 0)) = V4 at *
  have HT5 : Has (V4.alloc (.cells #[.int .i64 er, .int .i64 at'] 111)).drew w.heap.size 111 #[.int .i64 er, .int .i64 at'] := by rw [← hz4]; exact (Has.new V4 111 _).drew
  have HA5 : Has (V4.alloc (.cells #[.int .i64 er, .int .i64 at'] 111)).drew a 29 zRu := (HA4.alloc _).drew
  have HB5 : Has (V4.alloc (.cells #[.int .i64 er, .int .i64 at'] 111)).drew b 32 #[x] := (Has.alloc HB4 _).drew
  have HC5 : Has (V4.alloc (.cells #[.int .i64 er, .int .i64 at'] 111)).drew c 3 #[y] := (Has.alloc HC4 _).drew
  have HZ5 : Aw a a w (V4.alloc (.cells #[.int .i64 er, .int .i64 at'] 111)).drew := (HZ4.alloc _).drew
  clear H4 hz4 HA4 HZ4 HB4 HC4
  generalize (V4.alloc (.cells #[.int .i64 er, .int .i64 at'] 111)).drew = V5 at *
  obtain ⟨cb, fb⟩ := HB5.facts
  refine hK.out _ _ (⟨HT5.cell 0, HT5.cell 1⟩) (fun hHeld => ?_)
  clear hK K
  try simp only [Act.put]
  refine wpAnyH_ready (rs := [6]) (by kernel_rfl) (by simp) ?_
  refine AllReadyH.cons (o := ⟨_, _, _, _, _, _⟩) rfl (fun K hK => ?_) AllReadyH.nil
  go_simp
  have HT6 := HT5.far ⟨b, 0, none⟩ (by show w.heap.size ≠ b; omega) (.int .i64 er)
  have HB6 := HB5.put 0 (.int .i64 er)
  have HA6 := HA5.far ⟨b, 0, none⟩ hab (.int .i64 er)
  have HC6 := HC5.far ⟨b, 0, none⟩ (Ne.symm hbc) (.int .i64 er)
  obtain ⟨cc, fc⟩ := HC6.facts
  refine hK.out _ _ (⟨HT6.cell 0, HT6.cell 1⟩) (fun hHeld => ?_)
  clear hK K
  try simp only [Act.put]
  refine wpAnyH_ready (rs := [7]) (by kernel_rfl) (by simp) ?_
  refine AllReadyH.cons (o := ⟨_, _, _, _, _, _⟩) rfl (fun K hK => ?_) AllReadyH.nil
  go_simp
  have HT7 := HT6.far ⟨c, 0, none⟩ (by show w.heap.size ≠ c; omega) (.int .i64 at')
  have HC7 := HC6.put 0 (.int .i64 at')
  have HA7 := HA6.far ⟨c, 0, none⟩ hac (.int .i64 at')
  have HB7 := HB6.far ⟨c, 0, none⟩ hbc (.int .i64 at')
  refine hK.out _ _ (⟨HT7.cell 0, HT7.cell 1⟩) (fun hHeld => ?_)
  clear hK K
  try simp only [Act.put]
  refine wpAnyH_done (by kernel_rfl) ?_ _
  clear hHeld
  refine ⟨rfl, _, rfl, .tuple #[], by simp [results, Tryz.results81, go_sem], rfl, rfl, HA7, HB7, HC7, by rw [World.size_setCell, World.size_setCell]; exact HZ5.2.2.2.1, HZ5.1, HZ5.2.1, HZ5.2.2.1, fun k hk h1 h2 h3 => (heap_setCell_other _ ⟨c, 0, none⟩ k _ h3).trans ((heap_setCell_other _ ⟨b, 0, none⟩ k _ h2).trans (HZ5.2.2.2.2 k hk h1 h1))⟩
end Go.Proofs.YtcpakaiblelmlaaGreatDoor
namespace Go.Proofs.YtcpakaiblelmlaaGreatDoor
open Go Go.RowKit
theorem unqGo_len {t : ByteArray} : ∀ (n i : Nat) (acc l : List UInt8) (m : Nat), unqGo t n i acc = some (l, m) → l.length ≤ acc.length + n
  | 0, _, _, _, _, h => by cases h
  | n + 1, i, acc, l, m, h => by
    rw [unqGo_succ] at h
    split at h
    · cases h
    split at h
    · injection h with h; injection h with h _; subst h; omega
    split at h
    · cases h
    split at h
    · split at h
      · cases h
      · split at h
        · cases h
        · have := unqGo_len n _ _ _ _ h; rw [List.length_append] at this; simp at this; omega
    · have := unqGo_len n _ _ _ _ h; rw [List.length_append] at this; simp at this; omega
theorem cut_len (s : ByteArray) (i j : Nat) : (cut s i j).size ≤ s.size := by
  unfold cut
  rw [ByteArray.size_extract]
  omega
theorem lexGo_text (s : ByteArray) : ∀ (n i : Nat), ∀ f ∈ lexGo s n i, f.text.size ≤ s.size
  | 0, _, f, h => by cases h
  | n + 1, i, f, h => by
    have ih := lexGo_text s n
    rw [lexGo_succ] at h
    split at h
    · cases h
    split at h
    · exact ih _ f h
    split at h
    · exact ih _ f h
    split at h
    · split at h
      · rw [List.mem_singleton] at h; subst h; exact cut_len _ _ _
      · rcases List.mem_cons.1 h with rfl | h
        · exact cut_len _ _ _
        · exact ih _ f h
    split at h
    · split at h
      · rw [List.mem_singleton] at h; subst h; exact cut_len _ _ _
      · rcases List.mem_cons.1 h with rfl | h
        · exact cut_len _ _ _
        · exact ih _ f h
    split at h
    · split at h
      · rw [List.mem_singleton] at h; subst h; exact Nat.zero_le _
      · rename_i l m hu
        rcases List.mem_cons.1 h with rfl | h
        · have h1 := unqGo_len _ _ _ _ _ hu
          have h2 := cut_len s i s.size
          show l.length ≤ _
          simp at h1
          omega
        · exact ih _ f h
    split at h
    · rcases List.mem_cons.1 h with rfl | h
      · exact cut_len _ _ _
      · exact ih _ f h
    · rw [List.mem_singleton] at h; subst h; exact Nat.zero_le _
theorem takeF_sub : ∀ (fs out : List Fnd) (P : Fnd → Prop), (∀ f ∈ fs, P f) → (∀ f ∈ out, P f) → out.length ≤ 5000 → (takeF fs out).1.length ≤ 5000 ∧ ∀ f ∈ (takeF fs out).1, P f
  | [], out, P, _, h2, h3 => ⟨h3, h2⟩
  | f :: r, out, P, h1, h2, h3 => by
    unfold takeF
    split
    · exact ⟨Nat.zero_le _, fun x hx => by cases hx⟩
    · split
      · exact ⟨Nat.zero_le _, fun x hx => by cases hx⟩
      · refine takeF_sub r (out ++ [f]) P (fun x hx => h1 x (List.mem_cons_of_mem _ hx)) (fun x hx => ?_) (by rw [List.length_append, List.length_singleton]; omega)
        rcases List.mem_append.1 hx with hx | hx
        · exact h2 x hx
        · rw [List.mem_singleton] at hx; subst hx; exact h1 x (List.mem_cons_self ..)
theorem lexL_short (s : ByteArray) : (lexL s).1.length ≤ 5000 ∧ ∀ t ∈ (lexL s).1, t.text.size ≤ 20000 := by
  unfold lexL
  split
  · exact ⟨Nat.zero_le _, fun x hx => by cases hx⟩
  · rename_i h
    exact takeF_sub (lexF s) [] (fun f => f.text.size ≤ 20000) (fun f hf => Nat.le_trans (lexGo_text s _ _ f hf) (by omega)) (fun x hx => by cases hx) (Nat.zero_le _)
end Go.Proofs.YtcpakaiblelmlaaGreatDoor
namespace Go.Proofs.YtcpakaiblelmlaaGreatDoor
open Go Go.RowKit
theorem moreP_cnt {word : ByteArray} {one : List Fnd → Got Ex} (hc : ∀ l c r, one l = .ok c r → cnt c + r.length ≤ l.length) : ∀ (n : Nat) (l : List Fnd) (cs : List Ex) (r : List Fnd), moreP word one n l = .ok cs r → cnts cs + cs.length + r.length ≤ l.length
  | 0, l, cs, r, h => by injection h with h1 h2; subst h1; subst h2; rw [cnts_nil]; exact Nat.le_of_eq (by simp)
  | n + 1, l, cs, r, h => by
    cases hs : skipB word l with
    | false => rw [moreP_zero hs] at h; injection h with h1 h2; subst h1; subst h2; rw [cnts_nil]; exact Nat.le_of_eq (by simp)
    | true =>
      have ht := tail_len hs
      rw [moreP_succ hs] at h
      obtain ⟨x, r1, h1, h⟩ := Got.bind_ok h
      obtain ⟨y, r2, h2, h⟩ := Got.bind_ok h
      injection h with h3 h4
      subst h3
      subst h4
      have a1 := hc _ _ _ h1
      have a2 := moreP_cnt hc n r1 y _ h2
      rw [cnts_cons, List.length_cons]
      omega
theorem serP_cnt {word : ByteArray} {op : Int} {one : List Fnd → Got Ex} (hc : ∀ l c r, one l = .ok c r → cnt c + r.length ≤ l.length) (l : List Fnd) (c : Ex) (r : List Fnd) (h : serP word op one l = .ok c r) : cnt c + r.length ≤ l.length := by
  obtain ⟨x, r1, h1, h⟩ := Got.bind_ok h
  obtain ⟨y, r2, h2, h⟩ := Got.bind_ok h
  injection h with h3 h4
  subst h3
  subst h4
  have a1 := hc _ _ _ h1
  have a2 := moreP_cnt hc _ _ _ _ h2
  cases y with
  | nil => show cnt x + r2.length ≤ _; rw [cnts_nil] at a2; simp at a2; omega
  | cons z zs =>
    have e : cnt (oneOf op x (z :: zs)) = cnts (x :: z :: zs) + 1 := cnt_eq _
    rw [e, cnts_cons]
    rw [List.length_cons] at a2
    omega
section
variable {E : Int} {one : List Fnd → Got Ex} (hc : ∀ l c r, one l = .ok c r → cnt c + r.length ≤ l.length)
include hc
theorem condP_cnt {l r : List Fnd} {c : Ex} (h : condP one l = .ok c r) : cnt c + r.length ≤ l.length := serP_cnt (fun l' c r hq => serP_cnt hc l' c r hq) l c r h
theorem inP_cnt {l r : List Fnd} {c : Ex} (h : inP E one l = .ok c r) : cnt c + r.length + 2 ≤ l.length := by
  obtain ⟨_, r1, h1, h⟩ := Got.bind_ok h
  obtain ⟨x, r2, h2, h⟩ := Got.bind_ok h
  obtain ⟨_, r3, h3, h⟩ := Got.bind_ok h
  injection h with h4 h5
  subst h4
  subst h5
  have := (wantP_len h1).1
  have := condP_cnt hc h2
  have := (wantP_len h3).1
  omega
theorem withinP_cnt {op : Int} {l r : List Fnd} {c : Ex} (h : withinP E op one l = .ok c r) : cnt c + r.length ≤ l.length := by
  obtain ⟨a, r1, h1, h⟩ := Got.bind_ok h
  obtain ⟨x, r2, h2, h⟩ := Got.bind_ok h
  injection h with h4 h5
  subst h4
  subst h5
  have := nameP_len h1
  have := inP_cnt hc h2
  have e : cnt (.mk op a e0 0 0 [x]) = cnts [x] + 1 := cnt_eq _
  rw [e, cnts_cons, cnts_nil]
  omega
end
theorem leaf_cnt (op : Int) (a v : ByteArray) (n x : Int) : cnt (.mk op a v n x []) = 1 := by rw [cnt_eq]; show cnts [] + 1 = 1; rw [cnts_nil]
theorem limitP_cnt {E : Int} {l r : List Fnd} {c : Ex} (h : limitP E l = .ok c r) : cnt c + r.length ≤ l.length := by
  obtain ⟨_, r1, h1, h⟩ := Got.bind_ok h
  obtain ⟨_, r2, h2, h⟩ := Got.bind_ok h
  have a1 := nameP_len h1
  have a2 := numP_len h2
  split at h
  · obtain ⟨_, r3, h3, h⟩ := Got.bind_ok h
    injection h with h4 h5
    subst h4
    subst h5
    have a3 := numP_len h3
    have : r2.tail.length ≤ r2.length := by rw [List.length_tail]; omega
    rw [leaf_cnt]
    omega
  · injection h with h4 h5
    subst h4
    subst h5
    rw [leaf_cnt]
    omega
theorem overP_cnt {E : Int} {l r : List Fnd} {c : Ex} (h : overP E l = .ok c r) : cnt c + r.length ≤ l.length := by
  obtain ⟨_, r1, h1, h⟩ := Got.bind_ok h
  obtain ⟨_, r2, h2, h⟩ := Got.bind_ok h
  injection h with h4 h5
  subst h4
  subst h5
  have a1 := nameP_len h1
  have a2 := numP_len h2
  rw [leaf_cnt]
  omega
theorem hasP_cnt {E : Int} {l r : List Fnd} {c : Ex} (h : hasP E l = .ok c r) : cnt c + r.length ≤ l.length := by
  obtain ⟨_, r1, h1, h⟩ := Got.bind_ok h
  injection h with h4 h5
  subst h4
  subst h5
  have a1 := nameP_len h1
  rw [leaf_cnt]
  omega
theorem slotP_cnt {E : Int} {l r : List Fnd} {c : Ex} (h : slotP E l = .ok c r) : cnt c + r.length ≤ l.length := by
  obtain ⟨_, r1, h1, h⟩ := Got.bind_ok h
  obtain ⟨_, r2, h2, h⟩ := Got.bind_ok h
  obtain ⟨_, r3, h3, h⟩ := Got.bind_ok h
  injection h with h4 h5
  subst h4
  subst h5
  have a1 := nameP_len h1
  have a2 := (wantP_len h2).1
  have a3 := nameP_len h3
  rw [leaf_cnt]
  omega
theorem atP_cnt {E : Int} {l r : List Fnd} {c : Ex} (h : atP E l = .ok c r) : cnt c + r.length ≤ l.length := by
  obtain ⟨_, r1, h1, h⟩ := Got.bind_ok h
  obtain ⟨_, r2, h2, h⟩ := Got.bind_ok h
  obtain ⟨_, r3, h3, h⟩ := Got.bind_ok h
  injection h with h4 h5
  subst h4
  subst h5
  have a1 := (wantP_len h1).1
  have a2 := numP_len h2
  have a3 := nameP_len h3
  rw [leaf_cnt]
  omega
theorem isP_cnt {E : Int} {l r : List Fnd} {c : Ex} (h : isP E l = .ok c r) : cnt c + r.length ≤ l.length := by
  obtain ⟨_, r1, h1, h⟩ := Got.bind_ok h
  obtain ⟨_, r2, h2, h⟩ := Got.bind_ok h
  obtain ⟨_, r3, h3, h⟩ := Got.bind_ok h
  injection h with h4 h5
  subst h4
  subst h5
  have a1 := nameP_len h1
  have a2 := (wantP_len h2).1
  have a3 := nextP_len h3
  rw [leaf_cnt]
  omega
theorem notP1_cnt {E : Int} {one : List Fnd → Got Ex} (hc : ∀ l c r, one l = .ok c r → cnt c + r.length ≤ l.length) {l r : List Fnd} {c : Ex} (h : notP1 E one l = .ok c r) : cnt c + r.length ≤ l.length := by
  cases l with
  | nil => cases h
  | cons t l =>
    have h' : (if t.kind = 4 ∧ t.text = wOpen then inP E one (t :: l) else if t.kind = 1 ∧ resB t.text = true then wordsP E one t l else isP E (t :: l)) = .ok c r := h
    rw [List.length_cons]
    split at h'
    · have := inP_cnt hc h'; rw [List.length_cons] at this; omega
    split at h'
    · unfold wordsP at h'
      split at h'
      · injection h' with h4 h5; subst h4; subst h5; rw [leaf_cnt]; omega
      split at h'
      · obtain ⟨x, r1, h1, h'⟩ := Got.bind_ok h'
        injection h' with h4 h5
        subst h4
        subst h5
        have := hc _ _ _ h1
        have e : cnt (.mk 2 e0 e0 0 0 [x]) = cnts [x] + 1 := cnt_eq _
        rw [e, cnts_cons, cnts_nil]
        omega
      split at h'
      · have := limitP_cnt h'; omega
      split at h'
      · have := overP_cnt h'; omega
      split at h'
      · have := hasP_cnt h'; omega
      split at h'
      · have := slotP_cnt h'; omega
      split at h'
      · have := withinP_cnt hc h'; omega
      split at h'
      · have := withinP_cnt hc h'; omega
      split at h'
      · have := atP_cnt h'; omega
      · cases h'
    · have := isP_cnt h'; rw [List.length_cons] at this; omega
theorem notP_cnt (E : Int) : ∀ (k : Nat) (l : List Fnd) (c : Ex) (r : List Fnd), notP E k l = .ok c r → cnt c + r.length ≤ l.length
  | 0, l, c, r, h => by cases h
  | k + 1, l, c, r, h => notP1_cnt (notP_cnt E k) h
theorem ruleP_cnt {E : Int} {l r : List Fnd} {q : Ru} (h : ruleP E l = .ok q r) : cnt q.cond ≤ l.length := by
  obtain ⟨_, r0, h0, h⟩ := Got.bind_ok h
  obtain ⟨_, r1, h1, h⟩ := Got.bind_ok h
  obtain ⟨_, r2, h2, h⟩ := Got.bind_ok h
  obtain ⟨_, r3, h3, h⟩ := Got.bind_ok h
  obtain ⟨_, r4, h4, h⟩ := Got.bind_ok h
  obtain ⟨c, r5, h5, h⟩ := Got.bind_ok h
  obtain ⟨_, r6, h6, h⟩ := Got.bind_ok h
  have a0 := (wantP_len h0).1
  have a1 := nameP_len h1
  have a2 := (wantP_len h2).1
  have a3 := nameP_len h3
  have a4 := (wantP_len h4).1
  have a5 := condP_cnt (notP_cnt E _) h5
  cases r6 with
  | nil =>
    have h' : Got.ok (⟨_, _, c⟩ : Ru) [] = .ok q r := h
    injection h' with h' _
    subst h'
    show cnt c ≤ _
    omega
  | cons t r6 => cases h
end Go.Proofs.YtcpakaiblelmlaaGreatDoor
namespace Go.Proofs.YtcpakaiblelmlaaGreatDoor
open Go Go.RowKit
/-- The three results' cells. -/
structure Res3 (w : World) (r : Array Value) (e a : Int) (W : World) : Prop where
  r : Has W w.heap.size 29 r
  e : Has W (w.heap.size + 1) 32 #[.int .i64 e]
  a : Has W (w.heap.size + 2) 3 #[.int .i64 a]
  b : Below w.heap.size w W
theorem Res3.below {w W W' : World} {r : Array Value} {e a : Int} (h : Res3 w r e a W) (hb : Below W.heap.size W W') : Res3 w r e a W' :=
  ⟨h.r.below hb h.r.lt, h.e.below hb h.e.lt, h.a.below hb h.a.lt, h.b.trans (hb.mono h.b.size)⟩
theorem Res3.drew {w W : World} {r : Array Value} {e a : Int} (h : Res3 w r e a W) : Res3 w r e a W.drew := ⟨h.r, h.e, h.a, h.b.drew⟩
theorem Res3.lt {w W : World} {r : Array Value} {e a : Int} (h : Res3 w r e a W) : w.heap.size + 3 ≤ W.heap.size := h.a.lt
theorem Res3.start (w : World) : Res3 w zRu 0 0 (((w.alloc (.cells zRu 29)).alloc (.cells #[.int .i64 0] 32)).alloc (.cells #[.int .i64 0] 3)) := by
  have z1 : (w.alloc (.cells zRu 29)).heap.size = w.heap.size + 1 := World.size_alloc _ _
  have z2 : ((w.alloc (.cells zRu 29)).alloc (.cells #[.int .i64 0] 32)).heap.size = w.heap.size + 2 := by rw [World.size_alloc, z1]
  refine ⟨((Has.new _ _ _).alloc _).alloc _, ?_, ?_, ((((Below.refl _ _).alloc (Nat.le_refl _) _)).alloc (by omega) _).alloc (by omega) _⟩
  · rw [← z1]; exact (Has.new _ _ _).alloc _
  · rw [← z2]; exact Has.new _ _ _
theorem Res3.setE {w W : World} {r : Array Value} {e a : Int} (h : Res3 w r e a W) (e' : Int) : Res3 w r e' a (W.setCell ⟨w.heap.size + 1, 0, none⟩ (.int .i64 e')) :=
  ⟨h.r.far _ (by show w.heap.size ≠ w.heap.size + 1; omega) _, h.e.put 0 _, h.a.far _ (by show w.heap.size + 2 ≠ w.heap.size + 1; omega) _, h.b.setCell (p := ⟨w.heap.size + 1, 0, none⟩) (Nat.le_succ _) _⟩
theorem Res3.setA {w W : World} {r : Array Value} {e a : Int} (h : Res3 w r e a W) (a' : Int) : Res3 w r e a' (W.setCell ⟨w.heap.size + 2, 0, none⟩ (.int .i64 a')) :=
  ⟨h.r.far _ (by show w.heap.size ≠ w.heap.size + 2; omega) _, h.e.far _ (by show w.heap.size + 1 ≠ w.heap.size + 2; omega) _, h.a.put 0 _, h.b.setCell (p := ⟨w.heap.size + 2, 0, none⟩) (by show w.heap.size ≤ w.heap.size + 2; omega) _⟩
theorem six2_below {u W : World} {B b : Nat} (h : Below B u W) (hB : B ≤ b) (v0 v1 v2 v3 v4 v5 : Value) : Below B u (six2 W b v0 v1 v2 v3 v4 v5) :=
  (((((h.setCell (p := ⟨b, 2, none⟩) hB v0).setCell (p := ⟨b, 3, none⟩) hB v1).setCell (p := ⟨b, 4, none⟩) hB v2).setCell (p := ⟨b, 5, none⟩) hB v3).setCell (p := ⟨b, 6, none⟩) hB v4).setCell (p := ⟨b, 7, none⟩) hB v5
/-- Eight cells. -/
def eight (W : World) (B : Nat) (u0 u1 v0 v1 v2 v3 v4 v5 : Value) : World := six2 ((W.setCell ⟨B, 0, none⟩ u0).setCell ⟨B, 1, none⟩ u1) B v0 v1 v2 v3 v4 v5
theorem eight_old (W : World) (B : Nat) (u0 u1 v0 v1 v2 v3 v4 v5 : Value) {k : Nat} (hk : k ≠ B) : (eight W B u0 u1 v0 v1 v2 v3 v4 v5).heap[k]? = W.heap[k]? :=
  (six2_old _ _ _ _ _ _ _ _ hk).trans ((heap_setCell_other _ ⟨B, 1, none⟩ k _ hk).trans (heap_setCell_other W ⟨B, 0, none⟩ k _ hk))
theorem eight_size (W : World) (B : Nat) (u0 u1 v0 v1 v2 v3 v4 v5 : Value) : (eight W B u0 u1 v0 v1 v2 v3 v4 v5).heap.size = W.heap.size := by
  unfold eight
  rw [six2_size, World.size_setCell, World.size_setCell]
theorem Res3.setR {w W : World} {b0 b1 a0 a1 a2 a3 a4 a5 : Value} {e a : Int} (h : Res3 w #[b0, b1, a0, a1, a2, a3, a4, a5] e a W) (u0 u1 v0 v1 v2 v3 v4 v5 : Value) : Res3 w #[u0, u1, v0, v1, v2, v3, v4, v5] e a (eight W w.heap.size u0 u1 v0 v1 v2 v3 v4 v5) :=
  ⟨six2_has ((h.r.put 0 u0).put 1 u1) _ _ _ _ _ _, (eight_old _ _ _ _ _ _ _ _ _ _ (by omega)).trans h.e, (eight_old _ _ _ _ _ _ _ _ _ _ (by omega)).trans h.a,
    six2_below ((h.b.setCell (p := ⟨w.heap.size, 0, none⟩) (Nat.le_refl _) u0).setCell (p := ⟨w.heap.size, 1, none⟩) (Nat.le_refl _) u1) (Nat.le_refl _) _ _ _ _ _ _⟩
/-- What Parse leaves. -/
def PaR (s : ByteArray) (w : World) (e : Ending) (W : World) : Prop :=
  ∃ kv, e = .returned (.tuple #[.agg (ruA (parseU s).1 kv), .int .i64 (parseU s).2.1, .int .i64 (parseU s).2.2]) ∧ LayS (fun b => w.heap.size ≤ b) W kv (parseU s).1.cond.kids ∧ Below w.heap.size w W
set_option maxRecDepth 100000 in
set_option maxHeartbeats 8000000 in
theorem parse_lex (s : ByteArray) (w : World) (hs : s.size ≤ maxLen) (he : (lexL s).2.1 ≠ 0) : Calls Tryz.prog 46 #[.string s] w (PaR s w) := by
  have HP := Lib.hid (show parseU s = (ru0, (lexL s).2.1, (lexL s).2.2) by unfold parseU; rw [if_pos he])
  have H0 := Lib.hid (Res3.start w)
  have HL := Lib.hid (lex_any s)
  have hne : ((lexL s).2.1 == 0) = false := by simpa using he
  have hmx : Tryz.prog.follows .mixedOrders = true := by kernel_rfl
  generalize (lexL s).2.1 = er at *
  generalize (lexL s).2.2 = at' at *
  go_enter_defers Tryz.func46, Tryz.ntmps46
  go_wp2_with (go_at_call 80; refine (HL.out _ hs).mono ?_; rintro e w1 ⟨v, rfl, hown, hb⟩; have H1 := Lib.hid (H0.out.below hb); obtain ⟨d1, f1⟩ := H1.out.e.facts; obtain ⟨d2, f2⟩ := H1.out.a.facts; obtain ⟨d0, f0⟩ := H1.out.r.facts; clear hown hb)
  have H2 := Lib.hid ((H1.out.setE er).setA at')
  change Code.wp _ _ _ _ ((w1.setCell ⟨w.heap.size + 1, 0, none⟩ (.int .i64 er)).setCell ⟨w.heap.size + 2, 0, none⟩ (.int .i64 at'))
  clear d1 f1 d2 f2 d0 f0 H1
  generalize (w1.setCell ⟨w.heap.size + 1, 0, none⟩ (.int .i64 er)).setCell ⟨w.heap.size + 2, 0, none⟩ (.int .i64 at') = W2 at *
  obtain ⟨d1, f1⟩ := H2.out.e.facts
  obtain ⟨d2, f2⟩ := H2.out.a.facts
  obtain ⟨d0, f0⟩ := H2.out.r.facts
  refine wp_region_noPanic ?_
  refine wp_region_held_drew (S := fun W => W.cell? ⟨w.heap.size + 1, 0, none⟩ = some (.int .i64 er) ∧ W.cell? ⟨w.heap.size + 1 + 1, 0, none⟩ = some (.int .i64 at')) (by kernel_rfl) (⟨H2.out.drew.e.cell 0, H2.out.drew.a.cell 0⟩) (fun hHeld => ?_)
  refine plI [(0, false), (1, false), (2, false)] ?_
  repeat ((first | ((with_reducible show Plan ((_, true) :: _) _); refine plF ?_) | (refine plR (v := ?_) ?_ ?_; rotate_left; focus (intro W hSW; (try dsimp only at hSW); go_simp; all_goals (with_reducible rfl)))); try simp only [Act.put, List.setIfInBounds_toArray, List.set_cons_zero, List.set_cons_succ])
  refine plE ?_
  refine wpAnyH_ready (rs := [3]) (by kernel_rfl) (by simp) ?_
  refine AllReadyH.cons (o := ⟨_, _, _, _, _, _⟩) rfl (fun K hK => ?_) AllReadyH.nil
  go_simp
  have H3 := (H2.out.setR (.string ⟨#[]⟩) (.string ⟨#[]⟩) (.int .i64 0) (.string ⟨#[]⟩) (.string ⟨#[]⟩) (.int .i64 0) (.int .i64 0) (.slice none 0 0)).drew
  change K _ (eight W2 w.heap.size (.string ⟨#[]⟩) (.string ⟨#[]⟩) (.int .i64 0) (.string ⟨#[]⟩) (.string ⟨#[]⟩) (.int .i64 0) (.int .i64 0) (.slice none 0 0)).drew
  generalize (eight W2 w.heap.size (.string ⟨#[]⟩) (.string ⟨#[]⟩) (.int .i64 0) (.string ⟨#[]⟩) (.string ⟨#[]⟩) (.int .i64 0) (.int .i64 0) (.slice none 0 0)).drew = V3 at *
  obtain ⟨d3, f3⟩ := H3.e.facts
  refine hK.out _ _ (⟨H3.e.cell 0, H3.a.cell 0⟩) (fun hHeld => ?_)
  clear hK K
  try simp only [Act.put]
  refine wpAnyH_ready (rs := [4]) (by kernel_rfl) (by simp) ?_
  refine AllReadyH.cons (o := ⟨_, _, _, _, _, _⟩) rfl (fun K hK => ?_) AllReadyH.nil
  go_simp
  have H4 := H3.setE er
  obtain ⟨d4, f4⟩ := H4.a.facts
  refine hK.out _ _ (⟨H4.e.cell 0, H4.a.cell 0⟩) (fun hHeld => ?_)
  clear hK K
  try simp only [Act.put]
  refine wpAnyH_ready (rs := [5]) (by kernel_rfl) (by simp) ?_
  refine AllReadyH.cons (o := ⟨_, _, _, _, _, _⟩) rfl (fun K hK => ?_) AllReadyH.nil
  go_simp
  have H5 := H4.setA at'
  refine hK.out _ _ (⟨H5.e.cell 0, H5.a.cell 0⟩) (fun hHeld => ?_)
  clear hK K
  try simp only [Act.put]
  refine wpAnyH_done (by kernel_rfl) ?_ _
  clear hHeld d1 f1 d2 f2 d0 f0 d3 f3 d4 f4
  refine NoPanic.normal ?_
  change Exit.then _ _ _ _ ((V3.setCell ⟨w.heap.size + 1, 0, none⟩ (.int .i64 er)).setCell ⟨w.heap.size + 2, 0, none⟩ (.int .i64 at'))
  have H6 := Lib.hid H5
  generalize (V3.setCell ⟨w.heap.size + 1, 0, none⟩ (.int .i64 er)).setCell ⟨w.heap.size + 2, 0, none⟩ (.int .i64 at') = V6 at *
  clear H5 H4 H3 H2
  go_wp2_with fail
  obtain ⟨q0, _⟩ := H6.out.r.facts
  obtain ⟨q1, _⟩ := H6.out.e.facts
  obtain ⟨q2, _⟩ := H6.out.a.facts
  exact ⟨.tuple #[zRv, .int .i64 er, .int .i64 at'], by simp [results, Tryz.results46, go_sem, q0, q1, q2], ⟨.slice none 0 0, by rw [HP.out]; rfl, by rw [HP.out]; exact LayS.nil _ _, H6.out.b⟩⟩
end Go.Proofs.YtcpakaiblelmlaaGreatDoor
namespace Go.Proofs.YtcpakaiblelmlaaGreatDoor
open Go Go.RowKit
theorem tok_get : ∀ (fs : List Fnd) (i : Nat), i < fs.length → (tokCells fs)[i * 3]? = some (.int .i64 (tokAt fs i).kind) ∧ (tokCells fs)[i * 3 + 1]? = some (.string (tokAt fs i).text) ∧ (tokCells fs)[i * 3 + 2]? = some (.int .i64 (tokAt fs i).pos)
  | [], i, h => absurd h (Nat.not_lt_zero i)
  | f :: fs, 0, _ => ⟨rfl, rfl, rfl⟩
  | f :: fs, i + 1, h => by
    have ih := tok_get fs i (by simpa using h)
    have e : ∀ k, (tokCells (f :: fs))[k + 3]? = (tokCells fs)[k]? := fun k => by
      show (tokV f ++ tokCells fs)[k + 3]? = _
      rw [List.getElem?_append_right (by show 3 ≤ _; omega)]
      rfl
    rw [show (i + 1) * 3 = i * 3 + 3 by omega, e, show i * 3 + 3 + 1 = i * 3 + 1 + 3 by omega, e, show i * 3 + 3 + 2 = i * 3 + 2 + 3 by omega, e]
    exact ih
/-- The parser's object over tokens that a call made. -/
theorem par_new {_w W : World} {base : Nat} {v : Value} {fs : List Fnd} (E : Int) (h : W.ownsRow base 133 3 v fs.length (tokCells fs)) (hsz : ∀ t ∈ fs, t.text.size ≤ 20000) : Par (W.alloc (.cells #[v, .int .i64 E] 114)) W.heap.size E fs := by
  refine ⟨v, Has.new _ _ _, fun t ht => Nat.le_trans (hsz t ht) (by decide), ?_⟩
  rcases h.2 with ⟨rfl, h0⟩ | ⟨k, cap, cur, rfl, hbk, hh, hn, hcm, hcs, ht⟩
  · exact ⟨none, 0, by rw [h0], by omega, by decide, .inl (List.eq_nil_of_length_eq_zero h0)⟩
  · have hk : k < W.heap.size := by
      rcases Nat.lt_or_ge k W.heap.size with h | h
      · exact h
      · rw [Array.getElem?_eq_none h] at hh; cases hh
    refine ⟨_, cap, rfl, hn, by unfold maxLen at hcm; omega, .inr ⟨k, 0, rfl, hk, fun i hi => ?_⟩⟩
    obtain ⟨a1, a2, a3⟩ := tok_get fs i hi
    have hh2 : (W.alloc (.cells #[.slice (some ⟨k, 0, none⟩) fs.length cap, .int .i64 E] 114)).heap[k]? = some (.cells cur 133 (0, 0)) := (Below.heap_alloc W _ _ hk).trans hh
    have get : ∀ j u, j < fs.length * 3 → (tokCells fs)[j]? = some u → (W.alloc (.cells #[.slice (some ⟨k, 0, none⟩) fs.length cap, .int .i64 E] 114)).cell? ⟨k, 0 + j, none⟩ = some u := fun j u hj hu => by
      rw [Nat.zero_add, cell_of_row _ k j cur _ (0, 0) hh2]
      rw [← ht, List.getElem?_take, if_pos hj] at hu
      simpa using hu
    exact ⟨get _ _ (by omega) a1, by rw [Nat.add_assoc]; exact get _ _ (by omega) a2, by rw [Nat.add_assoc]; exact get _ _ (by omega) a3⟩
theorem own_val {w : World} {base t sz n : Nat} {v : Value} {xs : List Value} (h : w.ownsRow base t sz v n xs) : ∃ A c, v = .slice A n c := by
  rcases h.2 with ⟨rfl, h0⟩ | ⟨k, cap, cur, rfl, _⟩
  · exact ⟨none, 0, by rw [h0]⟩
  · exact ⟨_, _, rfl⟩
theorem Res3.aw {w W W' : World} {r : Array Value} {e a : Int} {g : Nat} (h : Res3 w r e a W) (ha : Aw g g W W') (hg : w.heap.size + 3 ≤ g) : Res3 w r e a W' :=
  ⟨h.r.aw ha (by omega) (by omega), h.e.aw ha (by omega) (by omega), h.a.aw ha (by omega) (by omega), ha.below h.b (by omega) (by omega)⟩
/-- What stands where rule is called. -/
theorem before_rule {w w1 : World} {base : Nat} {v : Value} {fs : List Fnd} (E e0' a0 e1 a1 : Int) (h : Res3 w zRu e0' a0 w1) (ho : w1.ownsRow base 133 3 v fs.length (tokCells fs)) (hbase : w.heap.size + 3 ≤ base) (hsz : ∀ t ∈ fs, t.text.size ≤ 20000) :
    Res3 w zRu e1 a1 (((w1.setCell ⟨w.heap.size + 1, 0, none⟩ (.int .i64 e1)).setCell ⟨w.heap.size + 2, 0, none⟩ (.int .i64 a1)).alloc (.cells #[v, .int .i64 E] 114)) ∧ Par (((w1.setCell ⟨w.heap.size + 1, 0, none⟩ (.int .i64 e1)).setCell ⟨w.heap.size + 2, 0, none⟩ (.int .i64 a1)).alloc (.cells #[v, .int .i64 E] 114)) w1.heap.size E fs := by
  have h2 := (h.setE e1).setA a1
  have hne : ∀ b, b < w.heap.size + 3 → v.ownBlock = none ∨ v.ownBlock ≠ some b := fun b hb => by
    cases hv : v.ownBlock with
    | none => exact .inl rfl
    | some k => refine .inr fun e => ?_; injection e with e; have := (ho.lt k hv).1; omega
  have o2 := (ho.kept (grownBy_setCell' w1 (w.heap.size + 1) (.int .i64 e1)) (hne _ (by omega))).kept (grownBy_setCell' _ (w.heap.size + 2) (.int .i64 a1)) (hne _ (by omega))
  refine ⟨h2.below ((Below.refl _ _).alloc (Nat.le_refl _) _), ?_⟩
  have := par_new (_w := w) E o2 hsz
  rwa [World.size_setCell, World.size_setCell] at this
set_option maxRecDepth 100000 in
set_option maxHeartbeats 8000000 in
theorem parse_bad (w0 : World) (hv : Evs w0) (s : ByteArray) (w : World) (hb0 : Below w0.heap.size w0 w) (hs : s.size ≤ maxLen) (he : (lexL s).2.1 = 0) (er a : Int) (hq : ruleP s.size (lexL s).1 = .bad er a) : Calls Tryz.prog 46 #[.string s] w (PaR s w) := by
  have HP := Lib.hid (show parseU s = (ru0, er, a) by unfold parseU; rw [if_neg (by rw [he]; exact fun h => h rfl), hq])
  have H0 := Lib.hid (Res3.start w)
  have HL := Lib.hid (lex_any s)
  rw [he] at HL
  have HSh := Lib.hid (lexL_short s)
  have HQ := Lib.hid hq
  have hmf : ∀ (fn : Fn) (first cap : Array Value) (w : World), (Instr.makeFunc fn first cap).run Tryz.prog w = .ok (.func fn first cap) w := fun _ _ _ _ => rfl
  have hmaxs : (s.size : Int) ≤ 9223372036854775807 := by unfold maxLen at hs; omega
  generalize (lexL s).1 = l at *
  generalize (lexL s).2.2 = at' at *
  clear hq he
  go_enter_defers Tryz.func46, Tryz.ntmps46
  have hbase : (((w.alloc (.cells zRu 29)).alloc (.cells #[.int .i64 0] 32)).alloc (.cells #[.int .i64 0] 3)).heap.size = w.heap.size + 3 := by rw [World.size_alloc, World.size_alloc, World.size_alloc]
  have HZ := Lib.hid hbase
  clear hbase
  go_wp2_with (first
    | (go_at_call 80; refine (HL.out _ hs).mono ?_; rintro e w1 ⟨v, rfl, hown, hb⟩; obtain ⟨A, cc, rfl⟩ := own_val hown; have H1 := Lib.hid (H0.out.below hb); have HB := Lib.hid (before_rule s.size 0 0 0 at' H1.out hown (Nat.le_of_eq HZ.out.symm) HSh.out.2); obtain ⟨d1, f1⟩ := H1.out.e.facts; obtain ⟨d2, f2⟩ := H1.out.a.facts; obtain ⟨d0, f0⟩ := H1.out.r.facts; clear hown hb)
    | (go_at_call 82; refine (prule_any w0 hv w1.heap.size s.size l _ (hb0.trans (HB.out.1.b.mono hb0.size)) (Nat.le_trans hb0.size H1.out.b.size) HB.out.2 (by have := HSh.out.1; omega)).mono ?_; rintro e w3 hd; rw [HQ.out] at hd; obtain ⟨ha, rfl⟩ := hd; have H3 := Lib.hid (HB.out.1.aw ha H1.out.lt); clear ha))
  show Leaves _ _ _ _ _ _ _
  refine leaves_cons (f := 81) (args := #[.pointer (some ⟨w.heap.size, 0, none⟩), .pointer (some ⟨w.heap.size + 1, 0, none⟩), .pointer (some ⟨w.heap.size + 1 + 1, 0, none⟩)]) (by simp) (by simp [go_sem]) ?_
  refine (catch_panic w.heap.size (w.heap.size + 1) (w.heap.size + 1 + 1) er a [] _ _ _ _ _ _ _ _ _ _ w3 H3.out.r H3.out.e H3.out.a (by omega) (by omega) (by omega)).mono ?_
  rintro e u' w4 ⟨rfl, rfl, hr, he, ha, hz, o1, o2, o3, hk⟩
  obtain ⟨q0, _⟩ := hr.facts
  obtain ⟨q1, _⟩ := he.facts
  obtain ⟨q2, _⟩ := ha.facts
  have HBw := Lib.hid (show Below w.heap.size w w4 from ⟨o1.trans H3.out.b.os, o2.trans H3.out.b.tape, o3.trans H3.out.b.output, Nat.le_trans H3.out.b.size hz, fun k hk' => (hk k (Nat.lt_of_lt_of_le hk' H3.out.b.size) (by omega) (by omega) (by omega)).trans (H3.out.b.block k hk')⟩)
  show ∃ v, _ ∧ PaR s w (.returned v) w4
  exact ⟨.tuple #[zRv, .int .i64 er, .int .i64 a], by simp [results, Tryz.results46, go_sem, q0, q1, q2], ⟨.slice none 0 0, by rw [HP.out]; rfl, by rw [HP.out]; exact LayS.nil _ _, HBw.out⟩⟩
end Go.Proofs.YtcpakaiblelmlaaGreatDoor
namespace Go.Proofs.YtcpakaiblelmlaaGreatDoor
open Go Go.RowKit
theorem eight_lay {S T : Nat → Prop} {W : World} {B : Nat} {v : Value} {ks : List Ex} (h : LayS S W v ks) (hS : ∀ b, S b → b ≠ B ∧ T b) (u0 u1 v0 v1 v2 v3 v4 v5 : Value) : LayS T (eight W B u0 u1 v0 v1 v2 v3 v4 v5) v ks := h.on (fun b hb _ => eight_old W B _ _ _ _ _ _ _ _ (hS b hb).1) fun b hb _ => (hS b hb).2
set_option maxRecDepth 100000 in
set_option maxHeartbeats 8000000 in
theorem parse_many (w0 : World) (hv : Evs w0) (s : ByteArray) (w : World) (hb0 : Below w0.heap.size w0 w) (hs : s.size ≤ maxLen) (he : (lexL s).2.1 = 0) (q : Ru) (rest : List Fnd) (hq : ruleP s.size (lexL s).1 = .ok q rest) (hc : 60 < cnt q.cond) : Calls Tryz.prog 46 #[.string s] w (PaR s w) := by
  have HP := Lib.hid (show parseU s = (ru0, 7, 0) by unfold parseU; rw [if_neg (by rw [he]; exact fun h => h rfl), hq]; exact if_pos hc)
  have H0 := Lib.hid (Res3.start w)
  have HL := Lib.hid (lex_any s)
  rw [he] at HL
  have HSh := Lib.hid (lexL_short s)
  have HQ := Lib.hid hq
  have HCn := Lib.hid (show cnt q.cond ≤ 1000000 by have h1 := ruleP_cnt hq; have h2 := (lexL_short s).1; omega)
  have hmf : ∀ (fn : Fn) (first cap : Array Value) (w : World), (Instr.makeFunc fn first cap).run Tryz.prog w = .ok (.func fn first cap) w := fun _ _ _ _ => rfl
  have hmaxs : (s.size : Int) ≤ 9223372036854775807 := by unfold maxLen at hs; omega
  have hgt : (60 : Int) < ((min (cnt q.cond) 61 : Nat) : Int) := by omega
  have HM2 : ∃ mc : Int, ((min (cnt q.cond) 61 : Nat) : Int) = mc := ⟨_, rfl⟩
  obtain ⟨mc, hmc⟩ := HM2
  rw [hmc] at hgt
  have HMC := Lib.hid hmc
  clear hmc
  generalize (lexL s).1 = l at *
  generalize (lexL s).2.2 = at' at *
  clear hq he
  have hbase : (((w.alloc (.cells zRu 29)).alloc (.cells #[.int .i64 0] 32)).alloc (.cells #[.int .i64 0] 3)).heap.size = w.heap.size + 3 := by rw [World.size_alloc, World.size_alloc, World.size_alloc]
  have HZ := Lib.hid hbase
  clear hbase
  go_enter_defers Tryz.func46, Tryz.ntmps46
  go_wp2_with (first
    | (go_at_call 80; refine (HL.out _ hs).mono ?_; rintro e w1 ⟨v, rfl, hown, hb⟩; obtain ⟨A, cc, rfl⟩ := own_val hown; have H1 := Lib.hid (H0.out.below hb); have HB := Lib.hid (before_rule s.size 0 0 0 at' H1.out hown (Nat.le_of_eq HZ.out.symm) HSh.out.2); obtain ⟨d1, f1⟩ := H1.out.e.facts; obtain ⟨d2, f2⟩ := H1.out.a.facts; obtain ⟨d0, f0⟩ := H1.out.r.facts; clear hown hb)
    | (go_at_call 82; refine (prule_any w0 hv w1.heap.size s.size l _ (hb0.trans (HB.out.1.b.mono hb0.size)) (Nat.le_trans hb0.size H1.out.b.size) HB.out.2 (by have := HSh.out.1; omega)).mono ?_; clear d0 f0 d1 f1 d2 f2; rintro e w3 hd; rw [HQ.out] at hd; obtain ⟨ha, ⟨v, rfl, ⟨kv, rfl, hvv⟩⟩, hpr⟩ := hd; dsimp only [ruA]; obtain ⟨A', c', rfl, _⟩ := hvv.slice; have H3 := Lib.hid (HB.out.1.aw ha H1.out.lt); have H4 := Lib.hid (H3.out.setR (.string q.name) (.string q.kind) (.int .i64 q.cond.op) (.string q.cond.name) (.string q.cond.value) (.int .i64 q.cond.n) (.int .i64 q.cond.extra) (.slice A' q.cond.kids.length c')); have HV := Lib.hid (eight_lay (B := w.heap.size) (T := fun b => w.heap.size + 3 ≤ b) hvv (fun b hb => (by have h1 := HB.out.1.lt; have h2 := Nat.le_trans h1 hb; exact ⟨by omega, by omega⟩)) (.string q.name) (.string q.kind) (.int .i64 q.cond.op) (.string q.cond.name) (.string q.cond.value) (.int .i64 q.cond.n) (.int .i64 q.cond.extra) (.slice A' q.cond.kids.length c')); obtain ⟨d0, f0⟩ := H3.out.r.facts; clear ha hvv hpr)
    | (go_at_call 28; refine (size_any q.cond _ _ HCn.out HV.out.any).mono ?_; clear d0 f0; rintro e w5 ⟨rfl, hb5⟩; rw [HMC.out]; have H5 := Lib.hid (H4.out.below hb5); have HV5 := Lib.hid (HV.out.later hb5); obtain ⟨d0, f0⟩ := H5.out.r.facts; obtain ⟨d1, f1⟩ := H5.out.e.facts; obtain ⟨d2, f2⟩ := H5.out.a.facts; clear hb5))
  have H8 := Lib.hid (((H5.out.setR (.string ⟨#[]⟩) (.string ⟨#[]⟩) (.int .i64 0) (.string ⟨#[]⟩) (.string ⟨#[]⟩) (.int .i64 0) (.int .i64 0) (.slice none 0 0)).setE 7).setA 0)
  change bodyPostD _ _ _ _ _ (((eight w5 w.heap.size (.string ⟨#[]⟩) (.string ⟨#[]⟩) (.int .i64 0) (.string ⟨#[]⟩) (.string ⟨#[]⟩) (.int .i64 0) (.int .i64 0) (.slice none 0 0)).setCell ⟨w.heap.size + 1, 0, none⟩ (.int .i64 7)).setCell ⟨w.heap.size + 2, 0, none⟩ (.int .i64 0))
  generalize (((eight w5 w.heap.size (.string ⟨#[]⟩) (.string ⟨#[]⟩) (.int .i64 0) (.string ⟨#[]⟩) (.string ⟨#[]⟩) (.int .i64 0) (.int .i64 0) (.slice none 0 0)).setCell ⟨w.heap.size + 1, 0, none⟩ (.int .i64 7)).setCell ⟨w.heap.size + 2, 0, none⟩ (.int .i64 0)) = W8 at *
  show Leaves _ _ _ _ _ _ _
  refine leaves_cons (f := 81) (args := #[.pointer (some ⟨w.heap.size, 0, none⟩), .pointer (some ⟨w.heap.size + 1, 0, none⟩), .pointer (some ⟨w.heap.size + 1 + 1, 0, none⟩)]) (by simp) (by simp [go_sem]) ?_
  refine (catch_idle w.heap.size (w.heap.size + 1) (w.heap.size + 1 + 1) _).mono ?_
  rintro e u' w9 ⟨rfl, rfl, rfl⟩
  obtain ⟨q0, _⟩ := H8.out.r.facts
  obtain ⟨q1, _⟩ := H8.out.e.facts
  obtain ⟨q2, _⟩ := H8.out.a.facts
  show ∃ v, _ ∧ PaR s w (.returned v) w9
  exact ⟨.tuple #[.agg #[.string ⟨#[]⟩, .string ⟨#[]⟩, .int .i64 0, .string ⟨#[]⟩, .string ⟨#[]⟩, .int .i64 0, .int .i64 0, .slice none 0 0], .int .i64 7, .int .i64 0], by simp [results, Tryz.results46, go_sem, q0, q1, q2], ⟨.slice none 0 0, by rw [HP.out]; rfl, by rw [HP.out]; exact LayS.nil _ _, H8.out.b⟩⟩
set_option maxRecDepth 100000 in
set_option maxHeartbeats 8000000 in
theorem parse_good (w0 : World) (hv : Evs w0) (s : ByteArray) (w : World) (hb0 : Below w0.heap.size w0 w) (hs : s.size ≤ maxLen) (he : (lexL s).2.1 = 0) (q : Ru) (rest : List Fnd) (hq : ruleP s.size (lexL s).1 = .ok q rest) (hc : ¬ 60 < cnt q.cond) : Calls Tryz.prog 46 #[.string s] w (PaR s w) := by
  have HP := Lib.hid (show parseU s = (q, 0, 0) by unfold parseU; rw [if_neg (by rw [he]; exact fun h => h rfl), hq]; exact if_neg hc)
  have H0 := Lib.hid (Res3.start w)
  have HL := Lib.hid (lex_any s)
  rw [he] at HL
  have HSh := Lib.hid (lexL_short s)
  have HQ := Lib.hid hq
  have HCn := Lib.hid (show cnt q.cond ≤ 1000000 by have h1 := ruleP_cnt hq; have h2 := (lexL_short s).1; omega)
  have hmf : ∀ (fn : Fn) (first cap : Array Value) (w : World), (Instr.makeFunc fn first cap).run Tryz.prog w = .ok (.func fn first cap) w := fun _ _ _ _ => rfl
  have hmaxs : (s.size : Int) ≤ 9223372036854775807 := by unfold maxLen at hs; omega
  have hgt : ¬ (60 : Int) < ((min (cnt q.cond) 61 : Nat) : Int) := by omega
  have HM2 : ∃ mc : Int, ((min (cnt q.cond) 61 : Nat) : Int) = mc := ⟨_, rfl⟩
  obtain ⟨mc, hmc⟩ := HM2
  rw [hmc] at hgt
  have HMC := Lib.hid hmc
  clear hmc
  generalize (lexL s).1 = l at *
  generalize (lexL s).2.2 = at' at *
  clear hq he
  have hbase : (((w.alloc (.cells zRu 29)).alloc (.cells #[.int .i64 0] 32)).alloc (.cells #[.int .i64 0] 3)).heap.size = w.heap.size + 3 := by rw [World.size_alloc, World.size_alloc, World.size_alloc]
  have HZ := Lib.hid hbase
  clear hbase
  go_enter_defers Tryz.func46, Tryz.ntmps46
  go_wp2_with (first
    | (go_at_call 80; refine (HL.out _ hs).mono ?_; rintro e w1 ⟨v, rfl, hown, hb⟩; obtain ⟨A, cc, rfl⟩ := own_val hown; have H1 := Lib.hid (H0.out.below hb); have HB := Lib.hid (before_rule s.size 0 0 0 at' H1.out hown (Nat.le_of_eq HZ.out.symm) HSh.out.2); obtain ⟨d1, f1⟩ := H1.out.e.facts; obtain ⟨d2, f2⟩ := H1.out.a.facts; obtain ⟨d0, f0⟩ := H1.out.r.facts; clear hown hb)
    | (go_at_call 82; refine (prule_any w0 hv w1.heap.size s.size l _ (hb0.trans (HB.out.1.b.mono hb0.size)) (Nat.le_trans hb0.size H1.out.b.size) HB.out.2 (by have := HSh.out.1; omega)).mono ?_; clear d0 f0 d1 f1 d2 f2; rintro e w3 hd; rw [HQ.out] at hd; obtain ⟨ha, ⟨v, rfl, ⟨kv, rfl, hvv⟩⟩, hpr⟩ := hd; dsimp only [ruA]; obtain ⟨A', c', rfl, _⟩ := hvv.slice; have H3 := Lib.hid (HB.out.1.aw ha H1.out.lt); have H4 := Lib.hid (H3.out.setR (.string q.name) (.string q.kind) (.int .i64 q.cond.op) (.string q.cond.name) (.string q.cond.value) (.int .i64 q.cond.n) (.int .i64 q.cond.extra) (.slice A' q.cond.kids.length c')); have HV := Lib.hid (eight_lay (B := w.heap.size) (T := fun b => w.heap.size + 3 ≤ b) hvv (fun b hb => (by have h1 := HB.out.1.lt; have h2 := Nat.le_trans h1 hb; exact ⟨by omega, by omega⟩)) (.string q.name) (.string q.kind) (.int .i64 q.cond.op) (.string q.cond.name) (.string q.cond.value) (.int .i64 q.cond.n) (.int .i64 q.cond.extra) (.slice A' q.cond.kids.length c')); obtain ⟨d0, f0⟩ := H3.out.r.facts; clear ha hvv hpr)
    | (go_at_call 28; refine (size_any q.cond _ _ HCn.out HV.out.any).mono ?_; clear d0 f0; rintro e w5 ⟨rfl, hb5⟩; rw [HMC.out]; have H5 := Lib.hid (H4.out.below hb5); have HV5 := Lib.hid (HV.out.later hb5); obtain ⟨d0, f0⟩ := H5.out.r.facts; obtain ⟨d1, f1⟩ := H5.out.e.facts; obtain ⟨d2, f2⟩ := H5.out.a.facts; clear hb5))
  have H8 := Lib.hid (((H5.out.setR (.string q.name) (.string q.kind) (.int .i64 q.cond.op) (.string q.cond.name) (.string q.cond.value) (.int .i64 q.cond.n) (.int .i64 q.cond.extra) (.slice A' q.cond.kids.length c')).setE 0).setA 0)
  have HV8 := Lib.hid (show LayS (fun b => w.heap.size ≤ b) (((eight w5 w.heap.size (.string q.name) (.string q.kind) (.int .i64 q.cond.op) (.string q.cond.name) (.string q.cond.value) (.int .i64 q.cond.n) (.int .i64 q.cond.extra) (.slice A' q.cond.kids.length c')).setCell ⟨w.heap.size + 1, 0, none⟩ (.int .i64 0)).setCell ⟨w.heap.size + 2, 0, none⟩ (.int .i64 0)) (.slice A' q.cond.kids.length c') q.cond.kids from HV5.out.on (fun b hb _ => (heap_setCell_other _ ⟨w.heap.size + 2, 0, none⟩ b _ (by show b ≠ w.heap.size + 2; omega)).trans ((heap_setCell_other _ ⟨w.heap.size + 1, 0, none⟩ b _ (by show b ≠ w.heap.size + 1; omega)).trans (eight_old _ _ _ _ _ _ _ _ _ _ (by omega)))) fun b hb _ => by omega)
  change bodyPostD _ _ _ _ _ (((eight w5 w.heap.size (.string q.name) (.string q.kind) (.int .i64 q.cond.op) (.string q.cond.name) (.string q.cond.value) (.int .i64 q.cond.n) (.int .i64 q.cond.extra) (.slice A' q.cond.kids.length c')).setCell ⟨w.heap.size + 1, 0, none⟩ (.int .i64 0)).setCell ⟨w.heap.size + 2, 0, none⟩ (.int .i64 0))
  generalize (((eight w5 w.heap.size (.string q.name) (.string q.kind) (.int .i64 q.cond.op) (.string q.cond.name) (.string q.cond.value) (.int .i64 q.cond.n) (.int .i64 q.cond.extra) (.slice A' q.cond.kids.length c')).setCell ⟨w.heap.size + 1, 0, none⟩ (.int .i64 0)).setCell ⟨w.heap.size + 2, 0, none⟩ (.int .i64 0)) = W8 at *
  show Leaves _ _ _ _ _ _ _
  refine leaves_cons (f := 81) (args := #[.pointer (some ⟨w.heap.size, 0, none⟩), .pointer (some ⟨w.heap.size + 1, 0, none⟩), .pointer (some ⟨w.heap.size + 1 + 1, 0, none⟩)]) (by simp) (by simp [go_sem]) ?_
  refine (catch_idle w.heap.size (w.heap.size + 1) (w.heap.size + 1 + 1) _).mono ?_
  rintro e u' w9 ⟨rfl, rfl, rfl⟩
  obtain ⟨q0, _⟩ := H8.out.r.facts
  obtain ⟨q1, _⟩ := H8.out.e.facts
  obtain ⟨q2, _⟩ := H8.out.a.facts
  show ∃ v, _ ∧ PaR s w (.returned v) w9
  exact ⟨.tuple #[.agg #[.string q.name, .string q.kind, .int .i64 q.cond.op, .string q.cond.name, .string q.cond.value, .int .i64 q.cond.n, .int .i64 q.cond.extra, .slice A' q.cond.kids.length c'], .int .i64 0, .int .i64 0], by simp [results, Tryz.results46, go_sem, q0, q1, q2], ⟨_, by rw [HP.out]; rfl, by rw [HP.out]; exact HV8.out, H8.out.b⟩⟩
/-- rule.Parse, whatever the text. -/
theorem parse_any (w0 : World) (hv : Evs w0) (s : ByteArray) (w : World) (hb0 : Below w0.heap.size w0 w) (hs : s.size ≤ maxLen) : Calls Tryz.prog 46 #[.string s] w (PaR s w) := by
  by_cases he : (lexL s).2.1 = 0
  · cases hq : ruleP s.size (lexL s).1 with
    | bad er a => exact parse_bad w0 hv s w hb0 hs he er a hq
    | ok q rest =>
      by_cases hc : 60 < cnt q.cond
      · exact parse_many w0 hv s w hb0 hs he q rest hq hc
      · exact parse_good w0 hv s w hb0 hs he q rest hq hc
  · exact parse_lex s w hs he
end Go.Proofs.YtcpakaiblelmlaaGreatDoor
