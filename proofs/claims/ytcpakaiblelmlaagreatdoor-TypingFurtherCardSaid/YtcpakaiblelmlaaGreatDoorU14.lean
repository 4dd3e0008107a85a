/- The parser's forms: a map of closures. No condition but that the object's box is new. The parser's not, case by case. Condition: what reads one thing keeps its contract; the error variables of strconv hold something. The parser's not, further cases. Condition: what reads one thing keeps its contract; the error variables of strconv hold something. The parser's not, further cases. Condition: what reads one thing keeps its contract; the map of forms is as it is made. The parser's not, whatever comes, by recursion on the tokens. Condition: the error variables of strconv hold something. -/
import Derived.Test.YtcpakaiblelmlaaGreatDoorU01
import Derived.Test.YtcpakaiblelmlaaGreatDoorU02
import Derived.Test.YtcpakaiblelmlaaGreatDoorU08
namespace Go.Proofs.YtcpakaiblelmlaaGreatDoor
open Go Go.RowKit
/-- The map's entries, in the order of their making. -/
def formsL (bp b1 b2 : Nat) : List (ByteArray × Value) := [(wTrue, .func (.func 147) #[] #[]), (wNot, .func (.func 148) #[] #[.pointer (some ⟨bp, 0, none⟩)]), (wLimit, .func (.func 149) #[] #[.pointer (some ⟨bp, 0, none⟩)]), (wOver, .func (.func 151) #[] #[.pointer (some ⟨bp, 0, none⟩)]), (wHas, .func (.func 152) #[] #[.pointer (some ⟨bp, 0, none⟩)]), (wSlot, .func (.func 153) #[] #[.pointer (some ⟨bp, 0, none⟩)]), (wAll, .func (.func 146) #[] #[.pointer (some ⟨b1, 0, none⟩), .pointer (some ⟨bp, 0, none⟩)]), (wAny, .func (.func 146) #[] #[.pointer (some ⟨b2, 0, none⟩), .pointer (some ⟨bp, 0, none⟩)]), (wAt, .func (.func 154) #[] #[.pointer (some ⟨bp, 0, none⟩)])]
set_option maxRecDepth 100000 in
set_option maxHeartbeats 4000000 in
theorem forms1_any (op : Int) (bp : Nat) (w : World) : Calls Tryz.prog 145 #[.int .i64 op, .pointer (some ⟨bp, 0, none⟩)] w fun e w' => e = .returned (.func (.func 146) #[] #[.pointer (some ⟨w.heap.size, 0, none⟩), .pointer (some ⟨bp, 0, none⟩)]) ∧ Below w.heap.size w w' ∧ Has w' w.heap.size 3 #[.int .i64 op] := by
  go_enter Tryz.func145, Tryz.ntmps145
  go_wp2_with fail
  go_ret
  exact ⟨rfl, (Below.refl _ _).alloc (Nat.le_refl _) _, Has.new _ _ _⟩
/-- A world on the way to the map. -/
structure MpI (w : World) (g B : Nat) (m : List (ByteArray × Value)) (W : World) : Prop where
  below : Below w.heap.size w W
  mp : Mp W Value.string B m
  box : Has W w.heap.size 112 #[.pointer (some ⟨g, 0, none⟩)]
  hB : w.heap.size < B
theorem MpI.put {w W W' : World} {g B : Nat} {m m' : List (ByteArray × Value)} (h : MpI w g B m W) (hm : Mp W' Value.string B m') (hg : W.grownBy W' (some B)) : MpI w g B m' W' :=
  ⟨h.below.grown hg h.below.size (fun k e => by injection e with e; subst e; exact Nat.le_of_lt h.hB), hm, h.box.grown hg (fun e => by injection e with e; have := h.hB; omega), h.hB⟩
theorem MpI.next {w W W' : World} {g B : Nat} {m : List (ByteArray × Value)} (h : MpI w g B m W) (hb : Below W.heap.size W W') : MpI w g B m W' :=
  ⟨h.below.trans (hb.mono h.below.size), h.mp.below hb h.mp.lt, h.box.below hb h.box.lt, h.hB⟩
set_option maxRecDepth 100000 in
set_option maxHeartbeats 8000000 in
theorem forms_any (g : Nat) (w : World) : Calls Tryz.prog 142 #[.pointer (some ⟨g, 0, none⟩)] w fun e w' => ∃ G b1 b2, e = .returned (.map (some G)) ∧ MpI w g G (formsL w.heap.size b1 b2) w' ∧ (Has w' b1 3 #[.int .i64 10] ∧ w.heap.size ≤ b1) ∧ Has w' b2 3 #[.int .i64 11] ∧ w.heap.size ≤ b2 := by
  have hmm := @run_makeMap Tryz.prog
  have h0 : MpI w g (w.heap.size + 1) [] ((w.alloc (.cells #[.pointer (some ⟨g, 0, none⟩)] 112)).alloc (.map #[] 0)) := by
    have hz : (w.alloc (.cells #[.pointer (some ⟨g, 0, none⟩)] 112)).heap.size = w.heap.size + 1 := World.size_alloc _ _
    refine ⟨((Below.refl _ _).alloc (Nat.le_refl _) _).alloc (by omega) _, ?_, (Has.new _ _ _).alloc _, Nat.lt_succ_self _⟩
    rw [← hz]; exact Mp.new _ _
  have H0 := Lib.hid h0
  clear h0
  obtain ⟨w1, p1, m1, g1, s1⟩ := run_put str_keying Tryz.underlying181 H0.out.mp ⟨#[116, 114, 117, 101]⟩ (.func (.func 147) #[] #[])
  have H1 := Lib.hid (H0.out.put m1 g1)
  clear m1 g1 s1
  obtain ⟨w2, p2, m2, g2, s2⟩ := run_put str_keying Tryz.underlying181 H1.out.mp ⟨#[110, 111, 116]⟩ (.func (.func 148) #[] #[.pointer (some ⟨w.heap.size, 0, none⟩)])
  have H2 := Lib.hid (H1.out.put m2 g2)
  clear m2 g2 s2
  obtain ⟨w3, p3, m3, g3, s3⟩ := run_put str_keying Tryz.underlying181 H2.out.mp ⟨#[108, 105, 109, 105, 116]⟩ (.func (.func 149) #[] #[.pointer (some ⟨w.heap.size, 0, none⟩)])
  have H3 := Lib.hid (H2.out.put m3 g3)
  clear m3 g3 s3
  obtain ⟨w4, p4, m4, g4, s4⟩ := run_put str_keying Tryz.underlying181 H3.out.mp ⟨#[111, 118, 101, 114]⟩ (.func (.func 151) #[] #[.pointer (some ⟨w.heap.size, 0, none⟩)])
  have H4 := Lib.hid (H3.out.put m4 g4)
  clear m4 g4 s4
  obtain ⟨w5, p5, m5, g5, s5⟩ := run_put str_keying Tryz.underlying181 H4.out.mp ⟨#[104, 97, 115]⟩ (.func (.func 152) #[] #[.pointer (some ⟨w.heap.size, 0, none⟩)])
  have H5 := Lib.hid (H4.out.put m5 g5)
  clear m5 g5 s5
  obtain ⟨w6, p6, m6, g6, s6⟩ := run_put str_keying Tryz.underlying181 H5.out.mp ⟨#[115, 108, 111, 116]⟩ (.func (.func 153) #[] #[.pointer (some ⟨w.heap.size, 0, none⟩)])
  have H6 := Lib.hid (H5.out.put m6 g6)
  clear m6 g6 s6
  go_enter Tryz.func142, Tryz.ntmps142
  go_wp2_with (first
    | (go_at_call 145; refine (forms1_any 10 _ w6).mono ?_; rintro e w7 ⟨rfl, hb7, hx7⟩; have H7 := Lib.hid (H6.out.next hb7); obtain ⟨w8, p8, m8, g8, s8⟩ := run_put str_keying Tryz.underlying181 H7.out.mp ⟨#[97, 108, 108]⟩ (.func (.func 146) #[] #[.pointer (some ⟨w6.heap.size, 0, none⟩), .pointer (some ⟨w.heap.size, 0, none⟩)]); have H8 := Lib.hid (H7.out.put m8 g8); have HX8 := Lib.hid (hx7.grown g8 (fun e => by injection e with e; have := H6.out.mp.lt; omega)); clear hb7 hx7 m8 g8 s8)
    | (go_at_call 145; refine (forms1_any 11 _ w8).mono ?_; rintro e w9 ⟨rfl, hb9, hx9⟩; have H9 := Lib.hid (H8.out.next hb9); obtain ⟨w10, p10, m10, g10, s10⟩ := run_put str_keying Tryz.underlying181 H9.out.mp ⟨#[97, 110, 121]⟩ (.func (.func 146) #[] #[.pointer (some ⟨w8.heap.size, 0, none⟩), .pointer (some ⟨w.heap.size, 0, none⟩)]); have H10 := Lib.hid (H9.out.put m10 g10); have HX10 := Lib.hid (hx9.grown g10 (fun e => by injection e with e; have := H8.out.mp.lt; omega)); have HY10 := Lib.hid ((HX8.out.below hb9 HX8.out.lt).grown g10 (fun e => by injection e with e; have := H6.out.mp.lt; omega)); obtain ⟨w11, p11, m11, g11, s11⟩ := run_put str_keying Tryz.underlying181 H10.out.mp ⟨#[97, 116]⟩ (.func (.func 154) #[] #[.pointer (some ⟨w.heap.size, 0, none⟩)]); have H11 := Lib.hid (H10.out.put m11 g11); have HX11 := Lib.hid (HX10.out.grown g11 (fun e => by injection e with e; have := H8.out.mp.lt; omega)); have HY11 := Lib.hid (HY10.out.grown g11 (fun e => by injection e with e; have := H6.out.mp.lt; omega)); clear hb9 hx9 m10 g10 s10 m11 g11 s11))
  go_ret
  exact ⟨_, w6.heap.size, w8.heap.size, rfl, H11.out, ⟨HY11.out, H6.out.below.size⟩, HX11.out, H8.out.below.size⟩
end Go.Proofs.YtcpakaiblelmlaaGreatDoor
namespace Go.Proofs.YtcpakaiblelmlaaGreatDoor
open Go Go.RowKit
set_option maxRecDepth 100000 in
set_option maxHeartbeats 8000000 in
theorem notA_any (w0 : World) (g : Nat) (E : Int) (t : Fnd) (r : List Fnd) (w : World) (hb0 : Below w0.heap.size w0 w) (hg : w0.heap.size ≤ g) (h : Par w g E (t :: r)) (hm : r.length + 2 ≤ 1000000) (one : List Fnd → Got Ex) (hk : t.kind = 4) (ht : t.text = wOpen)
    (hone : ∀ (l' : List Fnd) (W : World), l'.length < r.length + 1 → Below w0.heap.size w0 W → Par W g E l' → Calls Tryz.prog 137 #[.pointer (some ⟨g, 0, none⟩)] W (Rd (ExR W.heap.size) W g E (one l')))
    (hsh : ∀ l' c r, one l' = .ok c r → r.length ≤ l'.length) :
    Calls Tryz.prog 137 #[.pointer (some ⟨g, 0, none⟩)] w (Rd (ExR w.heap.size) w g E (inP E one (t :: r))) := by
  have hlt := h.lt
  have HS0 := Lib.hid (StP.start (T := 27) (cs := zEx) h)
  have HS1 := Lib.hid (HS0.out.alloc (.cells #[.int .i64 4, .string wOpen, .int .i64 t.pos] 133))
  obtain ⟨b, o, c, h1, h2, h3, hsz, ct1, ct2, ct3, hs⟩ := HS0.out.par.cons
  obtain ⟨c1, f1⟩ := h1.facts
  have hne : (((r.length + 1 : Nat) : Int) == 0) = false := by simp; omega
  rw [hk] at ct1
  rw [ht] at ct2
  have hw : (wOpen.toList == [40]) = true := by decide +kernel
  clear hs h3 hsz
  go_enter Tryz.func137, Tryz.ntmps137
  go_wp2_with (go_at_call 141; refine (inside_any w0 g E one (t :: r) _ (HS1.out.aw.below hb0 hg hg) hg HS1.out.par (by rw [List.length_cons]; omega) (fun l' W a1 a2 a3 => hone l' W (by rw [List.length_cons] at a1; exact a1) a2 a3) hsh).mono ?_; rintro e w3 hd; rcases hd.cases with ⟨er, at', hq, rfl, ha⟩ | ⟨x, r3, v, hq, rfl, ⟨kv, rfl, hv⟩, ha, hpr⟩; (exact ⟨rfl, Rd.bad hq (HS1.out.aw.trans ha)⟩); obtain ⟨A', c', rfl, _⟩ := hv.slice; have HQ := Lib.hid hq; have HV := Lib.hid (hv.mono (T := fun b => w.heap.size + 1 ≤ b) fun b hb _ => Nat.le_trans HS1.out.lt hb); have HS3 := Lib.hid (HS1.out.next hlt ha hpr); obtain ⟨dr, fr⟩ := HS3.out.res.facts; clear hq hv ha hpr hd)
  have HSix := Lib.hid (six_has (HS3.out).res (.int .i64 x.op) (.string x.name) (.string x.value) (.int .i64 x.n) (.int .i64 x.extra) (.slice A' x.kids.length c'))
  have HFn := Lib.hid (show Rd (ExR w.heap.size) w g E (inP E one (t :: r)) (.returned (.agg #[.int .i64 x.op, .string x.name, .string x.value, .int .i64 x.n, .int .i64 x.extra, .slice A' x.kids.length c'])) (six (w3) w.heap.size (.int .i64 x.op) (.string x.name) (.string x.value) (.int .i64 x.n) (.int .i64 x.extra) (.slice A' x.kids.length c')) from Rd.ok (x := x) (r := r3) (HQ.out) (six_aw (HS3.out).aw (.inr (.inr (Nat.le_refl _))) _ _ _ _ _ _) ⟨_, rfl, six_lay (S := fun b => w.heap.size + 1 ≤ b) HV.out (fun b hb => ⟨by omega, by omega⟩) _ _ _ _ _ _⟩ (six_par (HS3.out).par hlt _ _ _ _ _ _))
  show bodyPost _ _ _ _ _ (six (w3) w.heap.size (.int .i64 x.op) (.string x.name) (.string x.value) (.int .i64 x.n) (.int .i64 x.extra) (.slice A' x.kids.length c'))
  generalize six (w3) w.heap.size (.int .i64 x.op) (.string x.name) (.string x.value) (.int .i64 x.n) (.int .i64 x.extra) (.slice A' x.kids.length c') = W6 at *
  obtain ⟨d6, f6⟩ := HSix.out.facts
  refine bodyPost_ret (v := .agg #[.int .i64 x.op, .string x.name, .string x.value, .int .i64 x.n, .int .i64 x.extra, .slice A' x.kids.length c']) (by simp [results, Tryz.results137, go_sem, d6]) rfl ?_
  exact HFn.out
end Go.Proofs.YtcpakaiblelmlaaGreatDoor
namespace Go.Proofs.YtcpakaiblelmlaaGreatDoor
open Go Go.RowKit
set_option maxRecDepth 100000 in
set_option maxHeartbeats 8000000 in
theorem valck_any (s : ByteArray) (w : World) : Calls Tryz.prog 143 #[.string s] w fun e w' => e = .returned (.bool (valB s)) ∧ Below w.heap.size w w' := by
  have hsz := isEmpty_size s
  by_cases h0 : s.size = 0
  · have hv : valB s = false := decide_eq_false fun h => h.1 h0
    rw [hv]
    have hl : s.toList = [] := by rw [decide_eq_true h0] at hsz; exact List.isEmpty_iff.1 hsz
    clear hsz
    go_enter Tryz.func143, Tryz.ntmps143
    go_wp2_with fail
    go_ret
    exact ⟨rfl, Below.refl _ _⟩
  · have hl : (s.toList != []) = true := by
      rw [decide_eq_false h0] at hsz
      cases hs : s.toList with
      | nil => rw [hs] at hsz; cases hsz
      | cons a b => rfl
    have hl2 : ¬ s.toList = [] := by simpa using hl
    have hl3 : s.toList.isEmpty = false := by rw [hsz]; exact decide_eq_false h0
    clear hsz
    by_cases h1 : s.size ≤ 200
    · have hv : valB s = true := decide_eq_true ⟨h0, h1⟩
      have hi : (s.size : Int) ≤ 200 := by omega
      rw [hv]
      go_enter Tryz.func143, Tryz.ntmps143
      go_wp2_with fail
      go_ret
      first
        | exact ⟨rfl, Below.refl _ _⟩
        | exact ⟨by show Ending.returned (.bool (!s.toList.isEmpty)) = _; rw [hl3]; rfl, Below.refl _ _⟩
        | exact ⟨by show Ending.returned (.bool false) = _; rfl, Below.refl _ _⟩
    · have hv : valB s = false := decide_eq_false fun h => h1 h.2
      have hi : ¬ (s.size : Int) ≤ 200 := by omega
      rw [hv]
      go_enter Tryz.func143, Tryz.ntmps143
      go_wp2_with fail
      go_ret
      first
        | exact ⟨rfl, Below.refl _ _⟩
        | exact ⟨by show Ending.returned (.bool (!s.toList.isEmpty)) = _; rw [hl3]; rfl, Below.refl _ _⟩
        | exact ⟨by show Ending.returned (.bool false) = _; rfl, Below.refl _ _⟩
set_option maxRecDepth 100000 in
set_option maxHeartbeats 8000000 in
theorem notC1_any (w0 : World) (g : Nat) (E : Int) (t : Fnd) (r : List Fnd) (w : World) (_hb0 : Below w0.heap.size w0 w) (_hg : w0.heap.size ≤ g) (h : Par w g E (t :: r)) (hm : r.length + 2 ≤ 1000000) (hk : t.kind = 1) (hr : resB t.text = false) :
    Calls Tryz.prog 137 #[.pointer (some ⟨g, 0, none⟩)] w (Rd (ExR w.heap.size) w g E (isP E (t :: r))) := by
  have hlt := h.lt
  have HS0 := Lib.hid (StP.start (T := 27) (cs := zEx) h)
  have HS1 := Lib.hid (HS0.out.alloc (.cells #[.int .i64 1, .string t.text, .int .i64 t.pos] 133))
  obtain ⟨b, o, c, h1, h2, h3, hsz, ct1, ct2, ct3, hs⟩ := HS0.out.par.cons
  obtain ⟨c1, f1⟩ := h1.facts
  have hne : (((r.length + 1 : Nat) : Int) == 0) = false := by simp; omega
  rw [hk] at ct1
  have HR := Lib.hid hr
  clear hs h3 hsz
  go_enter Tryz.func137, Tryz.ntmps137
  go_wp2_with (first
    | (go_at_call 58; refine (reserved_any _ _).mono ?_; rintro e w2 ⟨rfl, hb2⟩; rw [HR.out]; have HSR := Lib.hid (HS1.out.next hlt (.of_below hb2) (HS1.out.par.below hb2)); clear hb2)
    | (go_at_call 98; refine (pname_any g E (t :: r) _ HSR.out.par).mono ?_; rintro e w3 hd; rcases hd.cases with ⟨er, at', hq, rfl, ha⟩ | ⟨nm, r1, v, hq, rfl, rfl, ha, hpr⟩; (exact ⟨rfl, Rd.bad (by unfold isP; rw [hq]; rfl) (HSR.out.aw.trans ha)⟩); have HQ1 := Lib.hid hq; have HS3 := Lib.hid (HSR.out.next hlt ha hpr); have HX3 := Lib.hid ((Has.new w3 27 #[.int .i64 7, .string nm, .string ⟨#[]⟩, .int .i64 0, .int .i64 0, .slice none 0 0]).alloc (.cells #[.string ⟨#[61]⟩] 9)); have HS4 := Lib.hid ((HS3.out.alloc (.cells #[.int .i64 7, .string nm, .string ⟨#[]⟩, .int .i64 0, .int .i64 0, .slice none 0 0] 27)).alloc (.cells #[.string ⟨#[61]⟩] 9)); have HC4 := Lib.hid (alloc_cell (w3.alloc (.cells #[.int .i64 7, .string nm, .string ⟨#[]⟩, .int .i64 0, .int .i64 0, .slice none 0 0] 27)) wEq 9 (w3.heap.size + 1) (World.size_alloc _ _).symm); clear hq ha hpr hd)
    | (go_at_call 97; refine (want_any g E wEq r1 _ _ _ HS4.out.par HC4.out).mono ?_; rintro e w4 (⟨hq, rfl, rfl⟩ | ⟨hq, rfl, ha, hpr⟩); (exact ⟨rfl, Rd.bad (by unfold isP; rw [HQ1.out]; show ((wantP E wEq r1).bind _) = _; rw [hq]; rfl) HS4.out.aw⟩); have HQ2 := Lib.hid hq; have HX4 := Lib.hid (HX3.out.aw ha (by have := HS3.out.lt; omega) (by have := HS3.out.lt; omega)); have HS5 := Lib.hid (HS4.out.next hlt ha hpr); clear hq ha hpr)
    | (go_at_call 123; refine (next_pure g E 3 143 valB (enters_of Tryz.func143 (by kernel_rfl) rfl) r1.tail _ HS5.out.par fun s _ => valck_any s _).mono ?_; rintro e w5 hd; rcases hd.cases with ⟨er, at', hq, rfl, ha⟩ | ⟨vl, r3, v, hq, rfl, rfl, ha, hpr⟩; (exact ⟨rfl, Rd.bad (by unfold isP; rw [HQ1.out]; show ((wantP E wEq r1).bind _) = _; rw [HQ2.out]; show ((nextP E 3 valB r1.tail).bind _) = _; rw [hq]; rfl) (HS5.out.aw.trans ha)⟩); have HQ3 := Lib.hid hq; have HX5 := Lib.hid (HX4.out.aw ha (by have := HS3.out.lt; omega) (by have := HS3.out.lt; omega)); have HSZ := Lib.hid (HS5.out.next hlt ha hpr); obtain ⟨dx, fx⟩ := HX5.out.facts; obtain ⟨dr, fr⟩ := HSZ.out.res.facts; have hn1 : ¬ w3.heap.size = w.heap.size := (by have := HS3.out.lt; omega); have hn2 : ¬ w.heap.size = w3.heap.size := (by have := HS3.out.lt; omega); clear hq ha hpr hd))
  have HS6 := Lib.hid (show StP w g E 27 zEx r3 (w5.setCell ⟨w3.heap.size, 2, none⟩ (.string vl)) from ⟨HSZ.out.aw.set _ 2 (.inr (.inr (by have := HS3.out.lt; omega))) _, HSZ.out.par.on fun b hb => heap_setCell_other w5 ⟨w3.heap.size, 2, none⟩ b _ (by have := HS3.out.lt; show b ≠ w3.heap.size; omega), HSZ.out.res.far ⟨w3.heap.size, 2, none⟩ (by have := HS3.out.lt; show w.heap.size ≠ w3.heap.size; omega) _⟩)
  have HSix := Lib.hid (six_has (HS6.out).res (.int .i64 7) (.string nm) (.string vl) (.int .i64 0) (.int .i64 0) (.slice none 0 0))
  have HFn := Lib.hid (show Rd (ExR w.heap.size) w g E (isP E (t :: r)) (.returned (.agg #[.int .i64 7, .string nm, .string vl, .int .i64 0, .int .i64 0, .slice none 0 0])) (six (w5.setCell ⟨w3.heap.size, 2, none⟩ (.string vl)) w.heap.size (.int .i64 7) (.string nm) (.string vl) (.int .i64 0) (.int .i64 0) (.slice none 0 0)) from Rd.ok (x := .mk 7 nm vl 0 0 []) (r := r3) (by unfold isP; rw [HQ1.out]; show ((wantP E wEq r1).bind _) = _; rw [HQ2.out]; show ((nextP E 3 valB r1.tail).bind _) = _; rw [HQ3.out]; rfl) (six_aw (HS6.out).aw (.inr (.inr (Nat.le_refl _))) _ _ _ _ _ _) ⟨_, rfl, LayS.nil _ _⟩ (six_par (HS6.out).par hlt _ _ _ _ _ _))
  show bodyPost _ _ _ _ _ (six (w5.setCell ⟨w3.heap.size, 2, none⟩ (.string vl)) w.heap.size (.int .i64 7) (.string nm) (.string vl) (.int .i64 0) (.int .i64 0) (.slice none 0 0))
  generalize six (w5.setCell ⟨w3.heap.size, 2, none⟩ (.string vl)) w.heap.size (.int .i64 7) (.string nm) (.string vl) (.int .i64 0) (.int .i64 0) (.slice none 0 0) = W6 at *
  obtain ⟨d6, f6⟩ := HSix.out.facts
  refine bodyPost_ret (v := .agg #[.int .i64 7, .string nm, .string vl, .int .i64 0, .int .i64 0, .slice none 0 0]) (by simp [results, Tryz.results137, go_sem, d6]) rfl ?_
  exact HFn.out
set_option maxRecDepth 100000 in
set_option maxHeartbeats 8000000 in
theorem notC2_any (w0 : World) (g : Nat) (E : Int) (t : Fnd) (r : List Fnd) (w : World) (_hb0 : Below w0.heap.size w0 w) (_hg : w0.heap.size ≤ g) (h : Par w g E (t :: r)) (hm : r.length + 2 ≤ 1000000) (hk : t.kind = 4) (hr : ¬ t.text = wOpen) :
    Calls Tryz.prog 137 #[.pointer (some ⟨g, 0, none⟩)] w (Rd (ExR w.heap.size) w g E (isP E (t :: r))) := by
  have hlt := h.lt
  have HS0 := Lib.hid (StP.start (T := 27) (cs := zEx) h)
  have HS1 := Lib.hid (HS0.out.alloc (.cells #[.int .i64 4, .string t.text, .int .i64 t.pos] 133))
  obtain ⟨b, o, c, h1, h2, h3, hsz, ct1, ct2, ct3, hs⟩ := HS0.out.par.cons
  obtain ⟨c1, f1⟩ := h1.facts
  have hne : (((r.length + 1 : Nat) : Int) == 0) = false := by simp; omega
  rw [hk] at ct1
  have HSR := HS1
  have hw : (t.text.toList == [40]) = false := by
    have h5 := text_ne hr
    rw [show wOpen.toList = [40] by decide +kernel] at h5
    simpa using h5
  clear hs h3 hsz
  go_enter Tryz.func137, Tryz.ntmps137
  go_wp2_with (first
    | (go_at_call 98; refine (pname_any g E (t :: r) _ HSR.out.par).mono ?_; rintro e w3 hd; rcases hd.cases with ⟨er, at', hq, rfl, ha⟩ | ⟨nm, r1, v, hq, rfl, rfl, ha, hpr⟩; (exact ⟨rfl, Rd.bad (by unfold isP; rw [hq]; rfl) (HSR.out.aw.trans ha)⟩); have HQ1 := Lib.hid hq; have HS3 := Lib.hid (HSR.out.next hlt ha hpr); have HX3 := Lib.hid ((Has.new w3 27 #[.int .i64 7, .string nm, .string ⟨#[]⟩, .int .i64 0, .int .i64 0, .slice none 0 0]).alloc (.cells #[.string ⟨#[61]⟩] 9)); have HS4 := Lib.hid ((HS3.out.alloc (.cells #[.int .i64 7, .string nm, .string ⟨#[]⟩, .int .i64 0, .int .i64 0, .slice none 0 0] 27)).alloc (.cells #[.string ⟨#[61]⟩] 9)); have HC4 := Lib.hid (alloc_cell (w3.alloc (.cells #[.int .i64 7, .string nm, .string ⟨#[]⟩, .int .i64 0, .int .i64 0, .slice none 0 0] 27)) wEq 9 (w3.heap.size + 1) (World.size_alloc _ _).symm); clear hq ha hpr hd)
    | (go_at_call 97; refine (want_any g E wEq r1 _ _ _ HS4.out.par HC4.out).mono ?_; rintro e w4 (⟨hq, rfl, rfl⟩ | ⟨hq, rfl, ha, hpr⟩); (exact ⟨rfl, Rd.bad (by unfold isP; rw [HQ1.out]; show ((wantP E wEq r1).bind _) = _; rw [hq]; rfl) HS4.out.aw⟩); have HQ2 := Lib.hid hq; have HX4 := Lib.hid (HX3.out.aw ha (by have := HS3.out.lt; omega) (by have := HS3.out.lt; omega)); have HS5 := Lib.hid (HS4.out.next hlt ha hpr); clear hq ha hpr)
    | (go_at_call 123; refine (next_pure g E 3 143 valB (enters_of Tryz.func143 (by kernel_rfl) rfl) r1.tail _ HS5.out.par fun s _ => valck_any s _).mono ?_; rintro e w5 hd; rcases hd.cases with ⟨er, at', hq, rfl, ha⟩ | ⟨vl, r3, v, hq, rfl, rfl, ha, hpr⟩; (exact ⟨rfl, Rd.bad (by unfold isP; rw [HQ1.out]; show ((wantP E wEq r1).bind _) = _; rw [HQ2.out]; show ((nextP E 3 valB r1.tail).bind _) = _; rw [hq]; rfl) (HS5.out.aw.trans ha)⟩); have HQ3 := Lib.hid hq; have HX5 := Lib.hid (HX4.out.aw ha (by have := HS3.out.lt; omega) (by have := HS3.out.lt; omega)); have HSZ := Lib.hid (HS5.out.next hlt ha hpr); obtain ⟨dx, fx⟩ := HX5.out.facts; obtain ⟨dr, fr⟩ := HSZ.out.res.facts; have hn1 : ¬ w3.heap.size = w.heap.size := (by have := HS3.out.lt; omega); have hn2 : ¬ w.heap.size = w3.heap.size := (by have := HS3.out.lt; omega); clear hq ha hpr hd))
  have HS6 := Lib.hid (show StP w g E 27 zEx r3 (w5.setCell ⟨w3.heap.size, 2, none⟩ (.string vl)) from ⟨HSZ.out.aw.set _ 2 (.inr (.inr (by have := HS3.out.lt; omega))) _, HSZ.out.par.on fun b hb => heap_setCell_other w5 ⟨w3.heap.size, 2, none⟩ b _ (by have := HS3.out.lt; show b ≠ w3.heap.size; omega), HSZ.out.res.far ⟨w3.heap.size, 2, none⟩ (by have := HS3.out.lt; show w.heap.size ≠ w3.heap.size; omega) _⟩)
  have HSix := Lib.hid (six_has (HS6.out).res (.int .i64 7) (.string nm) (.string vl) (.int .i64 0) (.int .i64 0) (.slice none 0 0))
  have HFn := Lib.hid (show Rd (ExR w.heap.size) w g E (isP E (t :: r)) (.returned (.agg #[.int .i64 7, .string nm, .string vl, .int .i64 0, .int .i64 0, .slice none 0 0])) (six (w5.setCell ⟨w3.heap.size, 2, none⟩ (.string vl)) w.heap.size (.int .i64 7) (.string nm) (.string vl) (.int .i64 0) (.int .i64 0) (.slice none 0 0)) from Rd.ok (x := .mk 7 nm vl 0 0 []) (r := r3) (by unfold isP; rw [HQ1.out]; show ((wantP E wEq r1).bind _) = _; rw [HQ2.out]; show ((nextP E 3 valB r1.tail).bind _) = _; rw [HQ3.out]; rfl) (six_aw (HS6.out).aw (.inr (.inr (Nat.le_refl _))) _ _ _ _ _ _) ⟨_, rfl, LayS.nil _ _⟩ (six_par (HS6.out).par hlt _ _ _ _ _ _))
  show bodyPost _ _ _ _ _ (six (w5.setCell ⟨w3.heap.size, 2, none⟩ (.string vl)) w.heap.size (.int .i64 7) (.string nm) (.string vl) (.int .i64 0) (.int .i64 0) (.slice none 0 0))
  generalize six (w5.setCell ⟨w3.heap.size, 2, none⟩ (.string vl)) w.heap.size (.int .i64 7) (.string nm) (.string vl) (.int .i64 0) (.int .i64 0) (.slice none 0 0) = W6 at *
  obtain ⟨d6, f6⟩ := HSix.out.facts
  refine bodyPost_ret (v := .agg #[.int .i64 7, .string nm, .string vl, .int .i64 0, .int .i64 0, .slice none 0 0]) (by simp [results, Tryz.results137, go_sem, d6]) rfl ?_
  exact HFn.out
set_option maxRecDepth 100000 in
set_option maxHeartbeats 8000000 in
theorem notC3_any (w0 : World) (g : Nat) (E : Int) (t : Fnd) (r : List Fnd) (w : World) (_hb0 : Below w0.heap.size w0 w) (_hg : w0.heap.size ≤ g) (h : Par w g E (t :: r)) (hm : r.length + 2 ≤ 1000000) (hk : ¬ t.kind = 4) (hk1 : ¬ t.kind = 1) :
    Calls Tryz.prog 137 #[.pointer (some ⟨g, 0, none⟩)] w (Rd (ExR w.heap.size) w g E (isP E (t :: r))) := by
  have hlt := h.lt
  have HS0 := Lib.hid (StP.start (T := 27) (cs := zEx) h)
  have HS1 := Lib.hid (HS0.out.alloc (.cells #[.int .i64 t.kind, .string t.text, .int .i64 t.pos] 133))
  obtain ⟨b, o, c, h1, h2, h3, hsz, ct1, ct2, ct3, hs⟩ := HS0.out.par.cons
  obtain ⟨c1, f1⟩ := h1.facts
  have hne : (((r.length + 1 : Nat) : Int) == 0) = false := by simp; omega
  have HSR := HS1
  have e4 : (t.kind == 4) = false := by simpa using hk
  have e1 : (t.kind == 1) = false := by simpa using hk1
  clear hs h3 hsz
  go_enter Tryz.func137, Tryz.ntmps137
  go_wp2_with (first
    | (go_at_call 98; refine (pname_any g E (t :: r) _ HSR.out.par).mono ?_; rintro e w3 hd; rcases hd.cases with ⟨er, at', hq, rfl, ha⟩ | ⟨nm, r1, v, hq, rfl, rfl, ha, hpr⟩; (exact ⟨rfl, Rd.bad (by unfold isP; rw [hq]; rfl) (HSR.out.aw.trans ha)⟩); have HQ1 := Lib.hid hq; have HS3 := Lib.hid (HSR.out.next hlt ha hpr); have HX3 := Lib.hid ((Has.new w3 27 #[.int .i64 7, .string nm, .string ⟨#[]⟩, .int .i64 0, .int .i64 0, .slice none 0 0]).alloc (.cells #[.string ⟨#[61]⟩] 9)); have HS4 := Lib.hid ((HS3.out.alloc (.cells #[.int .i64 7, .string nm, .string ⟨#[]⟩, .int .i64 0, .int .i64 0, .slice none 0 0] 27)).alloc (.cells #[.string ⟨#[61]⟩] 9)); have HC4 := Lib.hid (alloc_cell (w3.alloc (.cells #[.int .i64 7, .string nm, .string ⟨#[]⟩, .int .i64 0, .int .i64 0, .slice none 0 0] 27)) wEq 9 (w3.heap.size + 1) (World.size_alloc _ _).symm); clear hq ha hpr hd)
    | (go_at_call 97; refine (want_any g E wEq r1 _ _ _ HS4.out.par HC4.out).mono ?_; rintro e w4 (⟨hq, rfl, rfl⟩ | ⟨hq, rfl, ha, hpr⟩); (exact ⟨rfl, Rd.bad (by unfold isP; rw [HQ1.out]; show ((wantP E wEq r1).bind _) = _; rw [hq]; rfl) HS4.out.aw⟩); have HQ2 := Lib.hid hq; have HX4 := Lib.hid (HX3.out.aw ha (by have := HS3.out.lt; omega) (by have := HS3.out.lt; omega)); have HS5 := Lib.hid (HS4.out.next hlt ha hpr); clear hq ha hpr)
    | (go_at_call 123; refine (next_pure g E 3 143 valB (enters_of Tryz.func143 (by kernel_rfl) rfl) r1.tail _ HS5.out.par fun s _ => valck_any s _).mono ?_; rintro e w5 hd; rcases hd.cases with ⟨er, at', hq, rfl, ha⟩ | ⟨vl, r3, v, hq, rfl, rfl, ha, hpr⟩; (exact ⟨rfl, Rd.bad (by unfold isP; rw [HQ1.out]; show ((wantP E wEq r1).bind _) = _; rw [HQ2.out]; show ((nextP E 3 valB r1.tail).bind _) = _; rw [hq]; rfl) (HS5.out.aw.trans ha)⟩); have HQ3 := Lib.hid hq; have HX5 := Lib.hid (HX4.out.aw ha (by have := HS3.out.lt; omega) (by have := HS3.out.lt; omega)); have HSZ := Lib.hid (HS5.out.next hlt ha hpr); obtain ⟨dx, fx⟩ := HX5.out.facts; obtain ⟨dr, fr⟩ := HSZ.out.res.facts; have hn1 : ¬ w3.heap.size = w.heap.size := (by have := HS3.out.lt; omega); have hn2 : ¬ w.heap.size = w3.heap.size := (by have := HS3.out.lt; omega); clear hq ha hpr hd))
  have HS6 := Lib.hid (show StP w g E 27 zEx r3 (w5.setCell ⟨w3.heap.size, 2, none⟩ (.string vl)) from ⟨HSZ.out.aw.set _ 2 (.inr (.inr (by have := HS3.out.lt; omega))) _, HSZ.out.par.on fun b hb => heap_setCell_other w5 ⟨w3.heap.size, 2, none⟩ b _ (by have := HS3.out.lt; show b ≠ w3.heap.size; omega), HSZ.out.res.far ⟨w3.heap.size, 2, none⟩ (by have := HS3.out.lt; show w.heap.size ≠ w3.heap.size; omega) _⟩)
  have HSix := Lib.hid (six_has (HS6.out).res (.int .i64 7) (.string nm) (.string vl) (.int .i64 0) (.int .i64 0) (.slice none 0 0))
  have HFn := Lib.hid (show Rd (ExR w.heap.size) w g E (isP E (t :: r)) (.returned (.agg #[.int .i64 7, .string nm, .string vl, .int .i64 0, .int .i64 0, .slice none 0 0])) (six (w5.setCell ⟨w3.heap.size, 2, none⟩ (.string vl)) w.heap.size (.int .i64 7) (.string nm) (.string vl) (.int .i64 0) (.int .i64 0) (.slice none 0 0)) from Rd.ok (x := .mk 7 nm vl 0 0 []) (r := r3) (by unfold isP; rw [HQ1.out]; show ((wantP E wEq r1).bind _) = _; rw [HQ2.out]; show ((nextP E 3 valB r1.tail).bind _) = _; rw [HQ3.out]; rfl) (six_aw (HS6.out).aw (.inr (.inr (Nat.le_refl _))) _ _ _ _ _ _) ⟨_, rfl, LayS.nil _ _⟩ (six_par (HS6.out).par hlt _ _ _ _ _ _))
  show bodyPost _ _ _ _ _ (six (w5.setCell ⟨w3.heap.size, 2, none⟩ (.string vl)) w.heap.size (.int .i64 7) (.string nm) (.string vl) (.int .i64 0) (.int .i64 0) (.slice none 0 0))
  generalize six (w5.setCell ⟨w3.heap.size, 2, none⟩ (.string vl)) w.heap.size (.int .i64 7) (.string nm) (.string vl) (.int .i64 0) (.int .i64 0) (.slice none 0 0) = W6 at *
  obtain ⟨d6, f6⟩ := HSix.out.facts
  refine bodyPost_ret (v := .agg #[.int .i64 7, .string nm, .string vl, .int .i64 0, .int .i64 0, .slice none 0 0]) (by simp [results, Tryz.results137, go_sem, d6]) rfl ?_
  exact HFn.out
end Go.Proofs.YtcpakaiblelmlaaGreatDoor
namespace Go.Proofs.YtcpakaiblelmlaaGreatDoor
open Go Go.RowKit
theorem zero_funcV (w : World) : (zeroValue 138).run Tryz.prog w = .ok .nilFunc w := by kernel_rfl
set_option maxRecDepth 100000 in
set_option maxHeartbeats 8000000 in
theorem notB_any (w0 : World) (g : Nat) (E : Int) (t : Fnd) (r : List Fnd) (w : World) (hb0 : Below w0.heap.size w0 w) (hg : w0.heap.size ≤ g) (h : Par w g E (t :: r)) (hm : r.length + 2 ≤ 1000000) (one : List Fnd → Got Ex) (hk : t.kind = 1) (hr : resB t.text = true)
    (hword : ∀ bp b1 b2, bp ≠ g → b1 ≠ g → b2 ≠ g → ∃ F cap, mget (formsL bp b1 b2) t.text = some (.func (.func F) #[] cap) ∧ (∀ (args : Array Value) (w : World), (callFunc F args).run Tryz.prog w = .ok (.enter F args) w) ∧
      ∀ W, Below w0.heap.size w0 W → Has W bp 112 #[.pointer (some ⟨g, 0, none⟩)] → Has W b1 3 #[.int .i64 10] → Has W b2 3 #[.int .i64 11] → Par W g E r → Calls Tryz.prog F cap W (Rd (ExR W.heap.size) W g E (wordsP E one t r))) :
    Calls Tryz.prog 137 #[.pointer (some ⟨g, 0, none⟩)] w (Rd (ExR w.heap.size) w g E (wordsP E one t r)) := by
  have hlt := h.lt
  have HS0 := Lib.hid (StP.start (T := 27) (cs := zEx) h)
  have HS1 := Lib.hid (HS0.out.alloc (.cells #[.int .i64 1, .string t.text, .int .i64 t.pos] 133))
  obtain ⟨b, o, c, h1, h2, h3, hsz, ct1, ct2, ct3, hs⟩ := HS0.out.par.cons
  obtain ⟨c1, f1⟩ := h1.facts
  have hne : (((r.length + 1 : Nat) : Int) == 0) = false := by simp; omega
  rw [hk] at ct1
  have HR := Lib.hid hr
  have hmx : Tryz.prog.follows .mixedOrders = true := by kernel_rfl
  clear hs h3 hsz
  have HT1 := Lib.hid (show Has ((w.alloc (.cells zEx 27)).alloc (.cells #[.int .i64 1, .string t.text, .int .i64 t.pos] 133)) (w.heap.size + 1) 133 #[.int .i64 1, .string t.text, .int .i64 t.pos] from by rw [show w.heap.size + 1 = (w.alloc (.cells zEx 27)).heap.size from (World.size_alloc _ _).symm]; exact Has.new _ _ _)
  go_enter Tryz.func137, Tryz.ntmps137
  go_wp2_with (go_at_call 58; refine (reserved_any _ _).mono ?_; rintro e w2 ⟨rfl, hb2⟩; rw [HR.out]; have HSR := Lib.hid (HS1.out.next hlt (.of_below hb2) (HS1.out.par.below hb2)); have HT := Lib.hid (HT1.out.below hb2 HT1.out.lt); obtain ⟨dt, ft⟩ := HT.out.facts; clear hb2)
  refine wp_region_held_drew (S := fun W => W.cell? ⟨w.heap.size + 1, 1, none⟩ = some (.string t.text)) (by kernel_rfl) (HT.out.cell 1) (fun hHeld => ?_)
  refine plI [(0, false), (2, false), (3, false)] ?_
  repeat ((first | ((with_reducible show Plan ((_, true) :: _) _); refine plF ?_) | (refine plR (v := ?_) ?_ ?_; rotate_left; focus (intro W hSW; (try dsimp only at hSW); go_simp; all_goals (with_reducible rfl)))); try simp only [Act.put, List.setIfInBounds_toArray, List.set_cons_zero, List.set_cons_succ])
  refine plE ?_
  refine wpAnyH_ready (rs := [1]) (by kernel_rfl) (by simp) ?_
  refine AllReadyH.cons (o := ⟨_, _, _, _, _, _⟩) rfl (fun K hK => ?_) AllReadyH.nil
  go_simp
  go_at_call 142; refine (forms_any g _).mono ?_; rintro e w3 ⟨G, b1, b2, rfl, hmp, ⟨hx1, hb1⟩, hx2, hb2⟩
  have hbl : Below w2.heap.size w2 w3 := (Below.refl w2.heap.size w2).drew.trans (show Below w2.heap.size w2.drew w3 from hmp.below)
  have HS3 := Lib.hid (HSR.out.drew.next hlt (.of_below hmp.below) (HSR.out.drew.par.below hmp.below))
  have HT3 := Lib.hid (HT.out.below hbl HT.out.lt)
  have hz2 : g < w2.heap.size := by have := HSR.out.par.lt; exact this
  have hb1' : w2.heap.size ≤ b1 := hb1
  have hb2' : w2.heap.size ≤ b2 := hb2
  obtain ⟨F, cap, hget, hF, hcall⟩ := hword w2.drew.heap.size b1 b2 (by show w2.heap.size ≠ g; omega) (by omega) (by omega)
  have HCL := Lib.hid hcall; have HBx := Lib.hid (⟨hmp.box, hx1, hx2⟩ : _ ∧ _ ∧ _); clear hcall hx1 hx2
  have hL := run_look str_keying Tryz.underlying181 hmp.mp t.text (zero_funcV w3) true
  rw [hget] at hL
  have hL2 := Lib.hid hL
  clear hL hmp hb1 hb2 hbl
  refine hK.out _ _ (HT3.out.cell 1) (fun hHeld => ?_)
  clear hK K
  try simp only [Act.put, List.setIfInBounds_toArray, List.set_cons_zero, List.set_cons_succ]
  refine wpAnyH_ready (rs := [4]) (by kernel_rfl) (by simp) ?_
  refine AllReadyH.cons (o := ⟨_, _, _, _, _, _⟩) rfl (fun K hK => ?_) AllReadyH.nil
  have hL := hL2.out
  simp only [Option.getD_some, Option.isSome_some] at hL
  go_simp
  clear hL
  refine hK.out _ _ (HT3.out.cell 1) (fun hHeld => ?_)
  clear hK K
  try simp only [Act.put, List.setIfInBounds_toArray, List.set_cons_zero, List.set_cons_succ]
  refine plI [(5, false), (6, false), (7, false), (8, false), (9, false)] ?_
  repeat ((first | ((with_reducible show Plan ((_, true) :: _) _); refine plF ?_) | (refine plR (v := ?_) ?_ ?_; rotate_left; focus (intro W hSW; (try dsimp only at hSW); go_simp; all_goals (with_reducible rfl)))); try simp only [Act.put, List.setIfInBounds_toArray, List.set_cons_zero, List.set_cons_succ])
  refine plE ?_
  refine wpAnyH_done (by kernel_rfl) ?_ _
  clear hHeld
  obtain ⟨b', o', cc, q1, q2, q3, _, _, _, _, qs⟩ := HS3.out.par.cons
  obtain ⟨c3, f3⟩ := q1.facts
  have HStep := Lib.hid (Par.step q1 q3 qs)
  have hr1 : cc = 1 → r = [] := fun e => List.eq_nil_of_length_eq_zero (by omega)
  clear qs
  have hpar : ∀ W8, Par W8 g E r → Aw g g w3 W8 → Hid (Calls Tryz.prog F cap W8 (Rd (ExR W8.heap.size) W8 g E (wordsP E one t r))) ∧ Hid (StP w g E 27 zEx r W8) := fun W8 a1 a2 => by
    have a3 := HS3.out.next hlt a2 a1
    have a4 := HBx.out.1.lt
    exact ⟨HCL.out W8 (a3.aw.below hb0 hg hg) (HBx.out.1.aw a2 (by show w2.heap.size ≠ g; omega) (by show w2.heap.size ≠ g; omega)) (HBx.out.2.1.aw a2 (by omega) (by omega)) (HBx.out.2.2.aw a2 (by omega) (by omega)) a1, a3⟩
  by_cases hc1 : cc = 1
  · obtain rfl := hr1 hc1
    have hst := HStep.out (some ⟨b', o', none⟩) 0 0 rfl (.inr ⟨rfl, by omega⟩)
    obtain ⟨HC8, HS8⟩ := hpar _ hst.1 hst.2
    clear hst hpar HStep
    subst hc1
    go_wp2_with ((with_reducible refine HC8.out.mono ?_); rintro e w9 hd; rcases hd.cases with ⟨er, at', hq, rfl, ha⟩ | ⟨x, r3, v, hq, rfl, ⟨kv, rfl, hv⟩, ha, hpr⟩; (exact ⟨rfl, Rd.bad hq (HS8.out.aw.trans ha)⟩); obtain ⟨A', c', rfl, _⟩ := hv.slice; have HQ := Lib.hid hq; have HV := Lib.hid (hv.mono (T := fun b => w.heap.size + 1 ≤ b) fun b hb _ => Nat.le_trans HS8.out.lt hb); have HS9 := Lib.hid (HS8.out.next hlt ha hpr); obtain ⟨dr, fr⟩ := HS9.out.res.facts; clear hq hv ha hpr hd)
    have HSix := Lib.hid (six_has (HS9.out).res (.int .i64 x.op) (.string x.name) (.string x.value) (.int .i64 x.n) (.int .i64 x.extra) (.slice A' x.kids.length c'))
    have HFn := Lib.hid (show Rd (ExR w.heap.size) w g E (wordsP E one t []) (.returned (.agg #[.int .i64 x.op, .string x.name, .string x.value, .int .i64 x.n, .int .i64 x.extra, .slice A' x.kids.length c'])) (six (w9) w.heap.size (.int .i64 x.op) (.string x.name) (.string x.value) (.int .i64 x.n) (.int .i64 x.extra) (.slice A' x.kids.length c')) from Rd.ok (x := x) (r := r3) (HQ.out) (six_aw (HS9.out).aw (.inr (.inr (Nat.le_refl _))) _ _ _ _ _ _) ⟨_, rfl, six_lay (S := fun b => w.heap.size + 1 ≤ b) HV.out (fun b hb => ⟨by omega, by omega⟩) _ _ _ _ _ _⟩ (six_par (HS9.out).par hlt _ _ _ _ _ _))
    show bodyPost _ _ _ _ _ (six (w9) w.heap.size (.int .i64 x.op) (.string x.name) (.string x.value) (.int .i64 x.n) (.int .i64 x.extra) (.slice A' x.kids.length c'))
    generalize six (w9) w.heap.size (.int .i64 x.op) (.string x.name) (.string x.value) (.int .i64 x.n) (.int .i64 x.extra) (.slice A' x.kids.length c') = W6 at *
    obtain ⟨d6, f6⟩ := HSix.out.facts
    refine bodyPost_ret (v := .agg #[.int .i64 x.op, .string x.name, .string x.value, .int .i64 x.n, .int .i64 x.extra, .slice A' x.kids.length c']) (by simp [results, Tryz.results137, go_sem, d6]) rfl ?_
    exact HFn.out
  · skip
    have hst := HStep.out (some ⟨b', o' + 3, none⟩) r.length (cc - 1) rfl (.inl ⟨rfl, rfl⟩)
    obtain ⟨HC8, HS8⟩ := hpar _ hst.1 hst.2
    clear hst hpar HStep
    go_wp2_with ((with_reducible refine HC8.out.mono ?_); rintro e w9 hd; rcases hd.cases with ⟨er, at', hq, rfl, ha⟩ | ⟨x, r3, v, hq, rfl, ⟨kv, rfl, hv⟩, ha, hpr⟩; (exact ⟨rfl, Rd.bad hq (HS8.out.aw.trans ha)⟩); obtain ⟨A', c', rfl, _⟩ := hv.slice; have HQ := Lib.hid hq; have HV := Lib.hid (hv.mono (T := fun b => w.heap.size + 1 ≤ b) fun b hb _ => Nat.le_trans HS8.out.lt hb); have HS9 := Lib.hid (HS8.out.next hlt ha hpr); obtain ⟨dr, fr⟩ := HS9.out.res.facts; clear hq hv ha hpr hd)
    have HSix := Lib.hid (six_has (HS9.out).res (.int .i64 x.op) (.string x.name) (.string x.value) (.int .i64 x.n) (.int .i64 x.extra) (.slice A' x.kids.length c'))
    have HFn := Lib.hid (show Rd (ExR w.heap.size) w g E (wordsP E one t r) (.returned (.agg #[.int .i64 x.op, .string x.name, .string x.value, .int .i64 x.n, .int .i64 x.extra, .slice A' x.kids.length c'])) (six (w9) w.heap.size (.int .i64 x.op) (.string x.name) (.string x.value) (.int .i64 x.n) (.int .i64 x.extra) (.slice A' x.kids.length c')) from Rd.ok (x := x) (r := r3) (HQ.out) (six_aw (HS9.out).aw (.inr (.inr (Nat.le_refl _))) _ _ _ _ _ _) ⟨_, rfl, six_lay (S := fun b => w.heap.size + 1 ≤ b) HV.out (fun b hb => ⟨by omega, by omega⟩) _ _ _ _ _ _⟩ (six_par (HS9.out).par hlt _ _ _ _ _ _))
    show bodyPost _ _ _ _ _ (six (w9) w.heap.size (.int .i64 x.op) (.string x.name) (.string x.value) (.int .i64 x.n) (.int .i64 x.extra) (.slice A' x.kids.length c'))
    generalize six (w9) w.heap.size (.int .i64 x.op) (.string x.name) (.string x.value) (.int .i64 x.n) (.int .i64 x.extra) (.slice A' x.kids.length c') = W6 at *
    obtain ⟨d6, f6⟩ := HSix.out.facts
    refine bodyPost_ret (v := .agg #[.int .i64 x.op, .string x.name, .string x.value, .int .i64 x.n, .int .i64 x.extra, .slice A' x.kids.length c']) (by simp [results, Tryz.results137, go_sem, d6]) rfl ?_
    exact HFn.out
set_option maxRecDepth 100000 in
set_option maxHeartbeats 8000000 in
theorem notN_any (w0 : World) (g : Nat) (E : Int) (t : Fnd) (r : List Fnd) (w : World) (_hb0 : Below w0.heap.size w0 w) (_hg : w0.heap.size ≤ g) (h : Par w g E (t :: r)) (hm : r.length + 2 ≤ 1000000) (hk : t.kind = 1) (hr : resB t.text = true)
    (hnone : ∀ bp b1 b2, mget (formsL bp b1 b2) t.text = none) :
    Calls Tryz.prog 137 #[.pointer (some ⟨g, 0, none⟩)] w (Rd (ExR w.heap.size) w g E (.bad 8 t.pos)) := by
  have hlt := h.lt
  have HS0 := Lib.hid (StP.start (T := 27) (cs := zEx) h)
  have HS1 := Lib.hid (HS0.out.alloc (.cells #[.int .i64 1, .string t.text, .int .i64 t.pos] 133))
  obtain ⟨b, o, c, h1, h2, h3, hsz, ct1, ct2, ct3, hs⟩ := HS0.out.par.cons
  obtain ⟨c1, f1⟩ := h1.facts
  have hne : (((r.length + 1 : Nat) : Int) == 0) = false := by simp; omega
  rw [hk] at ct1
  have HR := Lib.hid hr
  have hmx : Tryz.prog.follows .mixedOrders = true := by kernel_rfl
  clear hs h3 hsz
  have HT1 := Lib.hid (show Has ((w.alloc (.cells zEx 27)).alloc (.cells #[.int .i64 1, .string t.text, .int .i64 t.pos] 133)) (w.heap.size + 1) 133 #[.int .i64 1, .string t.text, .int .i64 t.pos] from by rw [show w.heap.size + 1 = (w.alloc (.cells zEx 27)).heap.size from (World.size_alloc _ _).symm]; exact Has.new _ _ _)
  go_enter Tryz.func137, Tryz.ntmps137
  go_wp2_with (go_at_call 58; refine (reserved_any _ _).mono ?_; rintro e w2 ⟨rfl, hb2⟩; rw [HR.out]; have HSR := Lib.hid (HS1.out.next hlt (.of_below hb2) (HS1.out.par.below hb2)); have HT := Lib.hid (HT1.out.below hb2 HT1.out.lt); obtain ⟨dt, ft⟩ := HT.out.facts; clear hb2)
  refine wp_region_held_drew (S := fun W => W.cell? ⟨w.heap.size + 1, 1, none⟩ = some (.string t.text)) (by kernel_rfl) (HT.out.cell 1) (fun hHeld => ?_)
  refine plI [(0, false), (2, false), (3, false)] ?_
  repeat ((first | ((with_reducible show Plan ((_, true) :: _) _); refine plF ?_) | (refine plR (v := ?_) ?_ ?_; rotate_left; focus (intro W hSW; (try dsimp only at hSW); go_simp; all_goals (with_reducible rfl)))); try simp only [Act.put, List.setIfInBounds_toArray, List.set_cons_zero, List.set_cons_succ])
  refine plE ?_
  refine wpAnyH_ready (rs := [1]) (by kernel_rfl) (by simp) ?_
  refine AllReadyH.cons (o := ⟨_, _, _, _, _, _⟩) rfl (fun K hK => ?_) AllReadyH.nil
  go_simp
  go_at_call 142; refine (forms_any g _).mono ?_; rintro e w3 ⟨G, b1, b2, rfl, hmp, ⟨hx1, hb1⟩, hx2, hb2⟩
  have hbl : Below w2.heap.size w2 w3 := (Below.refl w2.heap.size w2).drew.trans (show Below w2.heap.size w2.drew w3 from hmp.below)
  have HS3 := Lib.hid (HSR.out.drew.next hlt (.of_below hmp.below) (HSR.out.drew.par.below hmp.below))
  have HT3 := Lib.hid (HT.out.below hbl HT.out.lt)
  have hz2 : g < w2.heap.size := by have := HSR.out.par.lt; exact this
  have hb1' : w2.heap.size ≤ b1 := hb1
  have hb2' : w2.heap.size ≤ b2 := hb2
  have hget := hnone w2.drew.heap.size b1 b2
  have hL := run_look str_keying Tryz.underlying181 hmp.mp t.text (zero_funcV w3) true
  rw [hget] at hL
  have hL2 := Lib.hid hL
  clear hL hmp hb1 hb2 hbl
  refine hK.out _ _ (HT3.out.cell 1) (fun hHeld => ?_)
  clear hK K
  try simp only [Act.put, List.setIfInBounds_toArray, List.set_cons_zero, List.set_cons_succ]
  refine wpAnyH_ready (rs := [4]) (by kernel_rfl) (by simp) ?_
  refine AllReadyH.cons (o := ⟨_, _, _, _, _, _⟩) rfl (fun K hK => ?_) AllReadyH.nil
  have hL := hL2.out
  simp only [Option.getD_none, Option.isSome_none] at hL
  go_simp
  clear hL
  refine hK.out _ _ (HT3.out.cell 1) (fun hHeld => ?_)
  clear hK K
  try simp only [Act.put, List.setIfInBounds_toArray, List.set_cons_zero, List.set_cons_succ]
  refine plI [(5, false), (6, false), (7, false), (8, false), (9, false)] ?_
  repeat ((first | ((with_reducible show Plan ((_, true) :: _) _); refine plF ?_) | (refine plR (v := ?_) ?_ ?_; rotate_left; focus (intro W hSW; (try dsimp only at hSW); go_simp; all_goals (with_reducible rfl)))); try simp only [Act.put, List.setIfInBounds_toArray, List.set_cons_zero, List.set_cons_succ])
  refine plE ?_
  refine wpAnyH_done (by kernel_rfl) ?_ _
  clear hHeld
  go_wp2_with (go_at_call 100; refine (fail_any g E 8 (t :: r) _ HS3.out.par).mono ?_; rintro e w4 ⟨rfl, rfl⟩)
  exact ⟨rfl, Rd.bad rfl HS3.out.aw⟩
end Go.Proofs.YtcpakaiblelmlaaGreatDoor
namespace Go.Proofs.YtcpakaiblelmlaaGreatDoor
open Go Go.RowKit
theorem Got.bind_ok {α β : Type} {q : Got α} {f : α → List Fnd → Got β} {x : β} {r : List Fnd} (h : q.bind f = .ok x r) : ∃ y r1, q = .ok y r1 ∧ f y r1 = .ok x r := by
  cases q with
  | bad e a => cases h
  | ok y r1 => exact ⟨y, r1, rfl, h⟩
theorem nameP_len {E : Int} {l r : List Fnd} {s : ByteArray} (h : nameP E l = .ok s r) : r.length + 1 = l.length := nextP_len h
section
variable {E : Int} {one : List Fnd → Got Ex} (hsh : ∀ l' c r, one l' = .ok c r → r.length ≤ l'.length)
include hsh
theorem condP_len {l r : List Fnd} {c : Ex} (h : condP one l = .ok c r) : r.length ≤ l.length := serP_len (fun l' c r hq => serP_len hsh l' c r hq) l c r h
theorem inP_len {l r : List Fnd} {c : Ex} (h : inP E one l = .ok c r) : r.length ≤ l.length := by
  obtain ⟨_, r1, h1, h⟩ := Got.bind_ok h
  obtain ⟨x, r2, h2, h⟩ := Got.bind_ok h
  obtain ⟨_, r3, h3, h⟩ := Got.bind_ok h
  injection h with _ h
  subst h
  have := (wantP_len h1).1
  have := condP_len hsh h2
  have := (wantP_len h3).1
  omega
theorem withinP_len {op : Int} {l r : List Fnd} {c : Ex} (h : withinP E op one l = .ok c r) : r.length ≤ l.length := by
  obtain ⟨_, r1, h1, h⟩ := Got.bind_ok h
  obtain ⟨x, r2, h2, h⟩ := Got.bind_ok h
  injection h with _ h
  subst h
  have := nameP_len h1
  have := inP_len hsh h2
  omega
end
theorem limitP_len {E : Int} {l r : List Fnd} {c : Ex} (h : limitP E l = .ok c r) : r.length ≤ l.length := by
  obtain ⟨_, r1, h1, h⟩ := Got.bind_ok h
  obtain ⟨_, r2, h2, h⟩ := Got.bind_ok h
  have a1 := nameP_len h1
  have a2 := numP_len h2
  split at h
  · obtain ⟨_, r3, h3, h⟩ := Got.bind_ok h
    injection h with _ h
    subst h
    have a3 := numP_len h3
    have : r2.tail.length ≤ r2.length := by rw [List.length_tail]; omega
    omega
  · injection h with _ h
    subst h
    omega
theorem overP_len {E : Int} {l r : List Fnd} {c : Ex} (h : overP E l = .ok c r) : r.length ≤ l.length := by
  obtain ⟨_, r1, h1, h⟩ := Got.bind_ok h
  obtain ⟨_, r2, h2, h⟩ := Got.bind_ok h
  injection h with _ h
  subst h
  have a1 := nameP_len h1
  have a2 := numP_len h2
  omega
theorem hasP_len {E : Int} {l r : List Fnd} {c : Ex} (h : hasP E l = .ok c r) : r.length ≤ l.length := by
  obtain ⟨_, r1, h1, h⟩ := Got.bind_ok h
  injection h with _ h
  subst h
  have a1 := nameP_len h1
  omega
theorem slotP_len {E : Int} {l r : List Fnd} {c : Ex} (h : slotP E l = .ok c r) : r.length ≤ l.length := by
  obtain ⟨_, r1, h1, h⟩ := Got.bind_ok h
  obtain ⟨_, r2, h2, h⟩ := Got.bind_ok h
  obtain ⟨_, r3, h3, h⟩ := Got.bind_ok h
  injection h with _ h
  subst h
  have a1 := nameP_len h1
  have a2 := (wantP_len h2).1
  have a3 := nameP_len h3
  omega
theorem atP_len {E : Int} {l r : List Fnd} {c : Ex} (h : atP E l = .ok c r) : r.length ≤ l.length := by
  obtain ⟨_, r1, h1, h⟩ := Got.bind_ok h
  obtain ⟨_, r2, h2, h⟩ := Got.bind_ok h
  obtain ⟨_, r3, h3, h⟩ := Got.bind_ok h
  injection h with _ h
  subst h
  have a1 := (wantP_len h1).1
  have a2 := numP_len h2
  have a3 := nameP_len h3
  omega
theorem isP_len {E : Int} {l r : List Fnd} {c : Ex} (h : isP E l = .ok c r) : r.length ≤ l.length := by
  obtain ⟨_, r1, h1, h⟩ := Got.bind_ok h
  obtain ⟨_, r2, h2, h⟩ := Got.bind_ok h
  obtain ⟨_, r3, h3, h⟩ := Got.bind_ok h
  injection h with _ h
  subst h
  have a1 := nameP_len h1
  have a2 := (wantP_len h2).1
  have a3 := nextP_len h3
  omega
theorem wordsP_len {E : Int} {one : List Fnd → Got Ex} (hsh : ∀ l' c r, one l' = .ok c r → r.length ≤ l'.length) {t : Fnd} {l r : List Fnd} {c : Ex} (h : wordsP E one t l = .ok c r) : r.length ≤ l.length := by
  unfold wordsP at h
  split at h
  · injection h with _ h; subst h; exact Nat.le_refl _
  split at h
  · obtain ⟨_, r1, h1, h⟩ := Got.bind_ok h
    injection h with _ h
    subst h
    exact hsh _ _ _ h1
  split at h
  · exact limitP_len h
  split at h
  · exact overP_len h
  split at h
  · exact hasP_len h
  split at h
  · exact slotP_len h
  split at h
  · exact withinP_len hsh h
  split at h
  · exact withinP_len hsh h
  split at h
  · exact atP_len h
  · cases h
theorem notP1_len {E : Int} {one : List Fnd → Got Ex} (hsh : ∀ l' c r, one l' = .ok c r → r.length ≤ l'.length) {l r : List Fnd} {c : Ex} (h : notP1 E one l = .ok c r) : r.length ≤ l.length := by
  cases l with
  | nil => cases h
  | cons t l =>
    have h' : (if t.kind = 4 ∧ t.text = wOpen then inP E one (t :: l) else if t.kind = 1 ∧ resB t.text = true then wordsP E one t l else isP E (t :: l)) = .ok c r := h
    split at h'
    · exact inP_len hsh h'
    split at h'
    · have := wordsP_len hsh h'; rw [List.length_cons]; omega
    · exact isP_len h'
theorem notP_len (E : Int) : ∀ (k : Nat) (l : List Fnd) (c : Ex) (r : List Fnd), notP E k l = .ok c r → r.length ≤ l.length
  | 0, l, c, r, h => by cases h
  | k + 1, l, c, r, h => notP1_len (notP_len E k) h
theorem wordsP_wTrue (E : Int) (one : List Fnd → Got Ex) {t : Fnd} (r : List Fnd) (ht : t.text = wTrue) : wordsP E one t r = .ok (.mk 1 e0 e0 0 0 []) r := by
  unfold wordsP
  rw [ht, if_pos rfl]
theorem wordsP_wNot (E : Int) (one : List Fnd → Got Ex) {t : Fnd} (r : List Fnd) (ht : t.text = wNot) : wordsP E one t r = (one r).bind fun c r2 => .ok (.mk 2 e0 e0 0 0 [c]) r2 := by
  unfold wordsP
  rw [ht, if_neg (by decide +kernel), if_pos rfl]
theorem wordsP_wLimit (E : Int) (one : List Fnd → Got Ex) {t : Fnd} (r : List Fnd) (ht : t.text = wLimit) : wordsP E one t r = limitP E r := by
  unfold wordsP
  rw [ht, if_neg (by decide +kernel), if_neg (by decide +kernel), if_pos rfl]
theorem wordsP_wOver (E : Int) (one : List Fnd → Got Ex) {t : Fnd} (r : List Fnd) (ht : t.text = wOver) : wordsP E one t r = overP E r := by
  unfold wordsP
  rw [ht, if_neg (by decide +kernel), if_neg (by decide +kernel), if_neg (by decide +kernel), if_pos rfl]
theorem wordsP_wHas (E : Int) (one : List Fnd → Got Ex) {t : Fnd} (r : List Fnd) (ht : t.text = wHas) : wordsP E one t r = hasP E r := by
  unfold wordsP
  rw [ht, if_neg (by decide +kernel), if_neg (by decide +kernel), if_neg (by decide +kernel), if_neg (by decide +kernel), if_pos rfl]
theorem wordsP_wSlot (E : Int) (one : List Fnd → Got Ex) {t : Fnd} (r : List Fnd) (ht : t.text = wSlot) : wordsP E one t r = slotP E r := by
  unfold wordsP
  rw [ht, if_neg (by decide +kernel), if_neg (by decide +kernel), if_neg (by decide +kernel), if_neg (by decide +kernel), if_neg (by decide +kernel), if_pos rfl]
theorem wordsP_wAll (E : Int) (one : List Fnd → Got Ex) {t : Fnd} (r : List Fnd) (ht : t.text = wAll) : wordsP E one t r = withinP E 10 one r := by
  unfold wordsP
  rw [ht, if_neg (by decide +kernel), if_neg (by decide +kernel), if_neg (by decide +kernel), if_neg (by decide +kernel), if_neg (by decide +kernel), if_neg (by decide +kernel), if_pos rfl]
theorem wordsP_wAny (E : Int) (one : List Fnd → Got Ex) {t : Fnd} (r : List Fnd) (ht : t.text = wAny) : wordsP E one t r = withinP E 11 one r := by
  unfold wordsP
  rw [ht, if_neg (by decide +kernel), if_neg (by decide +kernel), if_neg (by decide +kernel), if_neg (by decide +kernel), if_neg (by decide +kernel), if_neg (by decide +kernel), if_neg (by decide +kernel), if_pos rfl]
theorem wordsP_wAt (E : Int) (one : List Fnd → Got Ex) {t : Fnd} (r : List Fnd) (ht : t.text = wAt) : wordsP E one t r = atP E r := by
  unfold wordsP
  rw [ht, if_neg (by decide +kernel), if_neg (by decide +kernel), if_neg (by decide +kernel), if_neg (by decide +kernel), if_neg (by decide +kernel), if_neg (by decide +kernel), if_neg (by decide +kernel), if_neg (by decide +kernel), if_pos rfl]
theorem wordsP_wAnd (E : Int) (one : List Fnd → Got Ex) {t : Fnd} (r : List Fnd) (ht : t.text = wAnd) : wordsP E one t r = .bad 8 t.pos := by
  unfold wordsP
  rw [ht, if_neg (by decide +kernel), if_neg (by decide +kernel), if_neg (by decide +kernel), if_neg (by decide +kernel), if_neg (by decide +kernel), if_neg (by decide +kernel), if_neg (by decide +kernel), if_neg (by decide +kernel), if_neg (by decide +kernel)]
theorem wordsP_wOr (E : Int) (one : List Fnd → Got Ex) {t : Fnd} (r : List Fnd) (ht : t.text = wOr) : wordsP E one t r = .bad 8 t.pos := by
  unfold wordsP
  rw [ht, if_neg (by decide +kernel), if_neg (by decide +kernel), if_neg (by decide +kernel), if_neg (by decide +kernel), if_neg (by decide +kernel), if_neg (by decide +kernel), if_neg (by decide +kernel), if_neg (by decide +kernel), if_neg (by decide +kernel)]
theorem mget_wTrue (bp b1 b2 : Nat) : mget (formsL bp b1 b2) wTrue = some (.func (.func 147) #[] #[]) := by kernel_rfl
theorem mget_wNot (bp b1 b2 : Nat) : mget (formsL bp b1 b2) wNot = some (.func (.func 148) #[] #[.pointer (some ⟨bp, 0, none⟩)]) := by kernel_rfl
theorem mget_wLimit (bp b1 b2 : Nat) : mget (formsL bp b1 b2) wLimit = some (.func (.func 149) #[] #[.pointer (some ⟨bp, 0, none⟩)]) := by kernel_rfl
theorem mget_wOver (bp b1 b2 : Nat) : mget (formsL bp b1 b2) wOver = some (.func (.func 151) #[] #[.pointer (some ⟨bp, 0, none⟩)]) := by kernel_rfl
theorem mget_wHas (bp b1 b2 : Nat) : mget (formsL bp b1 b2) wHas = some (.func (.func 152) #[] #[.pointer (some ⟨bp, 0, none⟩)]) := by kernel_rfl
theorem mget_wSlot (bp b1 b2 : Nat) : mget (formsL bp b1 b2) wSlot = some (.func (.func 153) #[] #[.pointer (some ⟨bp, 0, none⟩)]) := by kernel_rfl
theorem mget_wAll (bp b1 b2 : Nat) : mget (formsL bp b1 b2) wAll = some (.func (.func 146) #[] #[.pointer (some ⟨b1, 0, none⟩), .pointer (some ⟨bp, 0, none⟩)]) := by kernel_rfl
theorem mget_wAny (bp b1 b2 : Nat) : mget (formsL bp b1 b2) wAny = some (.func (.func 146) #[] #[.pointer (some ⟨b2, 0, none⟩), .pointer (some ⟨bp, 0, none⟩)]) := by kernel_rfl
theorem mget_wAt (bp b1 b2 : Nat) : mget (formsL bp b1 b2) wAt = some (.func (.func 154) #[] #[.pointer (some ⟨bp, 0, none⟩)]) := by kernel_rfl
theorem mget_wAnd (bp b1 b2 : Nat) : mget (formsL bp b1 b2) wAnd = none := by kernel_rfl
theorem mget_wOr (bp b1 b2 : Nat) : mget (formsL bp b1 b2) wOr = none := by kernel_rfl
theorem res_cases {s : ByteArray} (h : resB s = true) : s = wTrue ∨ s = wNot ∨ s = wAnd ∨ s = wOr ∨ s = wLimit ∨ s = wOver ∨ s = wHas ∨ s = wSlot ∨ s = wAll ∨ s = wAny ∨ s = wAt := by
  unfold resB at h
  rw [List.any_eq_true] at h
  obtain ⟨x, hx, he⟩ := h
  have he := of_decide_eq_true he
  subst he
  simp only [resL, List.mem_cons, List.not_mem_nil, or_false] at hx
  exact hx
set_option maxRecDepth 100000 in
set_option maxHeartbeats 4000000 in
theorem not_nil (g : Nat) (E : Int) (w : World) (h : Par w g E []) : Calls Tryz.prog 137 #[.pointer (some ⟨g, 0, none⟩)] w (Rd (ExR w.heap.size) w g E (.bad 9 E)) := by
  have HS0 := Lib.hid (StP.start (T := 27) (cs := zEx) h)
  obtain ⟨A, c, h1, h2⟩ := HS0.out.par.nil
  obtain ⟨c1, f1⟩ := h1.facts
  go_enter Tryz.func137, Tryz.ntmps137
  go_wp2_with (go_at_call 100; refine (fail_any g E 8 [] _ HS0.out.par).mono ?_; rintro e w1 ⟨rfl, rfl⟩)
  exact ⟨rfl, Rd.bad rfl HS0.out.aw⟩
theorem rd_cast {α : Type} {R : World → Value → α → Prop} {w : World} {g f : Nat} {E : Int} {args : Array Value} {q q' : Got α} (h : Calls Tryz.prog f args w (Rd R w g E q)) (e : q = q') : Calls Tryz.prog f args w (Rd R w g E q') := e ▸ h
set_option maxHeartbeats 4000000 in
theorem not_rec (w0 : World) (hv : Evs w0) (g : Nat) (E : Int) (hg : w0.heap.size ≤ g) : ∀ (k : Nat) (l : List Fnd) (w : World), l.length < k → l.length + 1 ≤ 1000000 → Below w0.heap.size w0 w → Par w g E l →
    Calls Tryz.prog 137 #[.pointer (some ⟨g, 0, none⟩)] w (Rd (ExR w.heap.size) w g E (notP E k l)) := by
  intro k
  induction k with
  | zero => intro l w hk; omega
  | succ k ih =>
    intro l w hk hm hb h
    rw [notP_succ]
    cases l with
    | nil => exact not_nil g E w h
    | cons t r =>
      rw [List.length_cons] at hk hm
      have hsh := notP_len E k
      have hone : ∀ (l' : List Fnd) (W : World), l'.length < r.length + 1 → Below w0.heap.size w0 W → Par W g E l' → Calls Tryz.prog 137 #[.pointer (some ⟨g, 0, none⟩)] W (Rd (ExR W.heap.size) W g E (notP E k l')) := fun l' W h1 h2 h3 => ih l' W (by omega) (by omega) h2 h3
      generalize notP E k = one at *
      show Calls _ _ _ _ (Rd _ _ _ _ (if t.kind = 4 ∧ t.text = wOpen then inP E one (t :: r) else if t.kind = 1 ∧ resB t.text = true then wordsP E one t r else isP E (t :: r)))
      by_cases h4 : t.kind = 4 ∧ t.text = wOpen
      · rw [if_pos h4]
        exact notA_any w0 g E t r w hb hg h (by omega) one h4.1 h4.2 hone hsh
      · rw [if_neg h4]
        by_cases h1 : t.kind = 1 ∧ resB t.text = true
        · rw [if_pos h1]
          obtain ⟨hk1, hr⟩ := h1
          rcases res_cases hr with ht | ht | ht | ht | ht | ht | ht | ht | ht | ht | ht
          · exact notB_any w0 g E t r w hb hg h (by omega) one hk1 hr fun bp b1 b2 hg1 hg2 hg3 => ⟨147, #[], by rw [ht]; exact mget_wTrue bp b1 b2, enters_of Tryz.func147 (by kernel_rfl) rfl, fun W hbW hbp hx1 hx2 hpar => rd_cast (true_any g E r W hpar) (wordsP_wTrue E one r ht).symm⟩
          · exact notB_any w0 g E t r w hb hg h (by omega) one hk1 hr fun bp b1 b2 hg1 hg2 hg3 => ⟨148, #[.pointer (some ⟨bp, 0, none⟩)], by rw [ht]; exact mget_wNot bp b1 b2, enters_of Tryz.func148 (by kernel_rfl) rfl, fun W hbW hbp hx1 hx2 hpar => rd_cast (notf_any w0 g bp E r W hbW hg hpar (by omega) hbp hg1 one hone hsh) (wordsP_wNot E one r ht).symm⟩
          · exact rd_cast (notN_any w0 g E t r w hb hg h (by omega) hk1 hr fun bp b1 b2 => by rw [ht]; exact mget_wAnd bp b1 b2) (wordsP_wAnd E one r ht).symm
          · exact rd_cast (notN_any w0 g E t r w hb hg h (by omega) hk1 hr fun bp b1 b2 => by rw [ht]; exact mget_wOr bp b1 b2) (wordsP_wOr E one r ht).symm
          · exact notB_any w0 g E t r w hb hg h (by omega) one hk1 hr fun bp b1 b2 hg1 hg2 hg3 => ⟨149, #[.pointer (some ⟨bp, 0, none⟩)], by rw [ht]; exact mget_wLimit bp b1 b2, enters_of Tryz.func149 (by kernel_rfl) rfl, fun W hbW hbp hx1 hx2 hpar => rd_cast (limit_any w0 g bp E r W hbW hg hpar (by omega) hbp hg1 hv) (wordsP_wLimit E one r ht).symm⟩
          · exact notB_any w0 g E t r w hb hg h (by omega) one hk1 hr fun bp b1 b2 hg1 hg2 hg3 => ⟨151, #[.pointer (some ⟨bp, 0, none⟩)], by rw [ht]; exact mget_wOver bp b1 b2, enters_of Tryz.func151 (by kernel_rfl) rfl, fun W hbW hbp hx1 hx2 hpar => rd_cast (over_any w0 g bp E r W hbW hg hpar (by omega) hbp hg1 hv) (wordsP_wOver E one r ht).symm⟩
          · exact notB_any w0 g E t r w hb hg h (by omega) one hk1 hr fun bp b1 b2 hg1 hg2 hg3 => ⟨152, #[.pointer (some ⟨bp, 0, none⟩)], by rw [ht]; exact mget_wHas bp b1 b2, enters_of Tryz.func152 (by kernel_rfl) rfl, fun W hbW hbp hx1 hx2 hpar => rd_cast (has_any w0 g bp E r W hbW hg hpar (by omega) hbp hg1) (wordsP_wHas E one r ht).symm⟩
          · exact notB_any w0 g E t r w hb hg h (by omega) one hk1 hr fun bp b1 b2 hg1 hg2 hg3 => ⟨153, #[.pointer (some ⟨bp, 0, none⟩)], by rw [ht]; exact mget_wSlot bp b1 b2, enters_of Tryz.func153 (by kernel_rfl) rfl, fun W hbW hbp hx1 hx2 hpar => rd_cast (slot_any w0 g bp E r W hbW hg hpar (by omega) hbp hg1) (wordsP_wSlot E one r ht).symm⟩
          · exact notB_any w0 g E t r w hb hg h (by omega) one hk1 hr fun bp b1 b2 hg1 hg2 hg3 => ⟨146, #[.pointer (some ⟨b1, 0, none⟩), .pointer (some ⟨bp, 0, none⟩)], by rw [ht]; exact mget_wAll bp b1 b2, enters_of Tryz.func146 (by kernel_rfl) rfl, fun W hbW hbp hx1 hx2 hpar => rd_cast (within_any b1 10 one w0 g bp E r W hbW hg hpar (by omega) hbp hg1 hx1 hg2 hone hsh) (wordsP_wAll E one r ht).symm⟩
          · exact notB_any w0 g E t r w hb hg h (by omega) one hk1 hr fun bp b1 b2 hg1 hg2 hg3 => ⟨146, #[.pointer (some ⟨b2, 0, none⟩), .pointer (some ⟨bp, 0, none⟩)], by rw [ht]; exact mget_wAny bp b1 b2, enters_of Tryz.func146 (by kernel_rfl) rfl, fun W hbW hbp hx1 hx2 hpar => rd_cast (within_any b2 11 one w0 g bp E r W hbW hg hpar (by omega) hbp hg1 hx2 hg3 hone hsh) (wordsP_wAny E one r ht).symm⟩
          · exact notB_any w0 g E t r w hb hg h (by omega) one hk1 hr fun bp b1 b2 hg1 hg2 hg3 => ⟨154, #[.pointer (some ⟨bp, 0, none⟩)], by rw [ht]; exact mget_wAt bp b1 b2, enters_of Tryz.func154 (by kernel_rfl) rfl, fun W hbW hbp hx1 hx2 hpar => rd_cast (atc_any w0 g bp E r W hbW hg hpar (by omega) hbp hg1 hv) (wordsP_wAt E one r ht).symm⟩
        · rw [if_neg h1]
          by_cases hk1 : t.kind = 1
          · exact notC1_any w0 g E t r w hb hg h (by omega) hk1 (by cases hr : resB t.text with | false => rfl | true => exact absurd ⟨hk1, hr⟩ h1)
          · by_cases hk4 : t.kind = 4
            · exact notC2_any w0 g E t r w hb hg h (by omega) hk4 fun e => h4 ⟨hk4, e⟩
            · exact notC3_any w0 g E t r w hb hg h (by omega) hk4 hk1
end Go.Proofs.YtcpakaiblelmlaaGreatDoor
