/- The head of bogielaw20 answers true. Condition: the table of powers of ten, and the error variables. -/
import Derived.Test.YtppoeiofdmlpeaaGreatDoorU10
import Derived.Test.YtppoeiofdmlpeaaGreatDoorU15
import Derived.Test.YtppoeiofdmlpeaaGreatDoorU16
namespace Go.Proofs.YtppoeiofdmlpeaaGreatDoor
open Go Go.RowKit
/-- What the head reads of its first rule. -/
theorem head_lay {W : World} {kv : Value} (h : Lay W kv hr1.cond.kids) : ∃ gb go gc kb ko kc, kv = .slice (some ⟨gb, go, none⟩) 2 gc ∧ 2 ≤ gc ∧ 1 ≤ kc ∧ ∀ W', Below W.heap.size W W' →
    W'.cell? ⟨gb, go + 4, none⟩ = some (.int .i64 20000) ∧ W'.cell? ⟨gb, go + 6 + 5, none⟩ = some (.slice (some ⟨kb, ko, none⟩) 1 kc) ∧ W'.cell? ⟨kb, ko, none⟩ = some (.int .i64 4) := by
  obtain ⟨A, c, rfl, hc⟩ := h.slice
  obtain ⟨_, _, hk⟩ := h.kid
  obtain ⟨gb, go, k0, rfl, h0, _⟩ := hk 0 (by decide)
  obtain ⟨gb', go', k1, e1, h1, h1l⟩ := hk 1 (by decide)
  injection e1 with e1
  injection e1 with e1 e2 _
  subst e1
  subst e2
  obtain ⟨A2, c2, rfl, hc2⟩ := h1l.slice
  obtain ⟨_, _, hk2⟩ := h1l.kid
  obtain ⟨kb, ko, k2, rfl, h2, _⟩ := hk2 0 (by decide)
  have a0 : W.cell? ⟨gb, go + 4, none⟩ = some (.int .i64 20000) := h0 4 (by decide)
  have a1 : W.cell? ⟨gb, go + 6 + 5, none⟩ = some (.slice (some ⟨kb, ko, none⟩) 1 c2) := h1 5 (by decide)
  have a2 : W.cell? ⟨kb, ko, none⟩ = some (.int .i64 4) := h2 0 (by decide)
  exact ⟨gb, go, c, kb, ko, c2, rfl, hc, hc2, fun W' hb => ⟨cell_later hb a0, cell_later hb a1, cell_later hb a2⟩⟩
theorem fit_leaf (op : Int) (a v : ByteArray) (n x : Int) (h1 : a.size ≤ maxLen) (h2 : v.size ≤ maxLen) (h3 : In64E op) (h4 : In64E n) (h5 : In64E x) : FitE (.mk op a v n x []) :=
  .mk _ h1 h2 h3 h4 h5 (Nat.zero_le _) (fun k hk => by cases hk)
theorem small64 {n : Int} (h1 : 0 ≤ n) (h2 : n ≤ 9999999) : In64E n := ⟨by omega, by omega⟩
theorem head_fit : FitE hr1.cond := by
  have z : In64E 0 := small64 (by decide) (by decide)
  have l : ∀ n : Nat, n ≤ 300 → n ≤ maxLen := fun n h => Nat.le_trans h (by decide)
  refine .mk _ (l _ (by decide)) (l _ (by decide)) (small64 (by decide) (by decide)) z z (l _ (by decide)) fun k hk => ?_
  rcases List.mem_cons.1 hk with rfl | hk
  · exact fit_leaf _ _ _ _ _ (l _ (by decide)) (l _ (by decide)) (small64 (by decide) (by decide)) (small64 (by decide) (by decide)) (small64 (by decide) (by decide))
  rw [List.mem_singleton] at hk
  subst hk
  refine .mk _ (l _ (by decide)) (l _ (by decide)) (small64 (by decide) (by decide)) z z (l _ (by decide)) fun k hk => ?_
  replace hk := List.mem_singleton.1 hk
  subst hk
  refine .mk _ (l _ (by decide)) (l _ (by decide)) (small64 (by decide) (by decide)) z z (l _ (by decide)) fun k hk => ?_
  rcases List.mem_cons.1 hk with rfl | hk
  · exact fit_leaf _ _ _ _ _ (l _ (by decide)) (l _ (by decide)) (small64 (by decide) (by decide)) z z
  rw [List.mem_singleton] at hk
  subst hk
  refine .mk _ (l _ (by decide)) (l _ (by decide)) (small64 (by decide) (by decide)) z z (l _ (by decide)) fun k hk => ?_
  replace hk := List.mem_singleton.1 hk
  subst hk
  exact fit_leaf _ _ _ _ _ (l _ (by decide)) (l _ (by decide)) (small64 (by decide) (by decide)) (small64 (by decide) (by decide)) z
/-- Parse at a text whose rule is known. -/
theorem parse_known {s : ByteArray} {r : Ru} {er a : Int} (hp : parseU s = (r, er, a)) (hs : s.size ≤ 3000) (w0 w : World) (hv : Evs w0) (hb0 : Below w0.heap.size w0 w) :
    Calls Tryz.prog 11 #[.string s] w fun e w' => ∃ kv, e = .returned (.tuple #[.agg (ruA r kv), .int .i64 er, .int .i64 a]) ∧ Lay w' kv r.cond.kids ∧ Below w.heap.size w w' := by
  refine (parse_any w0 hv s w hb0 (Nat.le_trans hs (by decide))).mono ?_
  rintro e w' ⟨kv, rfl, hl, hb⟩
  rw [hp] at hl ⊢
  exact ⟨kv, rfl, hl.any, hb⟩
set_option maxRecDepth 100000 in
set_option maxHeartbeats 8000000 in
theorem head_any (w0 w : World) (ht : Tab w0) (hv : Evs w0) (hb0 : Below w0.heap.size w0 w) :
    Calls Tryz.prog 7 #[] w fun r w' => r = .returned (.bool true) ∧ Below w.heap.size w w' := by
  have hsz0 := hb0.size
  have HP1 := Lib.hid (fun W (hb : Below w.heap.size w W) => (show Calls Tryz.prog 11 #[.string ⟨#[114, 117, 108, 101, 32, 114, 32, 102, 111, 114, 32, 99, 111, 97, 99, 104, 58, 32, 108, 105, 109, 105, 116, 32, 107, 109, 32, 56, 48, 48, 48, 48, 48, 32, 112, 108, 117, 115, 32, 50, 48, 48, 48, 48, 32, 97, 110, 100, 32, 110, 111, 116, 32, 40, 104, 97, 115, 32, 98, 97, 116, 99, 104, 32, 111, 114, 32, 97, 108, 108, 32, 119, 104, 101, 101, 108, 115, 101, 116, 32, 40, 111, 118, 101, 114, 32, 100, 97, 121, 115, 32, 53, 41, 41, 59]⟩] W fun e w' => ∃ kv, e = .returned (.tuple #[.agg #[.string ⟨#[114]⟩, .string ⟨#[99, 111, 97, 99, 104]⟩, .int .i64 3, .string ⟨#[]⟩, .string ⟨#[]⟩, .int .i64 0, .int .i64 0, kv], .int .i64 0, .int .i64 0]) ∧ Lay w' kv hr1.cond.kids ∧ Below W.heap.size W w' from parse_known head_q1 (by decide) w0 W hv (hb0.trans (hb.mono hsz0))))
  have HP2 := Lib.hid (fun W (hb : Below w.heap.size w W) => (show Calls Tryz.prog 11 #[.string ⟨#[114, 117, 108, 101, 32, 114, 32, 102, 111, 114, 32, 97, 120, 108, 101, 58, 32, 98, 97, 116, 99, 104, 32, 61, 32, 34, 34, 59]⟩] W fun e w' => ∃ kv, e = .returned (.tuple #[.agg #[.string ⟨#[]⟩, .string ⟨#[]⟩, .int .i64 0, .string ⟨#[]⟩, .string ⟨#[]⟩, .int .i64 0, .int .i64 0, kv], .int .i64 13, .int .i64 25]) ∧ Lay w' kv ru0.cond.kids ∧ Below W.heap.size W w' from parse_known head_q2 (by decide) w0 W hv (hb0.trans (hb.mono hsz0))))
  have HP3 := Lib.hid (fun W (hb : Below w.heap.size w W) => (show Calls Tryz.prog 11 #[.string ⟨#[114, 117, 108, 101, 32, 114, 32, 102, 111, 114, 32, 97, 120, 108, 101, 58, 32, 97, 116, 32, 108, 101, 97, 115, 116, 32, 48, 32, 97, 120, 108, 101, 59]⟩] W fun e w' => ∃ kv, e = .returned (.tuple #[.agg #[.string ⟨#[]⟩, .string ⟨#[]⟩, .int .i64 0, .string ⟨#[]⟩, .string ⟨#[]⟩, .int .i64 0, .int .i64 0, kv], .int .i64 13, .int .i64 26]) ∧ Lay w' kv ru0.cond.kids ∧ Below W.heap.size W w' from parse_known head_q3 (by decide) w0 W hv (hb0.trans (hb.mono hsz0))))
  have HP4 := Lib.hid (fun W (hb : Below w.heap.size w W) => (show Calls Tryz.prog 11 #[.string ⟨#[114, 117, 108, 101, 32, 114, 32, 102, 111, 114, 32, 97, 120, 108, 101, 58, 32, 110, 111, 116]⟩] W fun e w' => ∃ kv, e = .returned (.tuple #[.agg #[.string ⟨#[]⟩, .string ⟨#[]⟩, .int .i64 0, .string ⟨#[]⟩, .string ⟨#[]⟩, .int .i64 0, .int .i64 0, kv], .int .i64 9, .int .i64 20]) ∧ Lay w' kv ru0.cond.kids ∧ Below W.heap.size W w' from parse_known head_q4 (by decide) w0 W hv (hb0.trans (hb.mono hsz0))))
  have HT := Lib.hid (fun W kv (hb : Below w.heap.size w W) (hl : Lay W kv hr1.cond.kids) => (show Calls Tryz.prog 9 #[.agg #[.string ⟨#[114]⟩, .string ⟨#[99, 111, 97, 99, 104]⟩, .int .i64 3, .string ⟨#[]⟩, .string ⟨#[]⟩, .int .i64 0, .int .i64 0, kv]] W fun e w' => e = .returned (.tuple #[.string ⟨#[114, 117, 108, 101, 32, 114, 32, 102, 111, 114, 32, 99, 111, 97, 99, 104, 58, 32, 108, 105, 109, 105, 116, 32, 107, 109, 32, 56, 48, 48, 48, 48, 48, 32, 112, 108, 117, 115, 32, 50, 48, 48, 48, 48, 32, 97, 110, 100, 32, 110, 111, 116, 32, 40, 104, 97, 115, 32, 98, 97, 116, 99, 104, 32, 111, 114, 32, 97, 108, 108, 32, 119, 104, 101, 101, 108, 115, 101, 116, 32, 40, 111, 118, 101, 114, 32, 100, 97, 121, 115, 32, 53, 41, 41, 59, 10]⟩, .int .i64 0]) ∧ Below W.heap.size W w' from (rtext_any w0 ht hr1 kv W (hb0.trans (hb.mono hsz0)) (by decide +kernel) head_fit (by decide) (by decide) hl).mono (by rw [head_tx]; exact fun _ _ h => h)))
  have HV := Lib.hid (fun W kv (hl : Lay W kv hr1.cond.kids) => (show Calls Tryz.prog 14 #[.agg #[.string ⟨#[114]⟩, .string ⟨#[99, 111, 97, 99, 104]⟩, .int .i64 3, .string ⟨#[]⟩, .string ⟨#[]⟩, .int .i64 0, .int .i64 0, kv]] W fun e w' => e = .returned (.bool true) ∧ Below W.heap.size W w' from (valid_any hr1 kv W (by decide +kernel) head_fit (by decide) (by decide) hl).mono (by rw [head_ok]; exact fun _ _ h => h)))
  clear ht hv hb0
  go_enter Tryz.func7, Tryz.ntmps7
  go_wp2_with (first | (go_at_call 11; first | ((with_reducible show Calls _ _ #[.string ⟨#[114, 117, 108, 101, 32, 114, 32, 102, 111, 114, 32, 99, 111, 97, 99, 104, 58, 32, 108, 105, 109, 105, 116, 32, 107, 109, 32, 56, 48, 48, 48, 48, 48, 32, 112, 108, 117, 115, 32, 50, 48, 48, 48, 48, 32, 97, 110, 100, 32, 110, 111, 116, 32, 40, 104, 97, 115, 32, 98, 97, 116, 99, 104, 32, 111, 114, 32, 97, 108, 108, 32, 119, 104, 101, 101, 108, 115, 101, 116, 32, 40, 111, 118, 101, 114, 32, 100, 97, 121, 115, 32, 53, 41, 41, 59]⟩] _ _); refine (HP1.out _ (Below.refl w.heap.size w)).mono ?_; rintro e u1 ⟨kv, rfl, hl, hb⟩; obtain ⟨gb, go, gc, kb, ko, kc, rfl, hgc, hkc, hce⟩ := head_lay hl; have HCE := Lib.hid hce; have HL := Lib.hid hl; clear hce; have HB1 := Lib.hid ((((Below.refl w.heap.size w)).trans (hb.mono ((Below.refl w.heap.size w)).size)).alloc (by have h1 := ((Below.refl w.heap.size w)).size; have h2 := hb.size; omega) (.cells #[.string ⟨#[114]⟩, .string ⟨#[99, 111, 97, 99, 104]⟩, .int .i64 3, .string ⟨#[]⟩, .string ⟨#[]⟩, .int .i64 0, .int .i64 0, .slice (some ⟨gb, go, none⟩) 2 gc] 26)); have HS1 := Lib.hid (show Below u1.heap.size u1 (u1.alloc (.cells #[.string ⟨#[114]⟩, .string ⟨#[99, 111, 97, 99, 104]⟩, .int .i64 3, .string ⟨#[]⟩, .string ⟨#[]⟩, .int .i64 0, .int .i64 0, .slice (some ⟨gb, go, none⟩) 2 gc] 26)) from (Below.refl _ _).alloc (Nat.le_refl _) _); have HE1 := Lib.hid (Has.new u1 26 #[.string ⟨#[114]⟩, .string ⟨#[99, 111, 97, 99, 104]⟩, .int .i64 3, .string ⟨#[]⟩, .string ⟨#[]⟩, .int .i64 0, .int .i64 0, .slice (some ⟨gb, go, none⟩) 2 gc]); clear hb hl) | ((with_reducible show Calls _ _ #[.string ⟨#[114, 117, 108, 101, 32, 114, 32, 102, 111, 114, 32, 97, 120, 108, 101, 58, 32, 98, 97, 116, 99, 104, 32, 61, 32, 34, 34, 59]⟩] _ _); refine (HP2.out _ HB1.out).mono ?_; rintro e u2 ⟨kv, rfl, hl, hb⟩; obtain ⟨A2, c2, hkv, _⟩ := hl.slice; obtain rfl : kv = .slice A2 0 c2 := hkv; have HB2 := Lib.hid (((HB1.out).trans (hb.mono (HB1.out).size)).alloc (by have h1 := (HB1.out).size; have h2 := hb.size; omega) (.cells #[.string ⟨#[]⟩, .string ⟨#[]⟩, .int .i64 0, .string ⟨#[]⟩, .string ⟨#[]⟩, .int .i64 0, .int .i64 0, .slice A2 0 c2] 26)); replace HS1 := Lib.hid (HS1.out.trans (((hb.mono HS1.out.size)).alloc (Nat.le_trans HS1.out.size hb.size) (.cells #[.string ⟨#[]⟩, .string ⟨#[]⟩, .int .i64 0, .string ⟨#[]⟩, .string ⟨#[]⟩, .int .i64 0, .int .i64 0, .slice A2 0 c2] 26))); replace HE1 := Lib.hid ((HE1.out.below hb HE1.out.lt).alloc (.cells #[.string ⟨#[]⟩, .string ⟨#[]⟩, .int .i64 0, .string ⟨#[]⟩, .string ⟨#[]⟩, .int .i64 0, .int .i64 0, .slice A2 0 c2] 26)); clear hb hl) | ((with_reducible show Calls _ _ #[.string ⟨#[114, 117, 108, 101, 32, 114, 32, 102, 111, 114, 32, 97, 120, 108, 101, 58, 32, 97, 116, 32, 108, 101, 97, 115, 116, 32, 48, 32, 97, 120, 108, 101, 59]⟩] _ _); refine (HP3.out _ HB2.out).mono ?_; rintro e u3 ⟨kv, rfl, hl, hb⟩; obtain ⟨A3, c3, hkv, _⟩ := hl.slice; obtain rfl : kv = .slice A3 0 c3 := hkv; have HB3 := Lib.hid (((HB2.out).trans (hb.mono (HB2.out).size)).alloc (by have h1 := (HB2.out).size; have h2 := hb.size; omega) (.cells #[.string ⟨#[]⟩, .string ⟨#[]⟩, .int .i64 0, .string ⟨#[]⟩, .string ⟨#[]⟩, .int .i64 0, .int .i64 0, .slice A3 0 c3] 26)); replace HS1 := Lib.hid (HS1.out.trans (((hb.mono HS1.out.size)).alloc (Nat.le_trans HS1.out.size hb.size) (.cells #[.string ⟨#[]⟩, .string ⟨#[]⟩, .int .i64 0, .string ⟨#[]⟩, .string ⟨#[]⟩, .int .i64 0, .int .i64 0, .slice A3 0 c3] 26))); replace HE1 := Lib.hid ((HE1.out.below hb HE1.out.lt).alloc (.cells #[.string ⟨#[]⟩, .string ⟨#[]⟩, .int .i64 0, .string ⟨#[]⟩, .string ⟨#[]⟩, .int .i64 0, .int .i64 0, .slice A3 0 c3] 26)); clear hb hl) | ((with_reducible show Calls _ _ #[.string ⟨#[114, 117, 108, 101, 32, 114, 32, 102, 111, 114, 32, 97, 120, 108, 101, 58, 32, 110, 111, 116]⟩] _ _); refine (HP4.out _ HB3.out).mono ?_; rintro e u4 ⟨kv, rfl, hl, hb⟩; obtain ⟨A4, c4, hkv, _⟩ := hl.slice; obtain rfl : kv = .slice A4 0 c4 := hkv; have HB4 := Lib.hid (((HB3.out).trans (hb.mono (HB3.out).size)).alloc (by have h1 := (HB3.out).size; have h2 := hb.size; omega) (.cells #[.string ⟨#[]⟩, .string ⟨#[]⟩, .int .i64 0, .string ⟨#[]⟩, .string ⟨#[]⟩, .int .i64 0, .int .i64 0, .slice A4 0 c4] 26)); replace HS1 := Lib.hid (HS1.out.trans (((hb.mono HS1.out.size)).alloc (Nat.le_trans HS1.out.size hb.size) (.cells #[.string ⟨#[]⟩, .string ⟨#[]⟩, .int .i64 0, .string ⟨#[]⟩, .string ⟨#[]⟩, .int .i64 0, .int .i64 0, .slice A4 0 c4] 26))); replace HE1 := Lib.hid ((HE1.out.below hb HE1.out.lt).alloc (.cells #[.string ⟨#[]⟩, .string ⟨#[]⟩, .int .i64 0, .string ⟨#[]⟩, .string ⟨#[]⟩, .int .i64 0, .int .i64 0, .slice A4 0 c4] 26)); obtain ⟨x1, y1⟩ := HE1.out.facts; try simp only [World.size_alloc] at x1 y1; clear hb hl)) | (go_at_call 9; refine (HT.out _ _ HB4.out (HL.out.later HS1.out)).mono ?_; rintro e u5 ⟨rfl, hb⟩; have HB5 := Lib.hid (HB4.out.trans (hb.mono HB4.out.size)); have HS5 := Lib.hid (HS1.out.trans (hb.mono HS1.out.size)); have HE5 := Lib.hid (HE1.out.below hb HE1.out.lt); clear x1 y1; obtain ⟨x5, y5⟩ := HE5.out.facts; obtain ⟨c1, c2, c3⟩ := HCE.out _ HS5.out; clear hb) | (go_at_call 14; refine (HV.out _ _ (HL.out.later HS5.out)).mono ?_; rintro e u6 ⟨rfl, hb⟩; have HB6 := Lib.hid (HB5.out.trans (hb.mono HB5.out.size)); clear hb))
  go_ret
  exact ⟨rfl, HB6.out⟩
end Go.Proofs.YtppoeiofdmlpeaaGreatDoor
