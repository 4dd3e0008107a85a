/- The head of bogielaw20 answers true. Condition: the table of powers of ten, and the error variables. bogieref20.SameCond, Same: equality of conditions and of rules. Condition: they lie in memory. Texts made of pieces, and their tokens. No condition. The tokens of a valid rule's text. No condition. The tokens of a valid rule's text are parsed as the rule. No condition. A valid rule is parsed from its text; different ones have different texts. No condition. What the tokens of a text are: their places, their sizes together, their numbers. No condition. What the parser of rules makes: valid conditions, errors within the text. No condition. What is parsed from a text is valid, and has a text; an error lies within the text. No condition. -/
import Derived.BigQuiet
import Derived.IntWalk
import Derived.Test.YtppoeiofdmlpeaaDoorU02
import Derived.Test.YtppoeiofdmlpeaaDoorU04
import Derived.Test.YtppoeiofdmlpeaaDoorU10
import Derived.Test.YtppoeiofdmlpeaaDoorU15
import Derived.Test.YtppoeiofdmlpeaaDoorU16
namespace Go.Proofs.YtppoeiofdmlpeaaDoor
open Go Go.RowKit
/-- What the head reads of its first rule. -/
theorem head_lay {W : World} {kv : Value} (h : Lay W kv hr1.cond.kids) : ∃ gb go gc kb ko kc, kv = .slice (some ⟨gb, go, none⟩) 2 gc ∧ 2 ≤ gc ∧ 1 ≤ kc ∧ ∀ W', Below W.heap.size W W' →
    W'.cell? ⟨gb, go + 4, none⟩ = some (.int .i64 20000) ∧ W'.cell? ⟨gb, go + 6 + 5, none⟩ = some (.slice (some ⟨kb, ko, none⟩) 1 kc) ∧ W'.cell? ⟨kb, ko, none⟩ = some (.int .i64 4) := by
  obtain ⟨A, c, rfl, hc⟩ := h.slice
  obtain ⟨_, _, hk⟩ := h.kid
  obtain ⟨gb, go, k0, rfl, h0, _⟩ := hk 0 (by decide)
  obtain ⟨gb', go', k1, e1, h1, h1l⟩ := hk 1 (by decide)
  injection e1 with e1
  injection e1 with e1 e2 _
  subst e1
  subst e2
  obtain ⟨A2, c2, rfl, hc2⟩ := h1l.slice
  obtain ⟨_, _, hk2⟩ := h1l.kid
  obtain ⟨kb, ko, k2, rfl, h2, _⟩ := hk2 0 (by decide)
  have a0 : W.cell? ⟨gb, go + 4, none⟩ = some (.int .i64 20000) := h0 4 (by decide)
  have a1 : W.cell? ⟨gb, go + 6 + 5, none⟩ = some (.slice (some ⟨kb, ko, none⟩) 1 c2) := h1 5 (by decide)
  have a2 : W.cell? ⟨kb, ko, none⟩ = some (.int .i64 4) := h2 0 (by decide)
  exact ⟨gb, go, c, kb, ko, c2, rfl, hc, hc2, fun W' hb => ⟨cell_later hb a0, cell_later hb a1, cell_later hb a2⟩⟩
theorem fit_leaf (op : Int) (a v : ByteArray) (n x : Int) (h1 : a.size ≤ maxLen) (h2 : v.size ≤ maxLen) (h3 : In64E op) (h4 : In64E n) (h5 : In64E x) : FitE (.mk op a v n x []) :=
  .mk _ h1 h2 h3 h4 h5 (Nat.zero_le _) (fun k hk => by cases hk)
theorem small64 {n : Int} (h1 : 0 ≤ n) (h2 : n ≤ 9999999) : In64E n := ⟨by omega, by omega⟩
theorem head_fit : FitE hr1.cond := by
  have z : In64E 0 := small64 (by decide) (by decide)
  have l : ∀ n : Nat, n ≤ 300 → n ≤ maxLen := fun n h => Nat.le_trans h (by decide)
  refine .mk _ (l _ (by decide)) (l _ (by decide)) (small64 (by decide) (by decide)) z z (l _ (by decide)) fun k hk => ?_
  rcases List.mem_cons.1 hk with rfl | hk
  · exact fit_leaf _ _ _ _ _ (l _ (by decide)) (l _ (by decide)) (small64 (by decide) (by decide)) (small64 (by decide) (by decide)) (small64 (by decide) (by decide))
  rw [List.mem_singleton] at hk
  subst hk
  refine .mk _ (l _ (by decide)) (l _ (by decide)) (small64 (by decide) (by decide)) z z (l _ (by decide)) fun k hk => ?_
  replace hk := List.mem_singleton.1 hk
  subst hk
  refine .mk _ (l _ (by decide)) (l _ (by decide)) (small64 (by decide) (by decide)) z z (l _ (by decide)) fun k hk => ?_
  rcases List.mem_cons.1 hk with rfl | hk
  · exact fit_leaf _ _ _ _ _ (l _ (by decide)) (l _ (by decide)) (small64 (by decide) (by decide)) z z
  rw [List.mem_singleton] at hk
  subst hk
  refine .mk _ (l _ (by decide)) (l _ (by decide)) (small64 (by decide) (by decide)) z z (l _ (by decide)) fun k hk => ?_
  replace hk := List.mem_singleton.1 hk
  subst hk
  exact fit_leaf _ _ _ _ _ (l _ (by decide)) (l _ (by decide)) (small64 (by decide) (by decide)) (small64 (by decide) (by decide)) z
/-- Parse at a text whose rule is known. -/
theorem parse_known {s : ByteArray} {r : Ru} {er a : Int} (hp : parseU s = (r, er, a)) (hs : s.size ≤ 3000) (w0 w : World) (hv : Evs w0) (hb0 : Below w0.heap.size w0 w) :
    Calls Tryd.prog 7 #[.string s] w fun e w' => ∃ kv, e = .returned (.tuple #[.agg (ruA r kv), .int .i64 er, .int .i64 a]) ∧ Lay w' kv r.cond.kids ∧ Below w.heap.size w w' := by
  refine (parse_any w0 hv s w hb0 (Nat.le_trans hs (by decide))).mono ?_
  rintro e w' ⟨kv, rfl, hl, hb⟩
  rw [hp] at hl ⊢
  exact ⟨kv, rfl, hl.any, hb⟩
set_option maxRecDepth 100000 in
set_option maxHeartbeats 8000000 in
theorem head_any (w0 w : World) (ht : Tab w0) (hv : Evs w0) (hb0 : Below w0.heap.size w0 w) :
    Calls Tryd.prog 5 #[] w fun r w' => r = .returned (.bool true) ∧ Below w.heap.size w w' := by
  have hsz0 := hb0.size
  have HP1 := Lib.hid (fun W (hb : Below w.heap.size w W) => (show Calls Tryd.prog 7 #[.string ⟨#[114, 117, 108, 101, 32, 114, 32, 102, 111, 114, 32, 99, 111, 97, 99, 104, 58, 32, 108, 105, 109, 105, 116, 32, 107, 109, 32, 56, 48, 48, 48, 48, 48, 32, 112, 108, 117, 115, 32, 50, 48, 48, 48, 48, 32, 97, 110, 100, 32, 110, 111, 116, 32, 40, 104, 97, 115, 32, 98, 97, 116, 99, 104, 32, 111, 114, 32, 97, 108, 108, 32, 119, 104, 101, 101, 108, 115, 101, 116, 32, 40, 111, 118, 101, 114, 32, 100, 97, 121, 115, 32, 53, 41, 41, 59]⟩] W fun e w' => ∃ kv, e = .returned (.tuple #[.agg #[.string ⟨#[114]⟩, .string ⟨#[99, 111, 97, 99, 104]⟩, .int .i64 3, .string ⟨#[]⟩, .string ⟨#[]⟩, .int .i64 0, .int .i64 0, kv], .int .i64 0, .int .i64 0]) ∧ Lay w' kv hr1.cond.kids ∧ Below W.heap.size W w' from parse_known head_q1 (by decide) w0 W hv (hb0.trans (hb.mono hsz0))))
  have HP2 := Lib.hid (fun W (hb : Below w.heap.size w W) => (show Calls Tryd.prog 7 #[.string ⟨#[114, 117, 108, 101, 32, 114, 32, 102, 111, 114, 32, 97, 120, 108, 101, 58, 32, 98, 97, 116, 99, 104, 32, 61, 32, 34, 34, 59]⟩] W fun e w' => ∃ kv, e = .returned (.tuple #[.agg #[.string ⟨#[]⟩, .string ⟨#[]⟩, .int .i64 0, .string ⟨#[]⟩, .string ⟨#[]⟩, .int .i64 0, .int .i64 0, kv], .int .i64 13, .int .i64 25]) ∧ Lay w' kv ru0.cond.kids ∧ Below W.heap.size W w' from parse_known head_q2 (by decide) w0 W hv (hb0.trans (hb.mono hsz0))))
  have HP3 := Lib.hid (fun W (hb : Below w.heap.size w W) => (show Calls Tryd.prog 7 #[.string ⟨#[114, 117, 108, 101, 32, 114, 32, 102, 111, 114, 32, 97, 120, 108, 101, 58, 32, 97, 116, 32, 108, 101, 97, 115, 116, 32, 48, 32, 97, 120, 108, 101, 59]⟩] W fun e w' => ∃ kv, e = .returned (.tuple #[.agg #[.string ⟨#[]⟩, .string ⟨#[]⟩, .int .i64 0, .string ⟨#[]⟩, .string ⟨#[]⟩, .int .i64 0, .int .i64 0, kv], .int .i64 13, .int .i64 26]) ∧ Lay w' kv ru0.cond.kids ∧ Below W.heap.size W w' from parse_known head_q3 (by decide) w0 W hv (hb0.trans (hb.mono hsz0))))
  have HP4 := Lib.hid (fun W (hb : Below w.heap.size w W) => (show Calls Tryd.prog 7 #[.string ⟨#[114, 117, 108, 101, 32, 114, 32, 102, 111, 114, 32, 97, 120, 108, 101, 58, 32, 110, 111, 116]⟩] W fun e w' => ∃ kv, e = .returned (.tuple #[.agg #[.string ⟨#[]⟩, .string ⟨#[]⟩, .int .i64 0, .string ⟨#[]⟩, .string ⟨#[]⟩, .int .i64 0, .int .i64 0, kv], .int .i64 9, .int .i64 20]) ∧ Lay w' kv ru0.cond.kids ∧ Below W.heap.size W w' from parse_known head_q4 (by decide) w0 W hv (hb0.trans (hb.mono hsz0))))
  have HT := Lib.hid (fun W kv (hb : Below w.heap.size w W) (hl : Lay W kv hr1.cond.kids) => (show Calls Tryd.prog 10 #[.agg #[.string ⟨#[114]⟩, .string ⟨#[99, 111, 97, 99, 104]⟩, .int .i64 3, .string ⟨#[]⟩, .string ⟨#[]⟩, .int .i64 0, .int .i64 0, kv]] W fun e w' => e = .returned (.tuple #[.string ⟨#[114, 117, 108, 101, 32, 114, 32, 102, 111, 114, 32, 99, 111, 97, 99, 104, 58, 32, 108, 105, 109, 105, 116, 32, 107, 109, 32, 56, 48, 48, 48, 48, 48, 32, 112, 108, 117, 115, 32, 50, 48, 48, 48, 48, 32, 97, 110, 100, 32, 110, 111, 116, 32, 40, 104, 97, 115, 32, 98, 97, 116, 99, 104, 32, 111, 114, 32, 97, 108, 108, 32, 119, 104, 101, 101, 108, 115, 101, 116, 32, 40, 111, 118, 101, 114, 32, 100, 97, 121, 115, 32, 53, 41, 41, 59, 10]⟩, .int .i64 0]) ∧ Below W.heap.size W w' from (rtext_any w0 ht hr1 kv W (hb0.trans (hb.mono hsz0)) (by decide +kernel) head_fit (by decide) (by decide) hl).mono (by rw [head_tx]; exact fun _ _ h => h)))
  have HV := Lib.hid (fun W kv (hl : Lay W kv hr1.cond.kids) => (show Calls Tryd.prog 11 #[.agg #[.string ⟨#[114]⟩, .string ⟨#[99, 111, 97, 99, 104]⟩, .int .i64 3, .string ⟨#[]⟩, .string ⟨#[]⟩, .int .i64 0, .int .i64 0, kv]] W fun e w' => e = .returned (.bool true) ∧ Below W.heap.size W w' from (valid_any hr1 kv W (by decide +kernel) head_fit (by decide) (by decide) hl).mono (by rw [head_ok]; exact fun _ _ h => h)))
  clear ht hv hb0
  go_enter Tryd.func5, Tryd.ntmps5
  go_wp2_with (first | (go_at_call 7; first | ((with_reducible show Calls _ _ #[.string ⟨#[114, 117, 108, 101, 32, 114, 32, 102, 111, 114, 32, 99, 111, 97, 99, 104, 58, 32, 108, 105, 109, 105, 116, 32, 107, 109, 32, 56, 48, 48, 48, 48, 48, 32, 112, 108, 117, 115, 32, 50, 48, 48, 48, 48, 32, 97, 110, 100, 32, 110, 111, 116, 32, 40, 104, 97, 115, 32, 98, 97, 116, 99, 104, 32, 111, 114, 32, 97, 108, 108, 32, 119, 104, 101, 101, 108, 115, 101, 116, 32, 40, 111, 118, 101, 114, 32, 100, 97, 121, 115, 32, 53, 41, 41, 59]⟩] _ _); refine (HP1.out _ (Below.refl w.heap.size w)).mono ?_; rintro e u1 ⟨kv, rfl, hl, hb⟩; obtain ⟨gb, go, gc, kb, ko, kc, rfl, hgc, hkc, hce⟩ := head_lay hl; have HCE := Lib.hid hce; have HL := Lib.hid hl; clear hce; have HB1 := Lib.hid ((((Below.refl w.heap.size w)).trans (hb.mono ((Below.refl w.heap.size w)).size)).alloc (by have h1 := ((Below.refl w.heap.size w)).size; have h2 := hb.size; omega) (.cells #[.string ⟨#[114]⟩, .string ⟨#[99, 111, 97, 99, 104]⟩, .int .i64 3, .string ⟨#[]⟩, .string ⟨#[]⟩, .int .i64 0, .int .i64 0, .slice (some ⟨gb, go, none⟩) 2 gc] 31)); have HS1 := Lib.hid (show Below u1.heap.size u1 (u1.alloc (.cells #[.string ⟨#[114]⟩, .string ⟨#[99, 111, 97, 99, 104]⟩, .int .i64 3, .string ⟨#[]⟩, .string ⟨#[]⟩, .int .i64 0, .int .i64 0, .slice (some ⟨gb, go, none⟩) 2 gc] 31)) from (Below.refl _ _).alloc (Nat.le_refl _) _); have HE1 := Lib.hid (Has.new u1 31 #[.string ⟨#[114]⟩, .string ⟨#[99, 111, 97, 99, 104]⟩, .int .i64 3, .string ⟨#[]⟩, .string ⟨#[]⟩, .int .i64 0, .int .i64 0, .slice (some ⟨gb, go, none⟩) 2 gc]); clear hb hl) | ((with_reducible show Calls _ _ #[.string ⟨#[114, 117, 108, 101, 32, 114, 32, 102, 111, 114, 32, 97, 120, 108, 101, 58, 32, 98, 97, 116, 99, 104, 32, 61, 32, 34, 34, 59]⟩] _ _); refine (HP2.out _ HB1.out).mono ?_; rintro e u2 ⟨kv, rfl, hl, hb⟩; obtain ⟨A2, c2, hkv, _⟩ := hl.slice; obtain rfl : kv = .slice A2 0 c2 := hkv; have HB2 := Lib.hid (((HB1.out).trans (hb.mono (HB1.out).size)).alloc (by have h1 := (HB1.out).size; have h2 := hb.size; omega) (.cells #[.string ⟨#[]⟩, .string ⟨#[]⟩, .int .i64 0, .string ⟨#[]⟩, .string ⟨#[]⟩, .int .i64 0, .int .i64 0, .slice A2 0 c2] 31)); replace HS1 := Lib.hid (HS1.out.trans (((hb.mono HS1.out.size)).alloc (Nat.le_trans HS1.out.size hb.size) (.cells #[.string ⟨#[]⟩, .string ⟨#[]⟩, .int .i64 0, .string ⟨#[]⟩, .string ⟨#[]⟩, .int .i64 0, .int .i64 0, .slice A2 0 c2] 31))); replace HE1 := Lib.hid ((HE1.out.below hb HE1.out.lt).alloc (.cells #[.string ⟨#[]⟩, .string ⟨#[]⟩, .int .i64 0, .string ⟨#[]⟩, .string ⟨#[]⟩, .int .i64 0, .int .i64 0, .slice A2 0 c2] 31)); clear hb hl) | ((with_reducible show Calls _ _ #[.string ⟨#[114, 117, 108, 101, 32, 114, 32, 102, 111, 114, 32, 97, 120, 108, 101, 58, 32, 97, 116, 32, 108, 101, 97, 115, 116, 32, 48, 32, 97, 120, 108, 101, 59]⟩] _ _); refine (HP3.out _ HB2.out).mono ?_; rintro e u3 ⟨kv, rfl, hl, hb⟩; obtain ⟨A3, c3, hkv, _⟩ := hl.slice; obtain rfl : kv = .slice A3 0 c3 := hkv; have HB3 := Lib.hid (((HB2.out).trans (hb.mono (HB2.out).size)).alloc (by have h1 := (HB2.out).size; have h2 := hb.size; omega) (.cells #[.string ⟨#[]⟩, .string ⟨#[]⟩, .int .i64 0, .string ⟨#[]⟩, .string ⟨#[]⟩, .int .i64 0, .int .i64 0, .slice A3 0 c3] 31)); replace HS1 := Lib.hid (HS1.out.trans (((hb.mono HS1.out.size)).alloc (Nat.le_trans HS1.out.size hb.size) (.cells #[.string ⟨#[]⟩, .string ⟨#[]⟩, .int .i64 0, .string ⟨#[]⟩, .string ⟨#[]⟩, .int .i64 0, .int .i64 0, .slice A3 0 c3] 31))); replace HE1 := Lib.hid ((HE1.out.below hb HE1.out.lt).alloc (.cells #[.string ⟨#[]⟩, .string ⟨#[]⟩, .int .i64 0, .string ⟨#[]⟩, .string ⟨#[]⟩, .int .i64 0, .int .i64 0, .slice A3 0 c3] 31)); clear hb hl) | ((with_reducible show Calls _ _ #[.string ⟨#[114, 117, 108, 101, 32, 114, 32, 102, 111, 114, 32, 97, 120, 108, 101, 58, 32, 110, 111, 116]⟩] _ _); refine (HP4.out _ HB3.out).mono ?_; rintro e u4 ⟨kv, rfl, hl, hb⟩; obtain ⟨A4, c4, hkv, _⟩ := hl.slice; obtain rfl : kv = .slice A4 0 c4 := hkv; have HB4 := Lib.hid (((HB3.out).trans (hb.mono (HB3.out).size)).alloc (by have h1 := (HB3.out).size; have h2 := hb.size; omega) (.cells #[.string ⟨#[]⟩, .string ⟨#[]⟩, .int .i64 0, .string ⟨#[]⟩, .string ⟨#[]⟩, .int .i64 0, .int .i64 0, .slice A4 0 c4] 31)); replace HS1 := Lib.hid (HS1.out.trans (((hb.mono HS1.out.size)).alloc (Nat.le_trans HS1.out.size hb.size) (.cells #[.string ⟨#[]⟩, .string ⟨#[]⟩, .int .i64 0, .string ⟨#[]⟩, .string ⟨#[]⟩, .int .i64 0, .int .i64 0, .slice A4 0 c4] 31))); replace HE1 := Lib.hid ((HE1.out.below hb HE1.out.lt).alloc (.cells #[.string ⟨#[]⟩, .string ⟨#[]⟩, .int .i64 0, .string ⟨#[]⟩, .string ⟨#[]⟩, .int .i64 0, .int .i64 0, .slice A4 0 c4] 31)); obtain ⟨x1, y1⟩ := HE1.out.facts; try simp only [World.size_alloc] at x1 y1; clear hb hl)) | (go_at_call 10; refine (HT.out _ _ HB4.out (HL.out.later HS1.out)).mono ?_; rintro e u5 ⟨rfl, hb⟩; have HB5 := Lib.hid (HB4.out.trans (hb.mono HB4.out.size)); have HS5 := Lib.hid (HS1.out.trans (hb.mono HS1.out.size)); have HE5 := Lib.hid (HE1.out.below hb HE1.out.lt); clear x1 y1; obtain ⟨x5, y5⟩ := HE5.out.facts; obtain ⟨c1, c2, c3⟩ := HCE.out _ HS5.out; clear hb) | (go_at_call 11; refine (HV.out _ _ (HL.out.later HS5.out)).mono ?_; rintro e u6 ⟨rfl, hb⟩; have HB6 := Lib.hid (HB5.out.trans (hb.mono HB5.out.size)); clear hb))
  go_ret
  exact ⟨rfl, HB6.out⟩
end Go.Proofs.YtppoeiofdmlpeaaDoor
namespace Go.Proofs.YtppoeiofdmlpeaaDoor
open Go Go.RowKit
mutual
/-- Two conditions are the same. -/
def sameE : Ex → Ex → Bool
  | .mk o a v n x ks, e => decide (o = e.op ∧ a = e.name ∧ v = e.value ∧ n = e.n ∧ x = e.extra ∧ ks.length = e.kids.length) && sameL ks e.kids
def sameL : List Ex → List Ex → Bool
  | [], _ => true
  | k :: ks, ls => (match ls with
    | [] => true
    | l :: ls => sameE k l && sameL ks ls)
end
theorem sameE_eq (a b : Ex) : sameE a b = (decide (a.op = b.op ∧ a.name = b.name ∧ a.value = b.value ∧ a.n = b.n ∧ a.extra = b.extra ∧ a.kids.length = b.kids.length) && sameL a.kids b.kids) := by
  cases a; rw [sameE]; rfl
theorem sameL_nil (ls : List Ex) : sameL [] ls = true := by rw [sameL]
theorem sameL_cons (k l : Ex) (ks ls : List Ex) : sameL (k :: ks) (l :: ls) = (sameE k l && sameL ks ls) := by rw [sameL]
theorem sameE_iff : ∀ a b : Ex, sameE a b = true ↔ a = b := by
  refine Ex.ind fun a ih b => ?_
  have hL : ∀ ks ls : List Ex, (∀ k ∈ ks, ∀ l, sameE k l = true ↔ k = l) → ks.length = ls.length → (sameL ks ls = true ↔ ks = ls) := by
    intro ks
    induction ks with
    | nil => intro ls _ hl; cases ls with | nil => rw [sameL_nil]; exact ⟨fun _ => rfl, fun _ => rfl⟩ | cons l ls => cases hl
    | cons k ks ih =>
      intro ls hk hl
      cases ls with
      | nil => cases hl
      | cons l ls =>
        rw [sameL_cons, Bool.and_eq_true, hk k (List.mem_cons_self ..) l, ih ls (fun x hx => hk x (List.mem_cons_of_mem _ hx)) (by simpa using hl)]
        exact ⟨fun ⟨h1, h2⟩ => by rw [h1, h2], fun h => by injection h with h1 h2; exact ⟨h1, h2⟩⟩
  rw [sameE_eq, Bool.and_eq_true, decide_eq_true_eq]
  obtain ⟨o, na, v, n, x, ks⟩ := a
  obtain ⟨o', na', v', n', x', ls⟩ := b
  dsimp only [Ex.op, Ex.name, Ex.value, Ex.n, Ex.extra, Ex.kids] at *
  constructor
  · rintro ⟨⟨rfl, rfl, rfl, rfl, rfl, h⟩, hs⟩
    rw [(hL ks ls ih h).1 hs]
  · intro h
    injection h with h1 h2 h3 h4 h5 h6
    subst h6
    exact ⟨⟨h1, h2, h3, h4, h5, rfl⟩, (hL ks ks ih rfl).2 rfl⟩
theorem bytes_ne {a b : ByteArray} (h : ¬ a = b) : ¬ a.toList = b.toList := by
  intro e
  apply h
  rw [_root_.Go.ByteArray.toList_eq, _root_.Go.ByteArray.toList_eq] at e
  exact ByteArray.ext (Array.toList_inj.1 e)
set_option maxRecDepth 100000 in
set_option maxHeartbeats 8000000 in
theorem same_rec : ∀ (M : Nat) (a b : Ex) (kv lv : Value) (w : World), cnt a ≤ M → M ≤ 100000 → Lay w kv a.kids → Lay w lv b.kids →
    Calls Tryd.prog 17 #[.agg #[.int .i64 a.op, .string a.name, .string a.value, .int .i64 a.n, .int .i64 a.extra, kv], .agg #[.int .i64 b.op, .string b.name, .string b.value, .int .i64 b.n, .int .i64 b.extra, lv]] w fun r w' => r = .returned (.bool (sameE a b)) ∧ Below w.heap.size w w' := by
  intro M
  induction M with
  | zero => intro a b kv lv w hc; have := cnt_pos a; omega
  | succ M ih =>
    intro a b kv lv w hc hM hl hm
    have hE := sameE_eq a b
    have hkid : ∀ k, k ∈ a.kids → cnt k ≤ M := fun k hk => by have := cnt_kid hk; omega
    have hlen : a.kids.length ≤ 100000 := by
      have := len_cnts a.kids
      have := cnt_eq a
      omega
    obtain ⟨r, hr⟩ : ∃ r, sameE a b = r := ⟨_, rfl⟩
    rw [hr] at hE ⊢
    have hT : (a.op = b.op ∧ a.name = b.name ∧ a.value = b.value ∧ a.n = b.n ∧ a.extra = b.extra ∧ a.kids.length = b.kids.length) → r = sameL a.kids b.kids := fun h => by rw [hE, decide_eq_true h, Bool.true_and]
    have hF : ¬ (a.op = b.op ∧ a.name = b.name ∧ a.value = b.value ∧ a.n = b.n ∧ a.extra = b.extra ∧ a.kids.length = b.kids.length) → r = false := fun h => by rw [hE, decide_eq_false h, Bool.false_and]
    clear hE hc hr
    obtain ⟨po, pa, pv, pn, px, ks⟩ := a
    obtain ⟨qo, qa, qv, qn, qx, ls⟩ := b
    dsimp only [Ex.op, Ex.name, Ex.value, Ex.n, Ex.extra, Ex.kids] at hT hF hl hm hkid hlen ⊢
    obtain ⟨A, c, rfl, hAc⟩ := hl.slice
    obtain ⟨B, d, rfl, hBd⟩ := hm.slice
    have HL := Lib.hid hl
    have HM := Lib.hid hm
    have HK := Lib.hid hkid
    clear hl hm hkid
    have HB := Lib.hid (show Below w.heap.size w ((w.alloc (.cells #[.int .i64 po, .string pa, .string pv, .int .i64 pn, .int .i64 px, .slice A ks.length c] 29)).alloc (.cells #[.int .i64 qo, .string qa, .string qv, .int .i64 qn, .int .i64 qx, .slice B ls.length d] 29)) from ((Below.refl _ _).alloc (Nat.le_refl _) _).alloc (by simp) _)
    by_cases hn : po = qo
    rotate_left
    · have hnb : (po == qo) = false := by simpa using hn
      obtain rfl := hF (fun h => hn h.1)
      clear hT hF
      go_enter Tryd.func17, Tryd.ntmps17
      go_wp2_with fail
      go_ret
      exact ⟨rfl, HB.out⟩
    subst hn
    by_cases hn : pa = qa
    rotate_left
    · have hnl := bytes_ne hn
      have hnb : (pa.toList == qa.toList) = false := by simpa using hnl
      obtain rfl := hF (fun h => hn h.2.1)
      clear hT hF
      go_enter Tryd.func17, Tryd.ntmps17
      go_wp2_with fail
      go_ret
      exact ⟨rfl, HB.out⟩
    subst hn
    by_cases hn : pv = qv
    rotate_left
    · have hnl := bytes_ne hn
      have hnb : (pv.toList == qv.toList) = false := by simpa using hnl
      obtain rfl := hF (fun h => hn h.2.2.1)
      clear hT hF
      go_enter Tryd.func17, Tryd.ntmps17
      go_wp2_with fail
      go_ret
      exact ⟨rfl, HB.out⟩
    subst hn
    by_cases hn : pn = qn
    rotate_left
    · have hnb : (pn == qn) = false := by simpa using hn
      obtain rfl := hF (fun h => hn h.2.2.2.1)
      clear hT hF
      go_enter Tryd.func17, Tryd.ntmps17
      go_wp2_with fail
      go_ret
      exact ⟨rfl, HB.out⟩
    subst hn
    by_cases hn : px = qx
    rotate_left
    · have hnb : (px == qx) = false := by simpa using hn
      obtain rfl := hF (fun h => hn h.2.2.2.2.1)
      clear hT hF
      go_enter Tryd.func17, Tryd.ntmps17
      go_wp2_with fail
      go_ret
      exact ⟨rfl, HB.out⟩
    subst hn
    by_cases hn : ks.length = ls.length
    rotate_left
    · have hni : ¬ (ks.length : Int) = (ls.length : Int) := by omega
      have hnb : ((ks.length : Int) == (ls.length : Int)) = false := by simpa using hni
      obtain rfl := hF (fun h => hn h.2.2.2.2.2)
      clear hT hF
      go_enter Tryd.func17, Tryd.ntmps17
      go_wp2_with fail
      go_ret
      exact ⟨rfl, HB.out⟩
    have hnl : ls.length = ks.length := hn.symm
    have HR := Lib.hid (hT ⟨rfl, rfl, rfl, rfl, rfl, hn⟩)
    clear hT hF
    rw [hnl]
    rw [hnl] at HB hBd
    have HNL := Lib.hid hnl
    clear hnl hn
    have HX := Lib.hid ((Has.new w 29 #[.int .i64 po, .string pa, .string pv, .int .i64 pn, .int .i64 px, .slice A ks.length c]).alloc (.cells #[.int .i64 po, .string pa, .string pv, .int .i64 pn, .int .i64 px, .slice B ks.length d] 29))
    have HY := Lib.hid (Has.new (w.alloc (.cells #[.int .i64 po, .string pa, .string pv, .int .i64 pn, .int .i64 px, .slice A ks.length c] 29)) 29 #[.int .i64 po, .string pa, .string pv, .int .i64 pn, .int .i64 px, .slice B ks.length d])
    rw [World.size_alloc] at HY
    go_enter Tryd.func17, Tryd.ntmps17
    go_wp2_with fail
    have hz0 : w.heap.size + 1 < ((w.alloc (.cells #[.int .i64 po, .string pa, .string pv, .int .i64 pn, .int .i64 px, .slice A ks.length c] 29)).alloc (.cells #[.int .i64 po, .string pa, .string pv, .int .i64 pn, .int .i64 px, .slice B ks.length d] 29)).heap.size := HY.out.lt
    have HLw := Lib.hid (HL.out.later HB.out)
    have HMw := Lib.hid (HM.out.later HB.out)
    generalize ((w.alloc (.cells #[.int .i64 po, .string pa, .string pv, .int .i64 pn, .int .i64 px, .slice A ks.length c] 29)).alloc (.cells #[.int .i64 po, .string pa, .string pv, .int .i64 pn, .int .i64 px, .slice B ks.length d] 29)) = w0 at *
    go_loopw [5] (fun i wr => ∃ k : Nat, i = .int .i64 k ∧ k ≤ ks.length ∧ Hid (sameL ks ls = sameL (ks.drop k) (ls.drop k)) ∧ Hid (Below w0.heap.size w0 wr)) (fun i _ => ks.length - (intOf i).toNat)
    case atStart => exact ⟨0, rfl, Nat.zero_le _, rfl, Below.refl _ _⟩
    case round =>
      obtain ⟨k, rfl, hk, HE, HW⟩ := hrel
      have HXr := Lib.hid (HX.out.below HW.out (Nat.lt_of_succ_lt hz0))
      have HYr := Lib.hid (HY.out.below HW.out hz0)
      obtain ⟨dx, fx⟩ := HXr.out.facts
      obtain ⟨dy, fy⟩ := HYr.out.facts
      by_cases hlt : k < ks.length
      · have hki : (k : Int) < (ks.length : Int) := by omega
        have hlt2 : k < ls.length := by rw [HNL.out]; exact hlt
        obtain ⟨_, _, hkid⟩ := (HLw.out.later HW.out).kid
        have hmm := HMw.out.later HW.out
        obtain ⟨_, _, hlid⟩ := hmm.kid
        obtain ⟨b1, o1, kv1, rfl, hcell, hkk⟩ := hkid k hlt
        obtain ⟨b2, o2, kv2, rfl, hdell, hll⟩ := hlid k hlt2
        have hc0 := hcell 0 (by decide)
        have hc1 := hcell 1 (by decide)
        have hc2 := hcell 2 (by decide)
        have hc3 := hcell 3 (by decide)
        have hc4 := hcell 4 (by decide)
        have hc5 := hcell 5 (by decide)
        have hd0 := hdell 0 (by decide)
        have hd1 := hdell 1 (by decide)
        have hd2 := hdell 2 (by decide)
        have hd3 := hdell 3 (by decide)
        have hd4 := hdell 4 (by decide)
        have hd5 := hdell 5 (by decide)
        simp only [exF, if_true, if_false, Nat.reduceEqDiff, Nat.add_one_ne_zero, ← Nat.add_assoc, Nat.add_zero] at hc0 hc1 hc2 hc3 hc4 hc5 hd0 hd1 hd2 hd3 hd4 hd5
        have HC := Lib.hid (fun W (h1 : Lay W kv1 (ks[k]).kids) (h2 : Lay W kv2 (ls[k]).kids) => ih ks[k] ls[k] kv1 kv2 W (HK.out _ (List.getElem_mem hlt)) (by omega) h1 h2)
        have HE2 := Lib.hid (show sameL ks ls = (sameE ks[k] ls[k] && sameL (ks.drop (k + 1)) (ls.drop (k + 1))) by rw [HE.out, List.drop_eq_getElem_cons hlt, List.drop_eq_getElem_cons hlt2, sameL_cons])
        have HKK := Lib.hid hkk
        have HLL := Lib.hid hll
        obtain ⟨A1, c1, rfl, _⟩ := hkk.slice
        obtain ⟨A2, c2, rfl, _⟩ := hll.slice
        have hs3 : IntKind.i64.wrap ((k : Int) + 1) = (k : Int) + 1 := IntWalk.i64_in _ (by omega)
        clear hkid hlid hcell hdell hkk hll hmm
        generalize ks[k] = e1 at *
        generalize ls[k] = e2 at *
        obtain ⟨bs, hbs⟩ : ∃ x, sameE e1 e2 = x := ⟨_, rfl⟩
        rw [hbs] at HC HE2
        clear hbs
        go_wp2_with fail
        refine wp_region_held_drew (S := fun W => W.cell? ⟨w.heap.size, 5, none⟩ = some (.slice (some ⟨b1, o1, none⟩) ks.length c) ∧ W.cell? ⟨w.heap.size + 1, 5, none⟩ = some (.slice (some ⟨b2, o2, none⟩) ks.length d) ∧ W.cell? ⟨b1, o1 + k * 6, none⟩ = some (.int .i64 e1.op) ∧ W.cell? ⟨b1, o1 + k * 6 + 1, none⟩ = some (.string e1.name) ∧ W.cell? ⟨b1, o1 + k * 6 + 2, none⟩ = some (.string e1.value) ∧ W.cell? ⟨b1, o1 + k * 6 + 3, none⟩ = some (.int .i64 e1.n) ∧ W.cell? ⟨b1, o1 + k * 6 + 4, none⟩ = some (.int .i64 e1.extra) ∧ W.cell? ⟨b1, o1 + k * 6 + 5, none⟩ = some (.slice A1 e1.kids.length c1) ∧ W.cell? ⟨b2, o2 + k * 6, none⟩ = some (.int .i64 e2.op) ∧ W.cell? ⟨b2, o2 + k * 6 + 1, none⟩ = some (.string e2.name) ∧ W.cell? ⟨b2, o2 + k * 6 + 2, none⟩ = some (.string e2.value) ∧ W.cell? ⟨b2, o2 + k * 6 + 3, none⟩ = some (.int .i64 e2.n) ∧ W.cell? ⟨b2, o2 + k * 6 + 4, none⟩ = some (.int .i64 e2.extra) ∧ W.cell? ⟨b2, o2 + k * 6 + 5, none⟩ = some (.slice A2 e2.kids.length c2)) (by kernel_rfl) (⟨HXr.out.drew.cell 5, HYr.out.drew.cell 5, hc0, hc1, hc2, hc3, hc4, hc5, hd0, hd1, hd2, hd3, hd4, hd5⟩) (fun hHeld => ?_)
        refine plI [(0, false), (1, false), (2, false), (3, false), (4, false), (5, false), (6, false), (7, false), (8, false), (9, false)] ?_
        repeat ((first | ((with_reducible show Plan ((_, true) :: _) _); refine plF ?_) | (refine plR (v := ?_) ?_ ?_; rotate_left; focus (intro W hSW; (try dsimp only at hSW); go_simp; all_goals (with_reducible rfl)))); try simp only [Act.put, List.setIfInBounds_toArray, List.set_cons_zero, List.set_cons_succ])
        refine plE ?_
        refine wpAnyH_ready (rs := [10]) (by kernel_rfl) (by simp) ?_
        refine AllReadyH.cons (o := ⟨_, _, _, _, _, _⟩) rfl (fun K hK => ?_) AllReadyH.nil
        go_simp
        go_at_call 17; refine (HC.out _ (HKK.out.later (Below.refl _ _).drew) (HLL.out.later (Below.refl _ _).drew)).mono ?_; rintro e w2 ⟨rfl, hb⟩; have HW2 := Lib.hid (HW.out.drew.trans (hb.mono HW.out.drew.size)); have HS := Lib.hid (⟨(HXr.out.drew.below hb HXr.out.drew.lt).cell 5, (HYr.out.drew.below hb HYr.out.drew.lt).cell 5, cell_later hb (hc0 : wr.drew.cell? _ = _), cell_later hb (hc1 : wr.drew.cell? _ = _), cell_later hb (hc2 : wr.drew.cell? _ = _), cell_later hb (hc3 : wr.drew.cell? _ = _), cell_later hb (hc4 : wr.drew.cell? _ = _), cell_later hb (hc5 : wr.drew.cell? _ = _), cell_later hb (hd0 : wr.drew.cell? _ = _), cell_later hb (hd1 : wr.drew.cell? _ = _), cell_later hb (hd2 : wr.drew.cell? _ = _), cell_later hb (hd3 : wr.drew.cell? _ = _), cell_later hb (hd4 : wr.drew.cell? _ = _), cell_later hb (hd5 : wr.drew.cell? _ = _)⟩ : (fun W => W.cell? ⟨w.heap.size, 5, none⟩ = some (.slice (some ⟨b1, o1, none⟩) ks.length c) ∧ W.cell? ⟨w.heap.size + 1, 5, none⟩ = some (.slice (some ⟨b2, o2, none⟩) ks.length d) ∧ W.cell? ⟨b1, o1 + k * 6, none⟩ = some (.int .i64 e1.op) ∧ W.cell? ⟨b1, o1 + k * 6 + 1, none⟩ = some (.string e1.name) ∧ W.cell? ⟨b1, o1 + k * 6 + 2, none⟩ = some (.string e1.value) ∧ W.cell? ⟨b1, o1 + k * 6 + 3, none⟩ = some (.int .i64 e1.n) ∧ W.cell? ⟨b1, o1 + k * 6 + 4, none⟩ = some (.int .i64 e1.extra) ∧ W.cell? ⟨b1, o1 + k * 6 + 5, none⟩ = some (.slice A1 e1.kids.length c1) ∧ W.cell? ⟨b2, o2 + k * 6, none⟩ = some (.int .i64 e2.op) ∧ W.cell? ⟨b2, o2 + k * 6 + 1, none⟩ = some (.string e2.name) ∧ W.cell? ⟨b2, o2 + k * 6 + 2, none⟩ = some (.string e2.value) ∧ W.cell? ⟨b2, o2 + k * 6 + 3, none⟩ = some (.int .i64 e2.n) ∧ W.cell? ⟨b2, o2 + k * 6 + 4, none⟩ = some (.int .i64 e2.extra) ∧ W.cell? ⟨b2, o2 + k * 6 + 5, none⟩ = some (.slice A2 e2.kids.length c2)) w2); have HBB := Lib.hid hb; clear hb
        refine hK.out _ _ (HS.out) (fun hHeld => ?_)
        clear hK K
        try simp only [Act.put, List.setIfInBounds_toArray, List.set_cons_zero, List.set_cons_succ]
        refine plI [(11, false)] ?_
        repeat ((first | ((with_reducible show Plan ((_, true) :: _) _); refine plF ?_) | (refine plR (v := ?_) ?_ ?_; rotate_left; focus (intro W hSW; (try dsimp only at hSW); go_simp; all_goals (with_reducible rfl)))); try simp only [Act.put, List.setIfInBounds_toArray, List.set_cons_zero, List.set_cons_succ])
        refine plE ?_
        refine wpAnyH_done (by kernel_rfl) ?_ _
        clear hHeld HS
        cases bs with
        | true =>
          have HE3 := Lib.hid (HE2.out.trans (Bool.true_and _))
          clear HE2
          go_wp2_with fail
          go_roundw
          case rel => exact ⟨k + 1, by go_num, hlt, HE3, HW2⟩
          case measure => simp [intOf]; omega
        | false =>
          have HE3 := Lib.hid (HE2.out.trans (Bool.false_and _))
          clear HE2
          go_wp2_with fail
          go_ret
          exact ⟨ret_bool (HR.out.trans HE3.out).symm, HB.out.trans (HW2.out.mono HB.out.size)⟩
      · have hki : ¬ (k : Int) < (ks.length : Int) := by omega
        have HE3 := Lib.hid (show sameL ks ls = true by rw [HE.out, List.drop_of_length_le (by omega), sameL_nil])
        go_wp2_with fail
        go_ret
        exact ⟨ret_bool (HR.out.trans HE3.out).symm, HB.out.trans (HW.out.mono HB.out.size)⟩
set_option maxRecDepth 100000 in
set_option maxHeartbeats 8000000 in
def sameU (r s : Ru) : Bool := decide (r.name = s.name) && (decide (r.kind = s.kind) && sameE r.cond s.cond)
theorem sameU_iff (r s : Ru) : sameU r s = true ↔ r = s := by
  obtain ⟨a, b, c⟩ := r
  obtain ⟨a', b', c'⟩ := s
  unfold sameU
  rw [Bool.and_eq_true, Bool.and_eq_true, decide_eq_true_eq, decide_eq_true_eq, sameE_iff]
  exact ⟨fun ⟨h1, h2, h3⟩ => by dsimp only at h1 h2 h3; rw [h1, h2, h3], fun h => by injection h with h1 h2 h3; exact ⟨h1, h2, h3⟩⟩
set_option maxRecDepth 100000 in
set_option maxHeartbeats 8000000 in
theorem same_any (r s : Ru) (kv lv : Value) (w : World) (hc : cnt r.cond ≤ 100000) (hl : Lay w kv r.cond.kids) (hm : Lay w lv s.cond.kids) :
    Calls Tryd.prog 9 #[.agg (ruA r kv), .agg (ruA s lv)] w fun e w' => e = .returned (.bool (sameU r s)) ∧ Below w.heap.size w w' := by
  have hb : Below w.heap.size w ((w.alloc (.cells (ruA r kv) 31)).alloc (.cells (ruA s lv) 31)) := ((Below.refl _ _).alloc (Nat.le_refl _) _).alloc (by simp) _
  have HB := Lib.hid hb
  have HC := Lib.hid (same_rec 100000 r.cond s.cond kv lv _ hc (Nat.le_refl _) (hl.later hb) (hm.later hb))
  obtain ⟨A, c, rfl, _⟩ := hl.slice
  obtain ⟨B, d, rfl, _⟩ := hm.slice
  clear hl hm hb hc
  obtain ⟨ra, rk, rc⟩ := r
  obtain ⟨sa, sk, sc⟩ := s
  dsimp only [ruA] at *
  by_cases h1 : ra = sa
  · subst h1
    by_cases h2 : rk = sk
    · subst h2
      have HE := Lib.hid (show sameU ⟨ra, rk, rc⟩ ⟨ra, rk, sc⟩ = sameE rc sc by unfold sameU; rw [decide_eq_true rfl, decide_eq_true rfl, Bool.true_and, Bool.true_and])
      generalize sameE rc sc = bs at *
      go_enter Tryd.func9, Tryd.ntmps9
      go_wp2_with (go_at_call 17; refine HC.out.mono ?_; rintro e w2 ⟨rfl, hb2⟩; have HW2 := Lib.hid (HB.out.trans (hb2.mono HB.out.size)); clear hb2)
      go_ret
      exact ⟨ret_bool HE.out.symm, HW2.out⟩
    · have HE := Lib.hid (show sameU ⟨ra, rk, rc⟩ ⟨ra, sk, sc⟩ = false by unfold sameU; rw [decide_eq_true rfl, decide_eq_false h2, Bool.true_and, Bool.false_and])
      have hnl := bytes_ne h2
      have hnb : (rk.toList == sk.toList) = false := by simpa using hnl
      go_enter Tryd.func9, Tryd.ntmps9
      go_wp2_with fail
      go_ret
      exact ⟨ret_bool HE.out.symm, HB.out⟩
  · have HE := Lib.hid (show sameU ⟨ra, rk, rc⟩ ⟨sa, sk, sc⟩ = false by unfold sameU; rw [decide_eq_false h1, Bool.false_and])
    have hnl := bytes_ne h1
    have hnb : (ra.toList == sa.toList) = false := by simpa using hnl
    go_enter Tryd.func9, Tryd.ntmps9
    go_wp2_with fail
    go_ret
    exact ⟨ret_bool HE.out.symm, HB.out⟩
end Go.Proofs.YtppoeiofdmlpeaaDoor
namespace Go.Proofs.YtppoeiofdmlpeaaDoor
open Go Go.RowKit
/-- A token without its place. -/
abbrev Tk := Int × ByteArray
def tkOf (f : Fnd) : Tk := (f.kind, f.text)
/-- A byte behind which a token ends. -/
def brk (c : UInt8) : Prop := cls c.toNat = 1 ∨ cls c.toNat = 6
def Brk (B : List UInt8) : Prop := B = [] ∨ ∃ c B', B = c :: B' ∧ brk c
def Bg (B : List UInt8) : Prop := ∃ c B', B = c :: B' ∧ brk c
theorem Bg.app {a : List UInt8} (h : Bg a) (b : List UInt8) : Bg (a ++ b) := by
  obtain ⟨c, r, rfl, h⟩ := h
  exact ⟨c, r ++ b, rfl, h⟩
theorem Bg.brk {a : List UInt8} (h : Bg a) : Brk a := .inr h
theorem cls_brk {s : ByteArray} {A B : List UInt8} (h : s.data.toList = A ++ B) (hB : Brk B) : clsAt s A.length = 0 ∨ clsAt s A.length = 1 ∨ clsAt s A.length = 6 := by
  have hs := size_of h
  rcases hB with rfl | ⟨c, B', rfl, hc⟩
  · left; unfold clsAt; rw [if_neg (by simp at hs; omega)]
  · right
    have := cls_in (A := A) (w := [c]) (B := B') h (k := 0) (by simp)
    rw [Nat.add_zero] at this
    rw [this]; exact hc
theorem brk_at {s : ByteArray} {A w B : List UInt8} (h : s.data.toList = A ++ (w ++ B)) (hB : Brk B) : clsAt s (A.length + w.length) = 0 ∨ clsAt s (A.length + w.length) = 1 ∨ clsAt s (A.length + w.length) = 6 := by
  have := cls_brk (A := A ++ w) (B := B) (s := s) (by rw [h, List.append_assoc]) hB
  rwa [List.length_append] at this
/-- What comes of a text: these tokens, and the tokens behind it. -/
def LexAt (w : List UInt8) (ts : List Tk) (B : List UInt8) : Prop :=
  ∀ (s : ByteArray) (A : List UInt8) (n : Nat), s.data.toList = A ++ (w ++ B) → w.length + B.length < n →
    ∃ fs m, lexGo s n A.length = fs ++ lexGo s m (A.length + w.length) ∧ fs.map tkOf = ts ∧ (∀ f ∈ fs, f.err = 0) ∧ B.length < m
/-- A text that is these tokens, wherever a break follows; whatever follows. -/
def LexT (w : List UInt8) (ts : List Tk) : Prop := ∀ B, Brk B → LexAt w ts B
def LexF (w : List UInt8) (ts : List Tk) : Prop := ∀ B, LexAt w ts B
theorem LexF.t {w : List UInt8} {ts : List Tk} (h : LexF w ts) : LexT w ts := fun B _ => h B
theorem LexAt.app {a b B : List UInt8} {ta tb : List Tk} (ha : LexAt a ta (b ++ B)) (hb : LexAt b tb B) : LexAt (a ++ b) (ta ++ tb) B := by
  intro s A n hs hn
  rw [List.append_assoc] at hs
  obtain ⟨f1, m1, e1, t1, z1, g1⟩ := ha s A n hs (by rw [List.length_append] at hn; rw [List.length_append]; omega)
  obtain ⟨f2, m2, e2, t2, z2, g2⟩ := hb s (A ++ a) m1 (by rw [hs, List.append_assoc]) (by rw [List.length_append] at g1; exact g1)
  rw [List.length_append] at e2
  refine ⟨f1 ++ f2, m2, by rw [e1, e2, List.append_assoc, List.length_append, Nat.add_assoc], by rw [List.map_append, t1, t2], fun f hf => ?_, g2⟩
  rcases List.mem_append.1 hf with hf | hf
  · exact z1 f hf
  · exact z2 f hf
theorem LexF.ff {a b : List UInt8} {ta tb : List Tk} (ha : LexF a ta) (hb : LexF b tb) : LexF (a ++ b) (ta ++ tb) := fun B => (ha _).app (hb B)
theorem LexF.ft {a b : List UInt8} {ta tb : List Tk} (ha : LexF a ta) (hb : LexT b tb) : LexT (a ++ b) (ta ++ tb) := fun B h => (ha _).app (hb B h)
theorem LexT.tf {a b : List UInt8} {ta tb : List Tk} (ha : LexT a ta) (hb : LexF b tb) (h : Bg b) : LexF (a ++ b) (ta ++ tb) := fun B => (ha _ (h.app B).brk).app (hb B)
theorem LexT.tt {a b : List UInt8} {ta tb : List Tk} (ha : LexT a ta) (hb : LexT b tb) (h : Bg b) : LexT (a ++ b) (ta ++ tb) := fun B hB => (ha _ (h.app B).brk).app (hb B hB)
theorem lexF_blank {c : UInt8} (hc : cls c.toNat = 1) : LexF [c] [] := by
  intro B s A n hs hn
  have hsz := size_of hs
  rw [List.length_append, List.length_append] at hsz
  have hl : ([c] : List UInt8).length = 1 := rfl
  have h4 := cls_in hs (k := 0) (Nat.lt_succ_self 0)
  rw [Nat.add_zero] at h4
  cases n with
  | zero => omega
  | succ n => exact ⟨[], n, by rw [lexGo_succ, if_neg (by omega), if_pos (h4.trans hc)]; rfl, rfl, fun f hf => (by cases hf), by omega⟩
theorem lexF_sym {c : UInt8} (hc : cls c.toNat = 6) : LexF [c] [(4, ⟨#[c]⟩)] := by
  intro B s A n hs hn
  have hsz := size_of hs
  rw [List.length_append, List.length_append] at hsz
  have hl : ([c] : List UInt8).length = 1 := rfl
  have h4 := cls_in hs (k := 0) (Nat.lt_succ_self 0)
  rw [Nat.add_zero] at h4
  have h6 : clsAt s A.length = 6 := h4.trans hc
  cases n with
  | zero => omega
  | succ n =>
    refine ⟨[⟨4, ⟨#[c]⟩, (A.length : Nat), 0⟩], n, ?_, rfl, fun f hf => ?_, by omega⟩
    · rw [lexGo_succ, if_neg (by omega), if_neg (by omega), if_neg (by omega), if_neg (by omega), if_neg (by omega), if_neg (by omega), if_pos h6]
      rw [show A.length + 1 = A.length + ([c] : List UInt8).length from rfl, cut_mid hs]
      rfl
    · rw [List.mem_singleton] at hf; subst hf; rfl
theorem lexF_quote (v : List UInt8) : LexF (quoteL v) [(3, ⟨v.toArray⟩)] := by
  intro B s A n hs hn
  have hl : 0 < (quoteL v).length := by simp [quoteL]
  have hsz := size_of hs
  rw [List.length_append, List.length_append] at hsz
  have hfirst : clsAt s A.length = 7 := by
    have h4 := cls_in hs (k := 0) hl
    rw [Nat.add_zero] at h4
    rw [h4]; rfl
  have hu := unq_quote (cut_rest hs)
  cases n with
  | zero => omega
  | succ n =>
    refine ⟨[⟨3, ⟨v.toArray⟩, (A.length : Nat), 0⟩], n, ?_, rfl, fun f hf => ?_, by omega⟩
    · rw [lexGo_succ, if_neg (by omega), if_neg (by omega), if_neg (by omega), if_neg (by omega), if_neg (by omega), if_pos hfirst, hu]
      rfl
    · rw [List.mem_singleton] at hf; subst hf; rfl
theorem lexT_name {b : ByteArray} (h : nameB b = true) : LexT b.data.toList [(1, b)] := by
  unfold nameB at h
  obtain ⟨h0, h1, h2⟩ := of_decide_eq_true h
  have hl : b.data.toList.length = b.size := rfl
  intro B hB s A n hs hn
  have hsz := size_of hs
  rw [List.length_append, List.length_append] at hsz
  have hc : ∀ k (hk : k < b.data.toList.length), okAt k (b.data.toList[k]).toNat = true := fun k hk => by
    have := h2 k (by omega)
    have e : byteAt b k = (b.data.toList[k]).toNat := by
      unfold byteAt; rw [List.getD_eq_getElem?_getD, List.getElem?_eq_getElem hk]; rfl
    rwa [e] at this
  have hfirst : clsAt s A.length = 3 := by
    have h3 := hc 0 (by omega)
    have h4 := cls_in hs (k := 0) (by omega)
    rw [Nat.add_zero] at h4
    rw [h4]
    simpa [okAt] using h3
  have hend : wordEnd s A.length = A.length + b.data.toList.length := by
    refine end_at hs (wordP s) (fun k hk => ?_) ?_
    · unfold wordP
      rw [cls_in hs hk]
      have := hc k hk
      unfold okAt at this
      simp only [Bool.or_eq_true, Bool.and_eq_true] at this ⊢
      rcases this with h | ⟨_, h | h⟩
      · exact .inl h
      · exact .inr (.inl h)
      · exact .inr (.inr h)
    · unfold wordP
      rcases brk_at hs hB with h | h | h <;> rw [h] <;> rfl
  cases n with
  | zero => omega
  | succ n =>
    refine ⟨[⟨1, b, (A.length : Nat), 0⟩], n, ?_, rfl, fun f hf => ?_, by omega⟩
    · rw [lexGo_succ, if_neg (by omega), if_neg (by omega), if_neg (by omega), if_pos hfirst, hend, if_neg (by omega), cut_mid hs]
      rfl
    · rw [List.mem_singleton] at hf; subst hf; rfl
theorem lexT_dec {u : Nat} (h : u < 10000000) : LexT (Lib.decDigits u) [(2, ⟨(Lib.decDigits u).toArray⟩)] := by
  obtain ⟨h0, h7⟩ := dec_len h
  intro B hB s A n hs hn
  have hsz := size_of hs
  rw [List.length_append, List.length_append] at hsz
  have hc : ∀ k (hk : k < (Lib.decDigits u).length), cls ((Lib.decDigits u)[k]).toNat = 4 := fun k hk => cls_digit (dig_in u _ (List.getElem_mem hk))
  have hfirst : clsAt s A.length = 4 := by
    have h4 := cls_in hs (k := 0) h0
    rw [Nat.add_zero] at h4
    rw [h4]; exact hc 0 h0
  have hst := brk_at hs hB
  have hend : digEnd s A.length = A.length + (Lib.decDigits u).length := by
    refine end_at hs (digP s) (fun k hk => ?_) ?_
    · unfold digP
      rw [cls_in hs hk, hc k hk]; rfl
    · unfold digP
      rcases hst with h | h | h <;> rw [h] <;> rfl
  cases n with
  | zero => omega
  | succ n =>
    refine ⟨[⟨2, ⟨(Lib.decDigits u).toArray⟩, (A.length : Nat), 0⟩], n, ?_, rfl, fun f hf => ?_, by omega⟩
    · rw [lexGo_succ, if_neg (by omega), if_neg (by omega), if_neg (by omega), if_neg (by omega), if_pos hfirst, hend, if_neg (by omega), cut_mid hs]
      rfl
    · rw [List.mem_singleton] at hf; subst hf; rfl
theorem lexT_int {n : Int} (h0 : 0 ≤ n) (h1 : n ≤ 9999999) : LexT (itoaB n).data.toList [(2, itoaB n)] := by
  obtain ⟨u, rfl⟩ : ∃ u : Nat, n = u := ⟨n.toNat, by omega⟩
  have e : itoaB (u : Int) = ⟨(Lib.decDigits u).toArray⟩ := by
    unfold itoaB Lib.itoa
    rw [if_neg (by omega)]; rfl
  rw [e]
  exact lexT_dec (by omega)
/-- The tokens of a whole text. -/
theorem lex_whole {s : ByteArray} {ts : List Tk} (h : LexT s.data.toList ts) (h1 : s.size ≤ 20000) (h2 : ts.length ≤ 5000) : ∃ fs, lexL s = (fs, 0, 0) ∧ fs.map tkOf = ts := by
  obtain ⟨fs, m, e, ht, hz, hm⟩ := h [] (.inl rfl) s [] (s.size + 1) (by simp) (by simp)
  have hn : lexGo s m (([] : List UInt8).length + s.data.toList.length) = [] := by
    cases m with
    | zero => omega
    | succ m => rw [lexGo_succ, if_pos (by simp)]
  rw [hn, List.append_nil] at e
  refine ⟨fs, ?_, ht⟩
  have hlen : fs.length = ts.length := by rw [← ht, List.length_map]
  unfold lexL
  rw [if_neg (by omega), show lexF s = fs from e, takeF_all fs [] hz (by simp; omega)]
  rfl
end Go.Proofs.YtppoeiofdmlpeaaDoor
namespace Go.Proofs.YtppoeiofdmlpeaaDoor
open Go Go.RowKit
def kidK (op kop : Int) (t : List Tk) : List Tk := if (kop = 3 ∨ kop = 4) ∧ op ≤ 4 then (4, wOpen) :: (t ++ [(4, wShut)]) else t
def joinK (sep : Tk) : List (List Tk) → List Tk
  | [] => []
  | t :: r => t ++ r.flatMap (sep :: ·)
def nodeK (op : Int) (name value : ByteArray) (n extra : Int) (ts : List (List Tk)) : List Tk :=
  if op = 2 then (1, wNot) :: ts.getD 0 []
  else if op = 3 then joinK (1, wAnd) ts
  else if op = 4 then joinK (1, wOr) ts
  else if op = 5 then (1, wLimit) :: (1, name) :: (2, itoaB n) :: (if 0 < extra then [(1, wPlus), (2, itoaB extra)] else [])
  else if op = 6 then [(1, wOver), (1, name), (2, itoaB n)]
  else if op = 7 then [(1, name), (4, wEq), (3, value)]
  else if op = 8 then [(1, wHas), (1, name)]
  else if op = 9 then [(1, wSlot), (1, name), (1, wIs), (1, value)]
  else if op = 10 then (1, wAll) :: (1, name) :: (4, wOpen) :: (ts.getD 0 [] ++ [(4, wShut)])
  else if op = 11 then (1, wAny) :: (1, name) :: (4, wOpen) :: (ts.getD 0 [] ++ [(4, wShut)])
  else if op = 12 then [(1, wAt), (1, wLeast), (2, itoaB n), (1, name)]
  else [(1, wTrue)]
mutual
/-- The tokens of a condition's text. -/
def tokE : Ex → List Tk
  | .mk op name value n extra ks => nodeK op name value n extra (tokEs op ks)
def tokEs (op : Int) : List Ex → List (List Tk)
  | [] => []
  | k :: ks => kidK op k.op (tokE k) :: tokEs op ks
end
theorem tokE_eq (e : Ex) : tokE e = nodeK e.op e.name e.value e.n e.extra (tokEs e.op e.kids) := by cases e; rw [tokE]; rfl
theorem tokEs_cons (op : Int) (k : Ex) (ks : List Ex) : tokEs op (k :: ks) = kidK op k.op (tokE k) :: tokEs op ks := by rw [tokEs]
theorem tokEs_nil (op : Int) : tokEs op [] = [] := by rw [tokEs]
def ruleK (r : Ru) : List Tk := (1, wRule) :: (1, r.name) :: (1, wFor) :: (1, r.kind) :: (4, wColon) :: (tokE r.cond ++ [(4, wSemi)])
theorem toL_app (a b : ByteArray) : (a ++ b).data.toList = a.data.toList ++ b.data.toList := by
  rw [ByteArray.data_append, Array.toList_append]
theorem lexF_sp : LexF [32] [] := lexF_blank (by decide +kernel)
theorem bg_sp (l : List UInt8) : Bg (32 :: l) := ⟨32, l, rfl, .inl (by decide +kernel)⟩
theorem lexF_open : LexF [40] [(4, wOpen)] := lexF_sym (by decide +kernel)
theorem lexF_shut : LexF [41] [(4, wShut)] := lexF_sym (by decide +kernel)
theorem bg_shut : Bg [41] := ⟨41, [], rfl, .inr (by decide +kernel)⟩
/-- A word, and a space behind it. -/
theorem lexF_word {b : ByteArray} (h : nameB b = true) : LexF (b.data.toList ++ [32]) [(1, b)] := (lexT_name h).tf lexF_sp (bg_sp [])
theorem lexF_num {n : Int} (h0 : 0 ≤ n) (h1 : n ≤ 9999999) : LexF ((itoaB n).data.toList ++ [32]) [(2, itoaB n)] := (lexT_int h0 h1).tf lexF_sp (bg_sp [])
theorem lexF_sNot : LexF sNot.data.toList [(1, wNot)] := lexF_word (b := wNot) (by decide +kernel)
theorem lexF_sLimit : LexF sLimit.data.toList [(1, wLimit)] := lexF_word (b := wLimit) (by decide +kernel)
theorem lexF_sOver : LexF sOver.data.toList [(1, wOver)] := lexF_word (b := wOver) (by decide +kernel)
theorem lexF_sHas : LexF sHas.data.toList [(1, wHas)] := lexF_word (b := wHas) (by decide +kernel)
theorem lexF_sSlot : LexF sSlot.data.toList [(1, wSlot)] := lexF_word (b := wSlot) (by decide +kernel)
theorem lexF_sAll : LexF sAll.data.toList [(1, wAll)] := lexF_word (b := wAll) (by decide +kernel)
theorem lexF_sAny : LexF sAny.data.toList [(1, wAny)] := lexF_word (b := wAny) (by decide +kernel)
theorem lexF_sRule : LexF sRule.data.toList [(1, wRule)] := lexF_word (b := wRule) (by decide +kernel)
theorem lexF_sAt : LexF sAt.data.toList [(1, wAt), (1, wLeast)] := (lexF_word (b := wAt) (by decide +kernel)).ff (lexF_word (b := wLeast) (by decide +kernel))
theorem lexF_sAnd : LexF sAnd.data.toList [(1, wAnd)] := lexF_sp.ff (lexF_word (b := wAnd) (by decide +kernel))
theorem lexF_sOr : LexF sOr.data.toList [(1, wOr)] := lexF_sp.ff (lexF_word (b := wOr) (by decide +kernel))
theorem lexF_sPlus : LexF sPlus.data.toList [(1, wPlus)] := lexF_sp.ff (lexF_word (b := wPlus) (by decide +kernel))
theorem lexF_sIs : LexF sIs.data.toList [(1, wIs)] := lexF_sp.ff (lexF_word (b := wIs) (by decide +kernel))
theorem lexF_sFor : LexF sFor.data.toList [(1, wFor)] := lexF_sp.ff (lexF_word (b := wFor) (by decide +kernel))
theorem lexF_sEq : LexF sEq.data.toList [(4, wEq)] := lexF_sp.ff ((lexF_sym (c := 61) (by decide +kernel)).ff lexF_sp)
theorem lexF_sOpen : LexF sOpen.data.toList [(4, wOpen)] := lexF_sp.ff lexF_open
theorem lexF_sColon : LexF sColon.data.toList [(4, wColon)] := (lexF_sym (c := 58) (by decide +kernel)).ff lexF_sp
theorem lexF_sEnd : LexF sEnd.data.toList [(4, wSemi)] := (lexF_sym (c := 59) (by decide +kernel)).ff (lexF_blank (c := 10) (by decide +kernel))
theorem bg_colon : Bg sColon.data.toList := ⟨58, [32], rfl, .inr (by decide +kernel)⟩
theorem bg_end : Bg sEnd.data.toList := ⟨59, [10], rfl, .inr (by decide +kernel)⟩
theorem lexT_kid {op kop : Int} {t : ByteArray} {ts : List Tk} (h : LexT t.data.toList ts) : LexT (kidT op kop t).data.toList (kidK op kop ts) := by
  unfold kidT kidK
  split
  · rw [toL_app, toL_app]
    have h1 := (lexF_open.ft h).tf lexF_shut bg_shut
    rw [List.append_assoc] at h1 ⊢
    exact h1.t
  · exact h
theorem lexT_tail {sep : List UInt8} {st : Tk} (hF : LexF sep [st]) (hB : Bg sep) : ∀ (ks : List Ex) (op : Int), (∀ k ∈ ks, LexT (texE k).data.toList (tokE k)) → ∀ (w : List UInt8) (t : List Tk), LexT w t →
    LexT (w ++ Lib.joinTail sep ((texs op ks).map fun b => b.data.toList)) (t ++ (tokEs op ks).flatMap (st :: ·))
  | [], op, _, w, t, hw => by
    rw [texs_nil, tokEs_nil]
    simpa [Lib.joinTail] using hw
  | k :: ks, op, hk, w, t, hw => by
    have h1 := lexT_kid (op := op) (kop := k.op) (hk k (List.mem_cons_self ..))
    have h2 := hw.tt (hF.ft h1) (hB.app _)
    have h3 := lexT_tail hF hB ks op (fun x hx => hk x (List.mem_cons_of_mem _ hx)) _ _ h2
    rw [texs_cons, tokEs_cons]
    simpa [Lib.joinTail] using h3
theorem lexT_joined {sep : ByteArray} {st : Tk} (hF : LexF sep.data.toList [st]) (hB : Bg sep.data.toList) (k : Ex) (ks : List Ex) (op : Int) (hk : ∀ x ∈ k :: ks, LexT (texE x).data.toList (tokE x)) :
    LexT (joined (texs op (k :: ks)) sep).data.toList (joinK st (tokEs op (k :: ks))) := by
  rw [texs_cons, tokEs_cons]
  show LexT (Lib.join ((kidT op k.op (texE k) :: texs op ks).map (·.data.toList)) sep.data.toList) (kidK op k.op (tokE k) ++ (tokEs op ks).flatMap (st :: ·))
  rw [List.map_cons, Lib.join_cons]
  exact lexT_tail hF hB ks op (fun x hx => hk x (List.mem_cons_of_mem _ hx)) _ _ (lexT_kid (hk k (List.mem_cons_self ..)))
theorem one_kid {ks : List Ex} (h : ks.length = 1) : ∃ c, ks = [c] := List.length_eq_one_iff.1 h
theorem two_kids {ks : List Ex} (h : 2 ≤ ks.length) : ∃ c d r, ks = c :: d :: r := by
  match ks, h with
  | c :: d :: r, _ => exact ⟨c, d, r, rfl⟩
set_option maxHeartbeats 2000000 in
theorem texE_lex : ∀ e : Ex, allB e = true → LexT (texE e).data.toList (tokE e) := by
  refine Ex.ind fun e ih h => ?_
  rw [allB_eq, Bool.and_eq_true, allsB_all, List.all_eq_true] at h
  obtain ⟨h1, h2⟩ := h
  have hk : ∀ k ∈ e.kids, LexT (texE k).data.toList (tokE k) := fun k hm => ih k hm (h2 k hm)
  obtain ⟨hop, hkids, hnm, hres, hv, hn, hx⟩ := node_parts h1
  rw [texE_eq, tokE_eq]
  generalize e.kids = ks at *
  generalize e.op = op at *
  generalize e.name = name at *
  generalize e.value = value at *
  generalize e.n = n at *
  generalize e.extra = extra at *
  clear ih h1 h2
  obtain rfl | rfl | rfl | rfl | rfl | rfl | rfl | rfl | rfl | rfl | rfl | rfl : op = 1 ∨ op = 2 ∨ op = 3 ∨ op = 4 ∨ op = 5 ∨ op = 6 ∨ op = 7 ∨ op = 8 ∨ op = 9 ∨ op = 10 ∨ op = 11 ∨ op = 12 := by omega
  all_goals simp only [Int.reduceEq, Int.reduceLE, if_true, if_false, or_self, or_true, or_false] at hkids hnm hv hn hx
  all_goals simp only [nodeT, nodeK, Int.reduceEq, if_true, if_false]
  · exact lexT_name (b := wTrue) (by decide +kernel)
  · obtain ⟨c, rfl⟩ := one_kid hkids
    rw [texs_cons, tokEs_cons, toL_app]
    exact lexF_sNot.ft (lexT_kid (hk c (List.mem_cons_self ..)))
  · obtain ⟨c, d, r, rfl⟩ := two_kids hkids
    exact lexT_joined lexF_sAnd (bg_sp _) c (d :: r) 3 hk
  · obtain ⟨c, d, r, rfl⟩ := two_kids hkids
    exact lexT_joined lexF_sOr (bg_sp _) c (d :: r) 4 hk
  · split
    · rename_i hp
      simp only [toL_app, List.append_assoc]
      exact lexF_sLimit.ft (b := _ ++ _) ((lexT_name hnm).tt (lexF_sp.ft ((lexT_int hn.1 hn.2).tt (lexF_sPlus.ft (lexT_int hx.1 hx.2)) (bg_sp _))) (bg_sp _))
    · simp only [toL_app, List.append_assoc]
      exact lexF_sLimit.ft ((lexT_name hnm).tt (lexF_sp.ft (lexT_int hn.1 hn.2)) (bg_sp _))
  · simp only [toL_app, List.append_assoc]
    exact lexF_sOver.ft ((lexT_name hnm).tt (lexF_sp.ft (lexT_int hn.1 hn.2)) (bg_sp _))
  · simp only [toL_app, List.append_assoc]
    exact ((lexT_name hnm).tf (lexF_sEq.ff (lexF_quote value.data.toList)) (bg_sp _)).t
  · simp only [toL_app]
    exact lexF_sHas.ft (lexT_name hnm)
  · simp only [toL_app, List.append_assoc]
    exact lexF_sSlot.ft ((lexT_name hnm).tt (lexF_sIs.ft (lexT_name hv)) (bg_sp _))
  · obtain ⟨c, rfl⟩ := one_kid hkids
    rw [texs_cons, tokEs_cons]
    simp only [toL_app, List.append_assoc]
    exact lexF_sAll.ft ((lexT_name hnm).tt (lexF_sOpen.ft (((lexT_kid (hk c (List.mem_cons_self ..))).tf lexF_shut bg_shut).t)) (bg_sp _))
  · obtain ⟨c, rfl⟩ := one_kid hkids
    rw [texs_cons, tokEs_cons]
    simp only [toL_app, List.append_assoc]
    exact lexF_sAny.ft ((lexT_name hnm).tt (lexF_sOpen.ft (((lexT_kid (hk c (List.mem_cons_self ..))).tf lexF_shut bg_shut).t)) (bg_sp _))
  · simp only [toL_app, List.append_assoc]
    exact lexF_sAt.ft ((lexT_int (by omega) hn.2).tt (lexF_sp.ft (lexT_name hnm)) (bg_sp _))
theorem ruleT_lex {r : Ru} (h : ruleB r = true) : LexT (ruleT r).data.toList (ruleK r) := by
  unfold ruleB condB at h
  simp only [Bool.and_eq_true, decide_eq_true_eq] at h
  obtain ⟨h1, h2, _, h4⟩ := h
  unfold ruleT ruleK
  simp only [toL_app, List.append_assoc]
  exact lexF_sRule.ft ((lexT_name h1).tt (lexF_sFor.ft ((lexT_name h2).tt (lexF_sColon.ft (((texE_lex _ h4).tf lexF_sEnd bg_end).t)) (bg_colon.app _))) (bg_sp _))
end Go.Proofs.YtppoeiofdmlpeaaDoor
namespace Go.Proofs.YtppoeiofdmlpeaaDoor
open Go Go.RowKit
/-- Tokens that are these, apart from their places. -/
def Are (fs : List Fnd) (ts : List Tk) : Prop := fs.map tkOf = ts
theorem are_nil {fs : List Fnd} (h : Are fs []) : fs = [] := List.map_eq_nil_iff.1 h
theorem are_cons {fs : List Fnd} {t : Tk} {ts : List Tk} (h : Are fs (t :: ts)) : ∃ f g, fs = f :: g ∧ f.kind = t.1 ∧ f.text = t.2 ∧ Are g ts := by
  obtain ⟨f, g, rfl, h1, h2⟩ := List.map_eq_cons_iff.1 h
  exact ⟨f, g, rfl, congrArg Prod.fst h1, congrArg Prod.snd h1, h2⟩
theorem are_app {fs : List Fnd} {a b : List Tk} (h : Are fs (a ++ b)) : ∃ f g, fs = f ++ g ∧ Are f a ∧ Are g b := by
  obtain ⟨f, g, h1, h2, h3⟩ := List.map_eq_append_iff.1 h
  exact ⟨f, g, h1, h2, h3⟩
theorem are_len {fs : List Fnd} {ts : List Tk} (h : Are fs ts) : fs.length = ts.length := by rw [← h, List.length_map]
theorem skip_is {f : Fnd} {s : ByteArray} {k : Int} (r : List Fnd) (h1 : f.kind = k) (hk : k = 1 ∨ k = 4) (h2 : f.text = s) : skipB s (f :: r) = true := by
  unfold skipB
  exact decide_eq_true ⟨h2, by rw [h1]; exact hk⟩
theorem skip_not {f : Fnd} {s t : ByteArray} (r : List Fnd) (h2 : f.text = t) (h : t ≠ s) : skipB s (f :: r) = false := by
  unfold skipB
  exact decide_eq_false fun hh => h (h2.symm.trans hh.1)
theorem want_is {E : Int} {f : Fnd} {s : ByteArray} {k : Int} (r : List Fnd) (h1 : f.kind = k) (hk : k = 1 ∨ k = 4) (h2 : f.text = s) : wantP E s (f :: r) = .ok () r := by
  unfold wantP
  rw [skip_is r h1 hk h2]
  rfl
theorem next_is {E k : Int} {f : Fnd} {s : ByteArray} {check : ByteArray → Bool} (r : List Fnd) (h1 : f.kind = k) (h2 : f.text = s) (hc : check s = true) : nextP E k check (f :: r) = .ok s r := by
  show (if f.kind = k then (if check f.text then Got.ok f.text r else .bad 13 f.pos) else .bad 8 f.pos) = _
  rw [if_pos h1, h2, if_pos hc]
theorem name_is {E : Int} {f : Fnd} {s : ByteArray} (r : List Fnd) (h1 : f.kind = 1) (h2 : f.text = s) (hc : nameB s = true) : nameP E (f :: r) = .ok s r := next_is r h1 h2 hc
theorem num_is {E low : Int} {f : Fnd} {n : Int} (r : List Fnd) (h1 : f.kind = 2) (h2 : f.text = itoaB n) (h0 : 0 ≤ n) (h9 : n ≤ 9999999) (hl : low ≤ n) : numP E low (f :: r) = .ok n r := by
  have hv := num_int h0 (show n < 10000000 by omega)
  unfold numP
  rw [next_is r h1 h2 (show numB low (itoaB n) = true by unfold numB; rw [hv]; exact decide_eq_true hl)]
  show Got.ok (atoiV (itoaB n).data.toList) r = _
  rw [hv]
section
variable {E : Int} {one : List Fnd → Got Ex}
/-- The further things of a list. -/
theorem more_are {word : ByteArray} (sk : Int) (hsk : sk = 1 ∨ sk = 4) (op : Int) : ∀ (ks : List Ex) (n : Nat) (fs r : List Fnd), Are fs ((tokEs op ks).flatMap ((sk, word) :: ·)) → ks.length ≤ n → skipB word r = false →
    (∀ k ∈ ks, ∀ f q, Are f (kidK op k.op (tokE k)) → f.length < fs.length → (q = r ∨ ∃ t q', q = t :: q' ∧ t.text = word) → one (f ++ q) = .ok k q) →
    moreP word one n (fs ++ r) = .ok ks r
  | [], n, fs, r, h, _, hr, _ => by
    rw [tokEs_nil] at h
    have := are_nil h
    subst this
    rw [List.nil_append]
    cases n with
    | zero => rfl
    | succ n => show (if skipB word r then _ else _) = _; rw [hr]; rfl
  | k :: ks, 0, fs, r, _, hn, _, _ => by cases hn
  | k :: ks, n + 1, fs, r, h, hn, hr, hk => by
    rw [tokEs_cons, List.flatMap_cons] at h
    obtain ⟨f1, f2, rfl, h1, h2⟩ := are_app h
    obtain ⟨f, g, rfl, k1, k2, h3⟩ := are_cons h1
    have hs : skipB word ((f :: g ++ f2) ++ r) = true := skip_is _ k1 hsk k2
    show (if skipB word ((f :: g ++ f2) ++ r) then _ else _) = _
    rw [if_pos hs]
    have hq : f2 ++ r = r ∨ ∃ t q', f2 ++ r = t :: q' ∧ t.text = word := by
      cases ks with
      | nil =>
        rw [tokEs_nil] at h2
        have := are_nil h2
        subst this
        exact .inl rfl
      | cons k2 ks =>
        rw [tokEs_cons, List.flatMap_cons] at h2
        obtain ⟨f3, f4, rfl, h5, _⟩ := are_app h2
        obtain ⟨f5, g5, rfl, _, h6, _⟩ := are_cons h5
        exact .inr ⟨f5, g5 ++ f4 ++ r, rfl, h6⟩
    have ho := hk k (List.mem_cons_self ..) g (f2 ++ r) h3 (by simp only [List.length_append, List.length_cons]; omega) hq
    show ((one (g ++ f2 ++ r)).bind fun c r => (moreP word one n r).bind fun cs r2 => .ok (c :: cs) r2) = _
    rw [List.append_assoc, ho]
    show ((moreP word one n (f2 ++ r)).bind fun cs r2 => .ok (k :: cs) r2) = _
    rw [more_are sk hsk op ks n f2 r h2 (by simp at hn; omega) hr fun x hx f' q hf hl hq => hk x (List.mem_cons_of_mem _ hx) f' q hf (by simp; omega) hq]
    rfl
/-- A list of several things. -/
theorem ser_are {word : ByteArray} (sk : Int) (hsk : sk = 1 ∨ sk = 4) (op : Int) (k : Ex) (ks : List Ex) (fs r : List Fnd) (h : Are fs (joinK (sk, word) (tokEs op (k :: ks)))) (hr : skipB word r = false)
    (hk : ∀ x ∈ k :: ks, ∀ f q, Are f (kidK op x.op (tokE x)) → f.length ≤ fs.length → (q = r ∨ ∃ t q', q = t :: q' ∧ t.text = word) → one (f ++ q) = .ok x q) (o : Int) :
    serP word o one (fs ++ r) = .ok (oneOf o k ks) r := by
  rw [tokEs_cons] at h
  obtain ⟨f1, f2, rfl, h1, h2⟩ := are_app (show Are fs (kidK op k.op (tokE k) ++ (tokEs op ks).flatMap ((sk, word) :: ·)) from h)
  have hq : f2 ++ r = r ∨ ∃ t q', f2 ++ r = t :: q' ∧ t.text = word := by
    cases ks with
    | nil =>
      rw [tokEs_nil] at h2
      have := are_nil h2
      subst this
      exact .inl rfl
    | cons k2 ks =>
      rw [tokEs_cons, List.flatMap_cons] at h2
      obtain ⟨f3, f4, rfl, h5, _⟩ := are_app h2
      obtain ⟨f5, g5, rfl, _, h6, _⟩ := are_cons h5
      exact .inr ⟨f5, g5 ++ f4 ++ r, rfl, h6⟩
  have hn : ks.length ≤ (f2 ++ r).length := by
    have := are_len h2
    have h3 : ∀ ks : List Ex, ks.length ≤ ((tokEs op ks).flatMap ((sk, word) :: ·)).length := by
      intro ks
      induction ks with
      | nil => exact Nat.zero_le _
      | cons x r ih => rw [tokEs_cons, List.flatMap_cons, List.length_append, List.length_cons, List.length_cons]; omega
    have := h3 ks
    rw [List.length_append]
    omega
  unfold serP
  rw [List.append_assoc, hk k (List.mem_cons_self ..) f1 (f2 ++ r) h1 (by simp) hq]
  show ((moreP word one (f2 ++ r).length (f2 ++ r)).bind fun cs r2 => .ok (oneOf o k cs) r2) = _
  rw [more_are sk hsk op ks _ f2 r h2 hn hr fun x hx f' q hf hl hq => hk x (List.mem_cons_of_mem _ hx) f' q hf (by simp; omega) hq]
  rfl
/-- One thing alone. -/
theorem ser_one {word : ByteArray} {o : Int} {l r : List Fnd} {c : Ex} (h : one l = .ok c r) (hr : skipB word r = false) : serP word o one l = .ok c r := by
  unfold serP
  rw [h]
  show ((moreP word one r.length r).bind fun cs r2 => .ok (oneOf o c cs) r2) = _
  cases hn : r.length with
  | zero => rfl
  | succ n =>
    show ((if skipB word r then _ else _ : Got (List Ex)).bind fun cs r2 => .ok (oneOf o c cs) r2) = _
    rw [hr]
    rfl
end
/-- What follows a condition: no word that goes on with it. -/
def NxA (r : List Fnd) : Prop := skipB wPlus r = false
def NxC (r : List Fnd) : Prop := skipB wPlus r = false ∧ skipB wAnd r = false ∧ skipB wOr r = false
theorem nxC_of {t : Fnd} {q : List Fnd} {w : ByteArray} (h : t.text = w) (h1 : w ≠ wPlus) (h2 : w ≠ wAnd) (h3 : w ≠ wOr) : NxC (t :: q) := ⟨skip_not q h h1, skip_not q h h2, skip_not q h h3⟩
/-- How a condition is read: alone, and in parentheses. -/
def ReadN (e : Ex) : Prop := e.op ≠ 3 ∧ e.op ≠ 4 → ∀ (E : Int) (k : Nat) (fs r : List Fnd), Are fs (tokE e) → fs.length < k → NxA r → notP E k (fs ++ r) = .ok e r
def ReadC (e : Ex) : Prop := ∀ (E : Int) (k : Nat) (fs r : List Fnd), Are fs (tokE e) → fs.length < k → NxC r → condP (notP E k) (fs ++ r) = .ok e r
theorem in_are {e : Ex} (h : ReadC e) (E : Int) (k : Nat) (fs r : List Fnd) (hf : Are fs ((4, wOpen) :: (tokE e ++ [(4, wShut)]))) (hk : fs.length < k + 1) : inP E (notP E k) (fs ++ r) = .ok e r := by
  obtain ⟨f, g, rfl, h1, h2, h3⟩ := are_cons hf
  obtain ⟨g1, g2, rfl, h4, h5⟩ := are_app h3
  obtain ⟨c, q, rfl, h6, h7, h8⟩ := are_cons h5
  have := are_nil h8
  subst this
  unfold inP
  rw [show (f :: (g1 ++ [c])) ++ r = f :: (g1 ++ (c :: r)) by simp, want_is _ h1 (.inr rfl) h2]
  show ((condP (notP E k) (g1 ++ (c :: r))).bind fun c r2 => (wantP E wShut r2).bind fun _ r3 => .ok c r3) = _
  rw [h E k g1 (c :: r) h4 (by simp at hk; omega) (nxC_of h7 (by decide) (by decide) (by decide))]
  show ((wantP E wShut (c :: r)).bind fun _ r3 => .ok e r3) = _
  rw [want_is _ h6 (.inr rfl) h7]
  rfl
theorem kid_are {e : Ex} (hN : ReadN e) (hC : ReadC e) {op : Int} (ho : op ≤ 4) (E : Int) (k : Nat) (fs r : List Fnd) (hf : Are fs (kidK op e.op (tokE e))) (hk : fs.length < k) (hr : NxA r) : notP E k (fs ++ r) = .ok e r := by
  unfold kidK at hf
  by_cases h : e.op = 3 ∨ e.op = 4
  · rw [if_pos ⟨h, ho⟩] at hf
    cases k with
    | zero => omega
    | succ k =>
      have h2 := in_are hC E k fs r hf hk
      obtain ⟨f, g, rfl, h3, h4, _⟩ := are_cons hf
      rw [notP_succ]
      show (if f.kind = 4 ∧ f.text = wOpen then inP E (notP E k) ((f :: g) ++ r) else _) = _
      rw [if_pos ⟨h3, h4⟩, h2]
  · rw [if_neg fun hh => h hh.1] at hf
    exact hN ⟨fun hh => h (.inl hh), fun hh => h (.inr hh)⟩ E k fs r hf hk hr
/-- The first word, reserved, and what it reads. -/
theorem not_word {E : Int} {k : Nat} {f : Fnd} {g : List Fnd} {w : ByteArray} (h1 : f.kind = 1) (h2 : f.text = w) (hw : resB w = true) : notP E (k + 1) (f :: g) = wordsP E (notP E k) f g := by
  rw [notP_succ]
  show (if f.kind = 4 ∧ f.text = wOpen then _ else if f.kind = 1 ∧ resB f.text = true then wordsP E (notP E k) f g else _) = _
  rw [if_neg (fun h => by have := h.1; omega), if_pos ⟨h1, by rw [h2]; exact hw⟩]
set_option maxHeartbeats 4000000 in
theorem node_read {e : Ex} (h1 : nodeB e = true) (ih : ∀ k ∈ e.kids, ReadN k ∧ ReadC k) : ReadN e := by
  obtain ⟨hop, hkids, hnm, hres, hv, hn, hx⟩ := node_parts h1
  rintro ⟨hne3, hne4⟩ E k fs r hf hk hr
  obtain ⟨op, name, value, n, extra, ks⟩ := e
  dsimp only [Ex.op, Ex.name, Ex.value, Ex.n, Ex.extra, Ex.kids] at *
  rw [tokE] at hf
  clear h1
  cases k with
  | zero => omega
  | succ k =>
  obtain rfl | rfl | rfl | rfl | rfl | rfl | rfl | rfl | rfl | rfl : op = 1 ∨ op = 2 ∨ op = 5 ∨ op = 6 ∨ op = 7 ∨ op = 8 ∨ op = 9 ∨ op = 10 ∨ op = 11 ∨ op = 12 := by omega
  all_goals simp only [Int.reduceEq, Int.reduceLE, if_true, if_false, or_self, or_true, or_false, List.length_eq_zero_iff] at hkids hnm hv hn hx
  all_goals simp only [nodeK, Int.reduceEq, if_true, if_false] at hf
  all_goals (have ez : ∀ b : ByteArray, b.size = 0 → b = e0 := fun b hb => ByteArray.size_eq_zero_iff.1 hb)
  · have e1 := ez _ hnm; have e2 := ez _ hv; subst e1; subst e2; subst hn; subst hx; subst hkids
    obtain ⟨f, g, rfl, k1, k2, h3⟩ := are_cons hf
    have := are_nil h3
    subst this
    rw [List.cons_append, not_word k1 k2 (by decide)]
    unfold wordsP
    rw [if_pos k2]
    rfl
  · have e1 := ez _ hnm; have e2 := ez _ hv; subst e1; subst e2; subst hn; subst hx
    obtain ⟨c, rfl⟩ := one_kid hkids
    obtain ⟨f, g, rfl, k1, k2, h3⟩ := are_cons hf
    rw [tokEs_cons] at h3
    rw [List.cons_append, not_word k1 k2 (by decide)]
    unfold wordsP
    rw [if_neg (by rw [k2]; decide), if_pos k2, kid_are (ih c (List.mem_cons_self ..)).1 (ih c (List.mem_cons_self ..)).2 (by decide) E k g r h3 (by simp at hk; omega) hr]
    rfl
  · have e2 := ez _ hv; subst e2; subst hkids
    obtain ⟨f, g, rfl, k1, k2, h3⟩ := are_cons hf
    obtain ⟨f2, g2, rfl, k3, k4, h4⟩ := are_cons h3
    obtain ⟨f3, g3, rfl, k5, k6, h5⟩ := are_cons h4
    rw [List.cons_append, not_word k1 k2 (by decide)]
    unfold wordsP
    rw [if_neg (by rw [k2]; decide), if_neg (by rw [k2]; decide), if_pos k2]
    unfold limitP
    rw [List.cons_append, name_is _ k3 k4 hnm]
    show ((numP E 0 (f3 :: g3 ++ r)).bind _) = _
    rw [List.cons_append, num_is _ k5 k6 hn.1 hn.2 hn.1]
    show (if skipB wPlus (g3 ++ r) then (numP E 0 (g3 ++ r).tail).bind fun x r3 => Got.ok (Ex.mk 5 name e0 n x []) r3 else Got.ok (Ex.mk 5 name e0 n 0 []) (g3 ++ r)) = _
    split at h5
    · rename_i hp
      obtain ⟨f4, g4, rfl, k7, k8, h6⟩ := are_cons h5
      obtain ⟨f5, g5, rfl, k9, k10, h7⟩ := are_cons h6
      have := are_nil h7
      subst this
      rw [List.cons_append, if_pos (skip_is _ k7 (.inl rfl) k8)]
      show ((numP E 0 (f5 :: r)).bind fun x r3 => Got.ok (Ex.mk 5 name e0 n x []) r3) = _
      rw [num_is _ k9 k10 hx.1 hx.2 hx.1]
      rfl
    · rename_i hp
      have := are_nil h5
      subst this
      have : extra = 0 := by omega
      subst this
      rw [List.nil_append, if_neg (by rw [hr]; decide)]
  · have e2 := ez _ hv; subst e2; subst hkids; subst hx
    obtain ⟨f, g, rfl, k1, k2, h3⟩ := are_cons hf
    obtain ⟨f2, g2, rfl, k3, k4, h4⟩ := are_cons h3
    obtain ⟨f3, g3, rfl, k5, k6, h5⟩ := are_cons h4
    have := are_nil h5
    subst this
    rw [List.cons_append, not_word k1 k2 (by decide)]
    unfold wordsP
    rw [if_neg (by rw [k2]; decide), if_neg (by rw [k2]; decide), if_neg (by rw [k2]; decide), if_pos k2]
    unfold overP
    rw [List.cons_append, name_is _ k3 k4 hnm]
    show ((numP E 0 (f3 :: r)).bind _) = _
    rw [num_is _ k5 k6 hn.1 hn.2 hn.1]
    rfl
  · subst hkids; subst hn; subst hx
    obtain ⟨f, g, rfl, k1, k2, h3⟩ := are_cons hf
    obtain ⟨f2, g2, rfl, k3, k4, h4⟩ := are_cons h3
    obtain ⟨f3, g3, rfl, k5, k6, h5⟩ := are_cons h4
    have := are_nil h5
    subst this
    rw [notP_succ]
    show (if f.kind = 4 ∧ f.text = wOpen then _ else if f.kind = 1 ∧ resB f.text = true then _ else isP E (f :: f2 :: f3 :: r)) = _
    rw [if_neg (fun h => by have := h.1; rw [k1] at this; cases this), if_neg (fun h => by have := h.2; rw [k2] at this; exact absurd (this.symm.trans (hres rfl)) (by decide))]
    unfold isP
    rw [name_is _ k1 k2 hnm]
    show ((wantP E wEq (f2 :: f3 :: r)).bind _) = _
    rw [want_is _ k3 (.inr rfl) k4]
    show ((nextP E 3 valB (f3 :: r)).bind _) = _
    rw [next_is _ k5 k6 (show valB value = true from decide_eq_true ⟨by omega, hv.2⟩)]
    rfl
  · have e2 := ez _ hv; subst e2; subst hkids; subst hn; subst hx
    obtain ⟨f, g, rfl, k1, k2, h3⟩ := are_cons hf
    obtain ⟨f2, g2, rfl, k3, k4, h4⟩ := are_cons h3
    have := are_nil h4
    subst this
    rw [List.cons_append, not_word k1 k2 (by decide)]
    unfold wordsP
    rw [if_neg (by rw [k2]; decide), if_neg (by rw [k2]; decide), if_neg (by rw [k2]; decide), if_neg (by rw [k2]; decide), if_pos k2]
    unfold hasP
    rw [List.cons_append, name_is _ k3 k4 hnm]
    rfl
  · subst hkids; subst hn; subst hx
    obtain ⟨f, g, rfl, k1, k2, h3⟩ := are_cons hf
    obtain ⟨f2, g2, rfl, k3, k4, h4⟩ := are_cons h3
    obtain ⟨f3, g3, rfl, k5, k6, h5⟩ := are_cons h4
    obtain ⟨f4, g4, rfl, k7, k8, h6⟩ := are_cons h5
    have := are_nil h6
    subst this
    rw [List.cons_append, not_word k1 k2 (by decide)]
    unfold wordsP
    rw [if_neg (by rw [k2]; decide), if_neg (by rw [k2]; decide), if_neg (by rw [k2]; decide), if_neg (by rw [k2]; decide), if_neg (by rw [k2]; decide), if_pos k2]
    unfold slotP
    rw [List.cons_append, name_is _ k3 k4 hnm]
    show ((wantP E wIs (f3 :: f4 :: r)).bind _) = _
    rw [want_is _ k5 (.inl rfl) k6]
    show ((nameP E (f4 :: r)).bind _) = _
    rw [name_is _ k7 k8 hv]
    rfl
  · have e2 := ez _ hv; subst e2; subst hn; subst hx
    obtain ⟨c, rfl⟩ := one_kid hkids
    obtain ⟨f, g, rfl, k1, k2, h3⟩ := are_cons hf
    obtain ⟨f2, g2, rfl, k3, k4, h4⟩ := are_cons h3
    rw [tokEs_cons] at h4
    rw [List.cons_append, not_word k1 k2 (by decide)]
    unfold wordsP
    rw [if_neg (by rw [k2]; decide), if_neg (by rw [k2]; decide), if_neg (by rw [k2]; decide), if_neg (by rw [k2]; decide), if_neg (by rw [k2]; decide), if_neg (by rw [k2]; decide), if_pos k2]
    unfold withinP
    rw [List.cons_append, name_is _ k3 k4 hnm]
    show ((inP E (notP E k) (g2 ++ r)).bind _) = _
    rw [in_are (ih c (List.mem_cons_self ..)).2 E k g2 r (by unfold kidK at h4; rw [if_neg (fun h => absurd h.2 (by decide))] at h4; exact h4) (by simp at hk; omega)]
    rfl
  · have e2 := ez _ hv; subst e2; subst hn; subst hx
    obtain ⟨c, rfl⟩ := one_kid hkids
    obtain ⟨f, g, rfl, k1, k2, h3⟩ := are_cons hf
    obtain ⟨f2, g2, rfl, k3, k4, h4⟩ := are_cons h3
    rw [tokEs_cons] at h4
    rw [List.cons_append, not_word k1 k2 (by decide)]
    unfold wordsP
    rw [if_neg (by rw [k2]; decide), if_neg (by rw [k2]; decide), if_neg (by rw [k2]; decide), if_neg (by rw [k2]; decide), if_neg (by rw [k2]; decide), if_neg (by rw [k2]; decide), if_neg (by rw [k2]; decide), if_pos k2]
    unfold withinP
    rw [List.cons_append, name_is _ k3 k4 hnm]
    show ((inP E (notP E k) (g2 ++ r)).bind _) = _
    rw [in_are (ih c (List.mem_cons_self ..)).2 E k g2 r (by unfold kidK at h4; rw [if_neg (fun h => absurd h.2 (by decide))] at h4; exact h4) (by simp at hk; omega)]
    rfl
  · have e2 := ez _ hv; subst e2; subst hkids; subst hx
    obtain ⟨f, g, rfl, k1, k2, h3⟩ := are_cons hf
    obtain ⟨f2, g2, rfl, k3, k4, h4⟩ := are_cons h3
    obtain ⟨f3, g3, rfl, k5, k6, h5⟩ := are_cons h4
    obtain ⟨f4, g4, rfl, k7, k8, h6⟩ := are_cons h5
    have := are_nil h6
    subst this
    rw [List.cons_append, not_word k1 k2 (by decide)]
    unfold wordsP
    rw [if_neg (by rw [k2]; decide), if_neg (by rw [k2]; decide), if_neg (by rw [k2]; decide), if_neg (by rw [k2]; decide), if_neg (by rw [k2]; decide), if_neg (by rw [k2]; decide), if_neg (by rw [k2]; decide), if_neg (by rw [k2]; decide), if_pos k2]
    unfold atP
    rw [List.cons_append, want_is _ k3 (.inl rfl) k4]
    show ((numP E 1 (f3 :: f4 :: r)).bind _) = _
    rw [num_is _ k5 k6 (by omega) hn.2 hn.1]
    show ((nameP E (f4 :: r)).bind _) = _
    rw [name_is _ k7 k8 hnm]
    rfl
theorem cond_read {e : Ex} (h1 : nodeB e = true) (ih : ∀ k ∈ e.kids, ReadN k ∧ ReadC k) : ReadC e := by
  have hN := node_read h1 ih
  intro E k fs r hf hk ⟨r1, r2, r3⟩
  by_cases h3 : e.op = 3
  · obtain ⟨hop, hkids, hnm, hres, hv, hn, hx⟩ := node_parts h1
    obtain ⟨op, name, value, n, extra, ks⟩ := e
    dsimp only [Ex.op, Ex.name, Ex.value, Ex.n, Ex.extra, Ex.kids] at *
    subst h3
    simp only [Int.reduceEq, Int.reduceLE, if_true, if_false, or_self, or_false] at hkids hnm hv hn hx
    have e1 : name = e0 := ByteArray.size_eq_zero_iff.1 hnm
    have e2 : value = e0 := ByteArray.size_eq_zero_iff.1 hv
    subst e1; subst e2; subst hn; subst hx
    obtain ⟨c, d, q, rfl⟩ := two_kids hkids
    rw [tokE] at hf
    refine ser_one ?_ r3
    refine ser_are 1 (.inl rfl) 3 c (d :: q) fs r (by simpa [nodeK] using hf) r2 (fun x hx f qq hff hl hq => ?_) 3
    refine kid_are (ih x hx).1 (ih x hx).2 (by decide) E k f qq hff (by omega) ?_
    rcases hq with rfl | ⟨t, q', rfl, ht⟩
    · exact r1
    · exact skip_not q' ht (by decide)
  · by_cases h4 : e.op = 4
    · obtain ⟨hop, hkids, hnm, hres, hv, hn, hx⟩ := node_parts h1
      obtain ⟨op, name, value, n, extra, ks⟩ := e
      dsimp only [Ex.op, Ex.name, Ex.value, Ex.n, Ex.extra, Ex.kids] at *
      subst h4
      simp only [Int.reduceEq, Int.reduceLE, if_true, if_false, or_self, or_true] at hkids hnm hv hn hx
      have e1 : name = e0 := ByteArray.size_eq_zero_iff.1 hnm
      have e2 : value = e0 := ByteArray.size_eq_zero_iff.1 hv
      subst e1; subst e2; subst hn; subst hx
      obtain ⟨c, d, q, rfl⟩ := two_kids hkids
      rw [tokE] at hf
      refine ser_are 1 (.inl rfl) 4 c (d :: q) fs r (by simpa [nodeK] using hf) r3 (fun x hx f qq hff hl hq => ?_) 4
      refine ser_one (kid_are (ih x hx).1 (ih x hx).2 (by decide) E k f qq hff (by omega) ?_) ?_
      · rcases hq with rfl | ⟨t, q', rfl, ht⟩
        · exact r1
        · exact skip_not q' ht (by decide)
      · rcases hq with rfl | ⟨t, q', rfl, ht⟩
        · exact r2
        · exact skip_not q' ht (by decide)
    · exact ser_one (ser_one (hN ⟨h3, h4⟩ E k fs r hf hk r1) r2) r3
theorem all_read : ∀ e : Ex, allB e = true → ReadN e ∧ ReadC e := by
  refine Ex.ind fun e ih h => ?_
  rw [allB_eq, Bool.and_eq_true, allsB_all, List.all_eq_true] at h
  have hk : ∀ k ∈ e.kids, ReadN k ∧ ReadC k := fun k hm => ih k hm (h.2 k hm)
  exact ⟨node_read h.1 hk, cond_read h.1 hk⟩
theorem rule_read {r : Ru} (h : ruleB r = true) (E : Int) {fs : List Fnd} (hf : Are fs (ruleK r)) : ruleP E fs = .ok r [] := by
  obtain ⟨a, b, c⟩ := r
  unfold ruleB condB at h
  simp only [Bool.and_eq_true, decide_eq_true_eq] at h
  obtain ⟨h1, h2, _, h4⟩ := h
  obtain ⟨f1, g1, rfl, a1, b1, h5⟩ := are_cons hf
  obtain ⟨f2, g2, rfl, a2, b2, h5⟩ := are_cons h5
  obtain ⟨f3, g3, rfl, a3, b3, h5⟩ := are_cons h5
  obtain ⟨f4, g4, rfl, a4, b4, h5⟩ := are_cons h5
  obtain ⟨f5, g5, rfl, a5, b5, h5⟩ := are_cons h5
  obtain ⟨g, g6, rfl, h6, h7⟩ := are_app h5
  obtain ⟨f6, g7, rfl, a6, b6, h7⟩ := are_cons h7
  have := are_nil h7
  subst this
  unfold ruleP
  rw [want_is _ a1 (.inl rfl) b1]
  show ((nameP E (f2 :: f3 :: f4 :: f5 :: (g ++ [f6]))).bind _) = _
  rw [name_is _ a2 b2 h1]
  show ((wantP E wFor (f3 :: f4 :: f5 :: (g ++ [f6]))).bind _) = _
  rw [want_is _ a3 (.inl rfl) b3]
  show ((nameP E (f4 :: f5 :: (g ++ [f6]))).bind _) = _
  rw [name_is _ a4 b4 h2]
  show ((wantP E wColon (f5 :: (g ++ [f6]))).bind _) = _
  rw [want_is _ a5 (.inr rfl) b5]
  show ((condP (notP E _) (g ++ [f6])).bind _) = _
  rw [(all_read c h4).2 E _ g [f6] h6 (by simp; omega) (nxC_of b6 (by decide) (by decide) (by decide))]
  show ((wantP E wSemi [f6]).bind _) = _
  rw [want_is _ a6 (.inr rfl) b6]
  rfl
end Go.Proofs.YtppoeiofdmlpeaaDoor
namespace Go.Proofs.YtppoeiofdmlpeaaDoor
open Go Go.RowKit
def sumK : List (List Tk) → Nat
  | [] => 0
  | t :: ts => t.length + sumK ts
theorem joinK_len (sep : Tk) : ∀ ts : List (List Tk), (joinK sep ts).length ≤ sumK ts + ts.length
  | [] => Nat.le_refl _
  | t :: r => by
    have h : ∀ r : List (List Tk), (r.flatMap (sep :: ·)).length = sumK r + r.length := by
      intro r
      induction r with
      | nil => rfl
      | cons a r ih => rw [List.flatMap_cons, List.length_append, ih, List.length_cons, List.length_cons]; show _ = a.length + sumK r + _; omega
    show (t ++ r.flatMap (sep :: ·)).length ≤ t.length + sumK r + _
    rw [List.length_append, h, List.length_cons]
    omega
theorem kidK_len (op kop : Int) (t : List Tk) : (kidK op kop t).length ≤ t.length + 2 := by
  unfold kidK
  split
  · simp
  · omega
theorem sumK_getD (ts : List (List Tk)) : (ts.getD 0 []).length ≤ sumK ts := by
  cases ts with
  | nil => exact Nat.le_refl _
  | cons a r => show a.length ≤ a.length + sumK r; omega
theorem tokEs_sum (op : Int) : ∀ ks : List Ex, (∀ k ∈ ks, (tokE k).length + 3 ≤ 9 * cnt k) → sumK (tokEs op ks) + (tokEs op ks).length ≤ 9 * cnts ks
  | [], _ => by rw [tokEs_nil]; exact Nat.zero_le _
  | k :: ks, h => by
    have h1 := h k (List.mem_cons_self ..)
    have h2 := tokEs_sum op ks fun x hx => h x (List.mem_cons_of_mem _ hx)
    have h3 := kidK_len op k.op (tokE k)
    rw [tokEs_cons, cnts_cons, List.length_cons]
    show (kidK op k.op (tokE k)).length + sumK (tokEs op ks) + _ ≤ _
    omega
theorem ite_len {p : Prop} [Decidable p] {a b : List Tk} {n : Nat} (ha : a.length ≤ n) (hb : b.length ≤ n) : (if p then a else b).length ≤ n := by
  by_cases h : p
  · rw [if_pos h]; exact ha
  · rw [if_neg h]; exact hb
theorem tokE_len : ∀ e : Ex, (tokE e).length + 3 ≤ 9 * cnt e := by
  refine Ex.ind fun e ih => ?_
  have h := tokEs_sum e.op e.kids ih
  have hg := sumK_getD (tokEs e.op e.kids)
  have h3 := joinK_len (1, wAnd) (tokEs e.op e.kids)
  have h4 := joinK_len (1, wOr) (tokEs e.op e.kids)
  rw [tokE_eq, cnt_eq]
  have hN : (nodeK e.op e.name e.value e.n e.extra (tokEs e.op e.kids)).length ≤ 5 + 9 * cnts e.kids := by
    unfold nodeK
    have hx : (if 0 < e.extra then [((1 : Int), wPlus), (2, itoaB e.extra)] else []).length ≤ 2 := ite_len (Nat.le_refl _) (Nat.zero_le _)
    refine ite_len ?_ (ite_len ?_ (ite_len ?_ (ite_len ?_ (ite_len ?_ (ite_len ?_ (ite_len ?_ (ite_len ?_ (ite_len ?_ (ite_len ?_ (ite_len ?_ ?_))))))))))
    all_goals try simp only [List.length_cons, List.length_append, List.length_nil]
    all_goals omega
  omega
theorem parse_textT {r : Ru} (h : ruleB r = true) (hs : (ruleT r).size ≤ 20000) : parseU (ruleT r) = (r, 0, 0) := by
  have hc : cnt r.cond ≤ 60 := by
    unfold ruleB condB at h
    simp only [Bool.and_eq_true, decide_eq_true_eq] at h
    exact h.2.2.1
  obtain ⟨fs, h1, h2⟩ := lex_whole (ruleT_lex h) hs (by
    have := tokE_len r.cond
    unfold ruleK
    simp only [List.length_cons, List.length_append, List.length_nil]
    omega)
  unfold parseU
  rw [h1]
  show (match ruleP (ruleT r).size fs with | .bad e a => (ru0, e, a) | .ok r _ => if 60 < cnt r.cond then (ru0, 7, 0) else (r, 0, 0)) = _
  rw [rule_read h _ h2]
  exact if_neg (by omega)
theorem textT_inj {r s : Ru} (h : ruleB r = true) (hs : ruleB s = true) (hl : (ruleT r).size ≤ 20000) (e : ruleT r = ruleT s) : r = s := by
  have h1 := parse_textT h hl
  have h2 := parse_textT hs (by rw [← e]; exact hl)
  rw [e, h2] at h1
  injection h1 with h1 _
  exact h1.symm
end Go.Proofs.YtppoeiofdmlpeaaDoor
namespace Go.Proofs.YtppoeiofdmlpeaaDoor
open Go Go.RowKit
def tsum : List Fnd → Nat
  | [] => 0
  | t :: r => t.text.size + tsum r
theorem tsum_app : ∀ a b : List Fnd, tsum (a ++ b) = tsum a + tsum b
  | [], b => by rw [List.nil_append]; exact (Nat.zero_add _).symm
  | t :: a, b => by
    rw [List.cons_append]
    show t.text.size + tsum (a ++ b) = t.text.size + tsum a + tsum b
    rw [tsum_app a b]; omega
theorem tsum_suf {r l : List Fnd} (h : r <:+ l) : tsum r ≤ tsum l := by
  obtain ⟨p, rfl⟩ := h
  rw [tsum_app]; omega
theorem runTo_all (p : Nat → Bool) : ∀ (n i j : Nat), i ≤ j → j < runTo p n i → p j = true
  | 0, i, j, h1, h2 => by
    have : runTo p 0 i = i := rfl
    omega
  | n + 1, i, j, h1, h2 => by
    rw [runTo_succ] at h2
    split at h2
    · rename_i hp
      rcases Nat.eq_or_lt_of_le h1 with rfl | h
      · exact hp
      · exact runTo_all p n (i + 1) j h h2
    · omega
/-- Digits whose number is small. -/
theorem parse_small : ∀ (l : List UInt8) (acc : Nat), (∀ c ∈ l, 48 ≤ c.toNat ∧ c.toNat ≤ 57) → (acc + 1) * 10 ^ l.length ≤ 1000000000000 → ∃ v, Lib.parseUint10 acc l = .ok v ∧ v + 1 ≤ (acc + 1) * 10 ^ l.length
  | [], acc, _, _ => ⟨acc, rfl, by simp⟩
  | c :: r, acc, hd, hb => by
    have hc := hd c (List.mem_cons_self ..)
    rw [List.length_cons, Nat.pow_succ'] at hb ⊢
    have hp : 0 < 10 ^ r.length := Nat.pow_pos (by omega)
    have hm : (acc * 10 + (c.toNat - 48) + 1) * 10 ^ r.length ≤ (acc + 1) * (10 * 10 ^ r.length) := by
      rw [← Nat.mul_assoc]
      exact Nat.mul_le_mul_right _ (by omega)
    have h1 : (acc + 1) * 10 ≤ 1000000000000 := by
      have : (acc + 1) * 10 * 1 ≤ (acc + 1) * 10 * 10 ^ r.length := Nat.mul_le_mul_left _ hp
      rw [Nat.mul_assoc] at this
      rw [Nat.mul_assoc] at this
      omega
    obtain ⟨v, h2, h3⟩ := parse_small r (acc * 10 + (c.toNat - 48)) (fun x hx => hd x (List.mem_cons_of_mem _ hx)) (by omega)
    exact ⟨v, by rw [parse_cons, if_pos hc, if_neg (by omega), if_neg (by omega)]; exact h2, by omega⟩
theorem atoi_small {l : List UInt8} (h : ∀ c ∈ l, 48 ≤ c.toNat ∧ c.toNat ≤ 57) (h7 : l.length ≤ 7) : atoiV l ≤ 9999999 := by
  cases l with
  | nil => show (0 : Int) ≤ _; omega
  | cons c r =>
    have hc := h c (List.mem_cons_self ..)
    have hp : 10 ^ (c :: r).length ≤ 10 ^ 7 := Nat.pow_le_pow_right (by omega) h7
    obtain ⟨v, h1, h2⟩ := parse_small (c :: r) 0 h (by omega)
    have e : Lib.atoiAll (c :: r) = .ok (v : Int) := by
      unfold Lib.atoiAll
      simp only
      rw [if_neg (by omega)]
      unfold Lib.parseMag
      rw [if_neg (by simp), h1]
      simp only
      rw [if_neg (by omega), if_neg (by omega), if_neg (by omega)]
    unfold atoiV
    rw [e]
    show (v : Int) ≤ _
    omega
theorem cut_size {s : ByteArray} {i j : Nat} (h : j ≤ s.size) (hi : i ≤ j) : (cut s i j).size = j - i := by
  unfold cut
  rw [ByteArray.size_extract]
  omega
theorem cut_get {s : ByteArray} {i j : Nat} {c : UInt8} (_h : j ≤ s.size) (hc : c ∈ (cut s i j).data.toList) : ∃ k, i ≤ k ∧ k < j ∧ byteAt s k = c.toNat := by
  unfold cut at hc
  rw [ByteArray.data_extract, Array.toList_extract, List.extract_eq_take_drop] at hc
  obtain ⟨k, hk, rfl⟩ := List.getElem_of_mem hc
  rw [List.length_take, List.length_drop] at hk
  refine ⟨i + k, by omega, by omega, ?_⟩
  rw [List.getElem_take, List.getElem_drop]
  unfold byteAt
  rw [List.getD_eq_getElem?_getD, List.getElem?_eq_getElem (by omega)]
  rfl
theorem digit_cls {c : Nat} (h : cls c = 4) (hc : c < 256) : 48 ≤ c ∧ c ≤ 57 := by
  have := (by decide +kernel : ∀ c : Fin 256, cls c.1 = 4 → 48 ≤ c.1 ∧ c.1 ≤ 57)
  exact this ⟨c, hc⟩ h
theorem wordEnd_le {s : ByteArray} {i : Nat} (h : i ≤ s.size) : wordEnd s i ≤ s.size := runTo_le _ (fun j hj => by unfold wordP clsAt; rw [if_neg (by omega)]; rfl) _ _ h
theorem digEnd_le {s : ByteArray} {i : Nat} (h : i ≤ s.size) : digEnd s i ≤ s.size := runTo_le _ (fun j hj => by unfold digP clsAt; rw [if_neg (by omega)]; rfl) _ _ h
theorem unqGo_size {t : ByteArray} : ∀ (n i : Nat) (acc l : List UInt8) (m : Nat), unqGo t n i acc = some (l, m) → m ≤ t.size ∧ l.length + i + 1 ≤ acc.length + m
  | 0, _, _, _, _, h => by cases h
  | n + 1, i, acc, l, m, h => by
    rw [unqGo_succ] at h
    split at h
    · cases h
    split at h
    · injection h with h; injection h with h1 h2; subst h1; subst h2; exact ⟨by omega, by omega⟩
    split at h
    · cases h
    split at h
    · split at h
      · cases h
      · split at h
        · cases h
        · have := unqGo_size n _ _ _ _ h
          rw [List.length_append] at this
          simp at this
          exact ⟨this.1, by omega⟩
    · have := unqGo_size n _ _ _ _ h
      rw [List.length_append] at this
      simp at this
      exact ⟨this.1, by omega⟩
/-- What is known of each token. -/
def TokOk (B : Nat) (f : Fnd) : Prop := f.pos ≤ (B : Int) ∧ (f.err = 0 → f.kind = 2 → atoiV f.text.data.toList ≤ 9999999)
set_option maxHeartbeats 1000000 in
theorem lexGo_facts (s : ByteArray) : ∀ (n i : Nat), (∀ f ∈ lexGo s n i, TokOk s.size f) ∧ tsum (lexGo s n i) ≤ s.size - i
  | 0, _ => ⟨fun f h => (by cases h), Nat.zero_le _⟩
  | n + 1, i => by
    have ih := lexGo_facts s n
    rw [lexGo_succ]
    by_cases h0 : s.size ≤ i
    · rw [if_pos h0]; exact ⟨fun f h => (by cases h), Nat.zero_le _⟩
    have hp : ((i : Nat) : Int) ≤ (s.size : Int) := by omega
    have hone : ∀ f : Fnd, TokOk s.size f → f.text.size ≤ s.size - i → (∀ g ∈ [f], TokOk s.size g) ∧ tsum [f] ≤ s.size - i := fun f h1 h2 => ⟨fun g hg => (by rw [List.mem_singleton] at hg; subst hg; exact h1), (by show f.text.size + 0 ≤ _; omega)⟩
    have hcons : ∀ (f : Fnd) (j : Nat), TokOk s.size f → i + f.text.size ≤ j → j ≤ s.size → (∀ g ∈ f :: lexGo s n j, TokOk s.size g) ∧ tsum (f :: lexGo s n j) ≤ s.size - i := fun f j h1 h2 h3 =>
      ⟨fun g hg => (List.mem_cons.1 hg).elim (fun e => e ▸ h1) ((ih j).1 g), (by have := (ih j).2; show f.text.size + tsum (lexGo s n j) ≤ _; omega)⟩
    rw [if_neg h0]
    split
    · exact ⟨(ih _).1, by have := (ih (i + 1)).2; omega⟩
    split
    · have := runTo_ge (hashP s) s.size i
      exact ⟨(ih _).1, by have h2 := (ih (hashEnd s i)).2; unfold hashEnd at *; omega⟩
    split
    · have h1 := runTo_ge (wordP s) s.size i
      have h2 := wordEnd_le (s := s) (i := i) (by omega)
      have h3 := cut_size (s := s) (i := i) h2 h1
      have h4 : ∀ e, TokOk s.size ⟨1, cut s i (wordEnd s i), i, e⟩ := fun e => ⟨hp, fun _ h => absurd h (show ¬ (1 : Int) = 2 by decide)⟩
      split
      · exact hone _ (h4 7) (by show (cut s i (wordEnd s i)).size ≤ _; unfold wordEnd at *; omega)
      · exact hcons _ _ (h4 0) (by show i + (cut s i (wordEnd s i)).size ≤ _; unfold wordEnd at *; omega) h2
    split
    · have h1 := runTo_ge (digP s) s.size i
      have h2 := digEnd_le (s := s) (i := i) (by omega)
      have h3 := cut_size (s := s) (i := i) h2 h1
      split
      · exact hone _ ⟨hp, fun h => absurd h (show ¬ (11 : Int) = 0 by decide)⟩ (by show (cut s i (digEnd s i)).size ≤ _; unfold digEnd at *; omega)
      · rename_i hn
        refine hcons _ _ ⟨hp, fun _ _ => ?_⟩ (by show i + (cut s i (digEnd s i)).size ≤ _; unfold digEnd at *; omega) h2
        refine atoi_small (fun c hc => ?_) ?_
        · obtain ⟨k, k1, k2, k3⟩ := cut_get h2 hc
          have k4 := runTo_all (digP s) s.size i k k1 k2
          unfold digP clsAt at k4
          rw [if_pos (by omega), k3, beq_iff_eq] at k4
          exact digit_cls k4 (UInt8.toNat_lt c)
        · show (cut s i (digEnd s i)).size ≤ 7
          rw [h3]
          exact Nat.le_of_not_lt fun h => hn (.inl h)
    split
    · split
      · exact hone _ ⟨hp, fun h => absurd h (show ¬ (10 : Int) = 0 by decide)⟩ (Nat.zero_le _)
      · rename_i t m hu
        have h1 := unqGo_size _ _ _ _ _ hu
        have h2 := cut_size (s := s) (i := i) (Nat.le_refl s.size) (by omega)
        rw [h2] at h1
        exact hcons _ _ ⟨hp, fun _ h => absurd h (show ¬ (3 : Int) = 2 by decide)⟩ (by show i + t.toArray.size ≤ _; rw [List.size_toArray]; simp at h1; omega) (by omega)
    split
    · have h3 := cut_size (s := s) (i := i) (j := i + 1) (by omega) (by omega)
      exact hcons _ _ ⟨hp, fun _ h => absurd h (show ¬ (4 : Int) = 2 by decide)⟩ (by show i + (cut s i (i + 1)).size ≤ _; omega) (by omega)
    · exact hone _ ⟨hp, fun h => absurd h (show ¬ (10 : Int) = 0 by decide)⟩ (Nat.zero_le _)
theorem takeF_ok : ∀ (fs out : List Fnd), (takeF fs out).2.1 = 0 → (takeF fs out).1 = out ++ fs ∧ ∀ f ∈ fs, f.err = 0
  | [], out, _ => ⟨by rw [List.append_nil]; rfl, fun f h => (by cases h)⟩
  | f :: r, out, h => by
    unfold takeF at h ⊢
    split at h
    · rename_i h1; exact absurd h h1
    · rename_i h1
      rw [if_neg h1]
      split at h
      · exact absurd h (show ¬ (7 : Int) = 0 by decide)
      · rename_i h2
        rw [if_neg h2]
        obtain ⟨g1, g2⟩ := takeF_ok r (out ++ [f]) h
        refine ⟨by rw [g1]; simp, fun x hx => ?_⟩
        rcases List.mem_cons.1 hx with rfl | hx
        · exact Decidable.not_not.1 h1
        · exact g2 x hx
theorem takeF_bad (B : Int) : ∀ (fs out : List Fnd), (∀ f ∈ fs, f.pos ≤ B) → (takeF fs out).2.1 ≠ 0 → (takeF fs out).2.2 ≤ B
  | [], out, _, h => absurd rfl h
  | f :: r, out, hp, h => by
    unfold takeF at h ⊢
    split
    · exact hp f (List.mem_cons_self ..)
    · split
      · exact hp f (List.mem_cons_self ..)
      · rename_i h1 h2
        rw [if_neg h1, if_neg h2] at h
        exact takeF_bad B r _ (fun x hx => hp x (List.mem_cons_of_mem _ hx)) h
/-- Tokens as the parser finds them. -/
def Toks (B : Int) (l : List Fnd) : Prop := ∀ t ∈ l, t.pos ≤ B ∧ (t.kind = 2 → atoiV t.text.data.toList ≤ 9999999)
theorem lexL_toks {s : ByteArray} (h : (lexL s).2.1 = 0) : Toks s.size (lexL s).1 ∧ tsum (lexL s).1 ≤ s.size := by
  obtain ⟨h1, h2⟩ := lexGo_facts s (s.size + 1) 0
  unfold lexL at *
  split at h
  · exact absurd h (show ¬ (7 : Int) = 0 by decide)
  · rename_i hs
    rw [if_neg hs]
    obtain ⟨g1, g2⟩ := takeF_ok _ _ h
    rw [g1, List.nil_append]
    exact ⟨fun t ht => ⟨(h1 t ht).1, (h1 t ht).2 (g2 t ht)⟩, by have : tsum (lexF s) ≤ s.size - 0 := h2; omega⟩
theorem lexL_bad {s : ByteArray} (h : (lexL s).2.1 ≠ 0) : (lexL s).2.2 ≤ s.size := by
  unfold lexL at *
  split
  · show (-1 : Int) ≤ _; omega
  · rename_i hs
    rw [if_neg hs] at h
    exact takeF_bad s.size _ _ (fun f hf => ((lexGo_facts s (s.size + 1) 0).1 f hf).1) h
end Go.Proofs.YtppoeiofdmlpeaaDoor
namespace Go.Proofs.YtppoeiofdmlpeaaDoor
open Go Go.RowKit
mutual
/-- How long the values of a condition are together. -/
def vs : Ex → Nat
  | .mk _ _ v _ _ ks => v.size + vss ks
def vss : List Ex → Nat
  | [] => 0
  | k :: ks => vs k + vss ks
end
theorem vs_eq (e : Ex) : vs e = e.value.size + vss e.kids := by cases e; rw [vs]; rfl
theorem vss_cons (k : Ex) (ks : List Ex) : vss (k :: ks) = vs k + vss ks := by rw [vss]
theorem vss_nil : vss [] = 0 := by rw [vss]
/-- What a reading gives: an error within the text, or a thing that is right, at least d tokens behind. -/
def GA {α : Type} (B : Int) (P : α → Prop) (μ : α → Nat) (d : Nat) (l : List Fnd) : Got α → Prop
  | .bad e a => a ≤ B ∧ (e = 8 ∨ e = 9 ∨ e = 13)
  | .ok x r => P x ∧ r <:+ l ∧ r.length + d ≤ l.length ∧ μ x + tsum r ≤ tsum l
theorem GA.bind {α β : Type} {B : Int} {P : α → Prop} {μ : α → Nat} {Q : β → Prop} {ν : β → Nat} {d d' : Nat} {l : List Fnd} {g : Got α} {f : α → List Fnd → Got β} (hg : GA B P μ d l g)
    (hf : ∀ x r, P x → r <:+ l → r.length + d ≤ l.length → μ x + tsum r ≤ tsum l → GA B Q ν d' l (f x r)) : GA B Q ν d' l (g.bind f) := by
  cases g with
  | bad e a => exact hg
  | ok x r => exact hf x r hg.1 hg.2.1 hg.2.2.1 hg.2.2.2
theorem GA.up {α : Type} {B : Int} {P Q : α → Prop} {μ ν : α → Nat} {d d' : Nat} {l l' : List Fnd} {g : Got α} (h : GA B P μ d l g) (hP : ∀ x, P x → Q x) (hs : l <:+ l') (hd : l.length + d' ≤ l'.length + d) (hm : ∀ x, P x → ν x + tsum l ≤ μ x + tsum l') : GA B Q ν d' l' g := by
  cases g with
  | bad e a => exact h
  | ok x r =>
    obtain ⟨h1, h2, h3, h4⟩ := h
    exact ⟨hP x h1, h2.trans hs, by omega, by have := hm x h1; omega⟩
theorem Toks.suf {B : Int} {l r : List Fnd} (h : Toks B l) (hs : r <:+ l) : Toks B r := fun t ht => h t (hs.subset ht)
section
variable {E B : Int} (hE : E ≤ B)
include hE
theorem fail_ga {α : Type} {P : α → Prop} {μ : α → Nat} {d : Nat} {e : Int} {l : List Fnd} (hl : Toks B l) (he : e = 8 ∨ e = 9 ∨ e = 13) : GA B P μ d l (failP E e l : Got α) := by
  cases l with
  | nil => exact ⟨hE, by decide⟩
  | cons t r => exact ⟨(hl t (List.mem_cons_self ..)).1, he⟩
theorem want_ga (s : ByteArray) {l : List Fnd} (hl : Toks B l) : GA B (fun _ => True) (fun _ => 0) 1 l (wantP E s l) := by
  unfold wantP
  split
  · rename_i h
    have := tail_len h
    have hs := List.tail_suffix l
    have := tsum_suf hs
    exact ⟨trivial, hs, by omega, by show 0 + _ ≤ _; omega⟩
  · exact fail_ga hE hl (by decide)
theorem next_ga (kind : Int) (check : ByteArray → Bool) {l : List Fnd} (hl : Toks B l) : GA B (fun s => check s = true ∧ (kind = 2 → atoiV s.data.toList ≤ 9999999)) (fun s => s.size) 1 l (nextP E kind check l) := by
  cases l with
  | nil => exact ⟨hE, by decide⟩
  | cons t r =>
    have ht := hl t (List.mem_cons_self ..)
    show GA _ _ _ _ _ (if t.kind = kind then (if check t.text then Got.ok t.text r else .bad 13 t.pos) else .bad 8 t.pos)
    split
    · rename_i hk
      split
      · rename_i hc
        exact ⟨⟨hc, fun h => ht.2 (hk.trans h)⟩, List.suffix_cons t r, by rw [List.length_cons]; omega, Nat.le_refl _⟩
      · exact ⟨ht.1, by decide⟩
    · exact ⟨ht.1, by decide⟩
theorem name_ga {l : List Fnd} (hl : Toks B l) : GA B (fun s => nameB s = true) (fun _ => 0) 1 l (nameP E l) :=
  (next_ga hE 1 nameB hl).up (fun _ h => h.1) (List.suffix_refl l) (Nat.le_refl _) fun x _ => by omega
theorem num_ga (low : Int) {l : List Fnd} (hl : Toks B l) : GA B (fun n : Int => low ≤ n ∧ n ≤ 9999999) (fun _ => 0) 1 l (numP E low l) := by
  refine (next_ga hE 2 (numB low) hl).bind fun s r h1 h2 h3 h4 => ?_
  exact ⟨⟨of_decide_eq_true h1.1, h1.2 rfl⟩, h2, h3, by show 0 + _ ≤ _; omega⟩
omit hE
/-- A reader that is right for lists of fewer than k tokens. -/
def Good (B : Int) (k : Nat) (one : List Fnd → Got Ex) : Prop := ∀ l, l.length < k → Toks B l → GA B (fun c => allB c = true) vs 1 l (one l)
theorem more_ga {k : Nat} {one : List Fnd → Got Ex} (h1 : Good B k one) (word : ByteArray) : ∀ (n : Nat) (l : List Fnd), l.length ≤ k → Toks B l → GA B (fun cs => allsB cs = true) vss 0 l (moreP word one n l)
  | 0, l, _, _ => ⟨allsB_nil, List.suffix_refl l, Nat.le_refl _, by rw [vss_nil]; omega⟩
  | n + 1, l, hk, hl => by
    cases hs : skipB word l with
    | false => rw [moreP_zero hs]; exact ⟨allsB_nil, List.suffix_refl l, Nat.le_refl _, by rw [vss_nil]; omega⟩
    | true =>
      have ht := tail_len hs
      have hsuf := List.tail_suffix l
      have hts := tsum_suf hsuf
      rw [moreP_succ hs]
      refine ((h1 l.tail (by omega) (hl.suf hsuf)).up (fun _ h => h) hsuf (d' := 0) (by omega) (ν := vs) (fun _ _ => by omega)).bind fun c r p1 p2 p3 p4 => ?_
      refine ((more_ga h1 word n r (by omega) (hl.suf p2)).up (ν := fun cs => vs c + vss cs) (d' := 0) (fun _ h => h) p2 (by omega) (fun _ _ => by omega)).bind fun cs r2 q1 q2 q3 q4 => ?_
      exact ⟨by show allsB (c :: cs) = true; rw [allsB_cons, p1, q1]; rfl, q2, q3, by rw [vss_cons]; exact q4⟩
theorem one_of_ok {op : Int} (ho : op = 3 ∨ op = 4) {c : Ex} {cs : List Ex} (h1 : allB c = true) (h2 : allsB cs = true) : allB (oneOf op c cs) = true := by
  cases cs with
  | nil => exact h1
  | cons d ds =>
    show allB (.mk op e0 e0 0 0 (c :: d :: ds)) = true
    rw [allB, allsB_cons, h1, h2, Bool.and_true, Bool.and_true]
    refine decide_eq_true ?_
    show NodeOk op e0 e0 0 0 (ds.length + 1 + 1)
    unfold NodeOk
    rcases ho with rfl | rfl <;> simp <;> decide
theorem one_of_vs (op : Int) (c : Ex) (cs : List Ex) : vs (oneOf op c cs) = vs c + vss cs := by
  cases cs with
  | nil => rw [vss_nil]; rfl
  | cons d ds =>
    show vs (.mk op e0 e0 0 0 (c :: d :: ds)) = _
    rw [vs, vss_cons]
    show 0 + _ = _
    omega
theorem ser_ga {k : Nat} {one : List Fnd → Got Ex} (h1 : Good B k one) (word : ByteArray) {op : Int} (ho : op = 3 ∨ op = 4) : Good B k (serP word op one) := by
  intro l hk hl
  refine (h1 l hk hl).bind fun c r p1 p2 p3 p4 => ?_
  refine ((more_ga h1 word r.length r (by omega) (hl.suf p2)).up (ν := fun cs => vs c + vss cs) (d' := 1) (fun _ h => h) p2 (by omega) (fun _ _ => by omega)).bind fun cs r2 q1 q2 q3 q4 => ?_
  exact ⟨one_of_ok ho p1 q1, q2, q3, by rw [one_of_vs]; exact q4⟩
theorem cond_ga {k : Nat} {one : List Fnd → Got Ex} (h1 : Good B k one) : Good B k (condP one) := ser_ga (ser_ga h1 wAnd (.inl rfl)) wOr (.inr rfl)
include hE
theorem in_ga {k : Nat} {one : List Fnd → Got Ex} (h1 : Good B k one) {l : List Fnd} (hk : l.length < k + 1) (hl : Toks B l) : GA B (fun c => allB c = true) vs 1 l (inP E one l) := by
  refine (want_ga hE wOpen hl).bind fun _ r _ p2 p3 p4 => ?_
  refine ((cond_ga h1 r (by omega) (hl.suf p2)).up (ν := vs) (d' := 1) (fun _ h => h) p2 (by omega) (fun _ _ => by omega)).bind fun c r2 q1 q2 q3 q4 => ?_
  refine ((want_ga hE wShut (hl.suf q2)).up (Q := fun _ => True) (ν := fun _ => vs c) (d' := 1) (fun _ h => h) q2 (by omega) (fun _ _ => by omega)).bind fun _ r3 _ s2 s3 s4 => ?_
  exact ⟨q1, s2, s3, s4⟩
omit hE
theorem leaf_ok {op : Int} {a v : ByteArray} {n x : Int} (h : NodeOk op a v n x 0) : allB (.mk op a v n x []) = true := by
  rw [allB, allsB_nil, Bool.and_true]
  exact decide_eq_true h
theorem leaf_vs (op : Int) (a v : ByteArray) (n x : Int) : vs (.mk op a v n x []) = v.size := by rw [vs, vss_nil]; rfl
include hE
theorem limit_ga {l : List Fnd} (hl : Toks B l) : GA B (fun c => allB c = true) vs 1 l (limitP E l) := by
  refine (name_ga hE hl).bind fun a r p1 p2 p3 p4 => ?_
  refine ((num_ga hE 0 (hl.suf p2)).up (Q := fun n : Int => 0 ≤ n ∧ n ≤ 9999999) (ν := fun _ => 0) (d' := 1) (fun _ h => h) p2 (by omega) (fun _ _ => by omega)).bind fun n r2 q1 q2 q3 q4 => ?_
  split
  · have hs := List.tail_suffix r2
    have ht := tsum_suf hs
    have := List.length_tail (l := r2)
    refine ((num_ga hE 0 ((hl.suf q2).suf hs)).up (Q := fun n : Int => 0 ≤ n ∧ n ≤ 9999999) (ν := fun _ => 0) (d' := 1) (fun _ h => h) (hs.trans q2) (by omega) (fun _ _ => by omega)).bind fun x r3 s1 s2 s3 s4 => ?_
    exact ⟨leaf_ok (by unfold NodeOk; simp; exact ⟨p1, rfl, q1, s1⟩), s2, s3, by rw [leaf_vs]; exact s4⟩
  · exact ⟨leaf_ok (by unfold NodeOk; simp; exact ⟨p1, rfl, q1⟩), q2, q3, by rw [leaf_vs]; exact q4⟩
theorem over_ga {l : List Fnd} (hl : Toks B l) : GA B (fun c => allB c = true) vs 1 l (overP E l) := by
  refine (name_ga hE hl).bind fun a r p1 p2 p3 p4 => ?_
  refine ((num_ga hE 0 (hl.suf p2)).up (Q := fun n : Int => 0 ≤ n ∧ n ≤ 9999999) (ν := fun _ => 0) (d' := 1) (fun _ h => h) p2 (by omega) (fun _ _ => by omega)).bind fun n r2 q1 q2 q3 q4 => ?_
  exact ⟨leaf_ok (by unfold NodeOk; simp; exact ⟨p1, rfl, q1⟩), q2, q3, by rw [leaf_vs]; exact q4⟩
theorem has_ga {l : List Fnd} (hl : Toks B l) : GA B (fun c => allB c = true) vs 1 l (hasP E l) := by
  refine (name_ga hE hl).bind fun a r p1 p2 p3 p4 => ?_
  exact ⟨leaf_ok (by unfold NodeOk; simp; exact ⟨p1, rfl⟩), p2, p3, by rw [leaf_vs]; exact p4⟩
theorem slot_ga {l : List Fnd} (hl : Toks B l) : GA B (fun c => allB c = true) vs 1 l (slotP E l) := by
  refine (name_ga hE hl).bind fun a r p1 p2 p3 p4 => ?_
  refine ((want_ga hE wIs (hl.suf p2)).up (Q := fun _ => True) (ν := fun _ => 0) (d' := 1) (fun _ h => h) p2 (by omega) (fun _ _ => by omega)).bind fun _ r2 _ q2 q3 q4 => ?_
  refine ((next_ga hE 1 nameB (hl.suf q2)).up (Q := fun v => nameB v = true) (ν := fun v => v.size) (d' := 1) (fun _ h => h.1) q2 (by omega) (fun _ _ => by omega)).bind fun v r3 s1 s2 s3 s4 => ?_
  exact ⟨leaf_ok (by unfold NodeOk; simp; exact ⟨p1, s1⟩), s2, s3, by rw [leaf_vs]; exact s4⟩
theorem at_ga {l : List Fnd} (hl : Toks B l) : GA B (fun c => allB c = true) vs 1 l (atP E l) := by
  refine (want_ga hE wLeast hl).bind fun _ r _ p2 p3 p4 => ?_
  refine ((num_ga hE 1 (hl.suf p2)).up (Q := fun n : Int => 1 ≤ n ∧ n ≤ 9999999) (ν := fun _ => 0) (d' := 1) (fun _ h => h) p2 (by omega) (fun _ _ => by omega)).bind fun n r2 q1 q2 q3 q4 => ?_
  refine ((name_ga hE (hl.suf q2)).up (Q := fun v => nameB v = true) (ν := fun _ => 0) (d' := 1) (fun _ h => h) q2 (by omega) (fun _ _ => by omega)).bind fun v r3 s1 s2 s3 s4 => ?_
  exact ⟨leaf_ok (by unfold NodeOk; simp; exact ⟨s1, rfl, q1⟩), s2, s3, by rw [leaf_vs]; exact s4⟩
theorem is_ga {t : Fnd} {r : List Fnd} (hn : ¬ (t.kind = 1 ∧ resB t.text = true)) (hl : Toks B (t :: r)) : GA B (fun c => allB c = true) vs 1 (t :: r) (isP E (t :: r)) := by
  have h0 : GA B (fun s => nameB s = true ∧ resB s = false) (fun _ => 0) 1 (t :: r) (nameP E (t :: r)) := by
    have ht := hl t (List.mem_cons_self ..)
    show GA _ _ _ _ _ (if t.kind = 1 then (if nameB t.text then Got.ok t.text r else .bad 13 t.pos) else .bad 8 t.pos)
    split
    · rename_i hk
      split
      · rename_i hc
        exact ⟨⟨hc, by cases h : resB t.text with | false => rfl | true => exact absurd ⟨hk, h⟩ hn⟩, List.suffix_cons t r, by rw [List.length_cons]; omega, by show 0 + tsum r ≤ t.text.size + tsum r; omega⟩
      · exact ⟨ht.1, by decide⟩
    · exact ⟨ht.1, by decide⟩
  refine h0.bind fun a r1 p1 p2 p3 p4 => ?_
  refine ((want_ga hE wEq (hl.suf p2)).up (Q := fun _ => True) (ν := fun _ => 0) (d' := 1) (fun _ h => h) p2 (by omega) (fun _ _ => by omega)).bind fun _ r2 _ q2 q3 q4 => ?_
  refine ((next_ga hE 3 valB (hl.suf q2)).up (Q := fun v => valB v = true) (ν := fun v => v.size) (d' := 1) (fun _ h => h.1) q2 (by omega) (fun _ _ => by omega)).bind fun v r3 s1 s2 s3 s4 => ?_
  have hv : v.size ≠ 0 ∧ v.size ≤ 200 := of_decide_eq_true s1
  exact ⟨leaf_ok (by unfold NodeOk; simp; exact ⟨p1.1, p1.2, by omega, hv.2⟩), s2, s3, by rw [leaf_vs]; exact s4⟩
theorem within_ga {k : Nat} {one : List Fnd → Got Ex} (h1 : Good B k one) {op : Int} (ho : op = 10 ∨ op = 11) {l : List Fnd} (hk : l.length < k + 1) (hl : Toks B l) : GA B (fun c => allB c = true) vs 1 l (withinP E op one l) := by
  refine (name_ga hE hl).bind fun a r p1 p2 p3 p4 => ?_
  refine ((in_ga hE h1 (by omega) (hl.suf p2)).up (ν := vs) (d' := 1) (fun _ h => h) p2 (by omega) (fun _ _ => by omega)).bind fun c r2 q1 q2 q3 q4 => ?_
  refine ⟨?_, q2, q3, ?_⟩
  · show allB (.mk op a e0 0 0 [c]) = true
    rw [allB, allsB_cons, allsB_nil, q1, Bool.and_true, Bool.and_true]
    refine decide_eq_true ?_
    show NodeOk op a e0 0 0 1
    unfold NodeOk
    rcases ho with rfl | rfl <;> simp <;> exact ⟨p1, rfl⟩
  · rw [vs, vss_cons, vss_nil]
    show 0 + (vs c + 0) + _ ≤ _
    omega
theorem not1_ga {k : Nat} {one : List Fnd → Got Ex} (h1 : Good B k one) : Good B (k + 1) (notP1 E one) := by
  intro l hk hl
  cases l with
  | nil => exact ⟨hE, by decide⟩
  | cons t r =>
    rw [List.length_cons] at hk
    have hs : r <:+ t :: r := List.suffix_cons t r
    have hr := hl.suf hs
    have hts := tsum_suf hs
    have up : ∀ {g : Got Ex}, GA B (fun c => allB c = true) vs 1 r g → GA B (fun c => allB c = true) vs 1 (t :: r) g := fun h => h.up (fun _ h => h) hs (by rw [List.length_cons]; omega) (fun _ _ => by omega)
    show GA _ _ _ _ _ (if t.kind = 4 ∧ t.text = wOpen then inP E one (t :: r) else if t.kind = 1 ∧ resB t.text = true then wordsP E one t r else isP E (t :: r))
    split
    · exact in_ga hE h1 (by rw [List.length_cons]; omega) hl
    split
    · unfold wordsP
      split
      · exact ⟨leaf_ok (by unfold NodeOk; simp; decide), hs, by rw [List.length_cons]; omega, by rw [leaf_vs]; show 0 + _ ≤ _; omega⟩
      split
      · refine (up (h1 r (by omega) hr)).bind fun c r2 q1 q2 q3 q4 => ?_
        refine ⟨?_, q2, q3, ?_⟩
        · show allB (.mk 2 e0 e0 0 0 [c]) = true
          rw [allB, allsB_cons, allsB_nil, q1, Bool.and_true, Bool.and_true]
          refine decide_eq_true ?_
          show NodeOk 2 e0 e0 0 0 1
          unfold NodeOk
          simp
          decide
        · rw [vs, vss_cons, vss_nil]
          show 0 + (vs c + 0) + _ ≤ _
          omega
      split
      · exact up (limit_ga hE hr)
      split
      · exact up (over_ga hE hr)
      split
      · exact up (has_ga hE hr)
      split
      · exact up (slot_ga hE hr)
      split
      · exact up (within_ga hE h1 (.inl rfl) (by omega) hr)
      split
      · exact up (within_ga hE h1 (.inr rfl) (by omega) hr)
      split
      · exact up (at_ga hE hr)
      · exact ⟨(hl t (List.mem_cons_self ..)).1, by decide⟩
    · rename_i hn
      exact is_ga hE hn hl
theorem not_ga : ∀ k : Nat, Good B k (notP E k)
  | 0 => fun _ hk => absurd hk (Nat.not_lt_zero _)
  | k + 1 => not1_ga hE (not_ga k)
theorem rule_ga {l : List Fnd} (hl : Toks B l) : GA B (fun q : Ru => nameB q.name = true ∧ nameB q.kind = true ∧ allB q.cond = true) (fun q => vs q.cond) 0 l (ruleP E l) := by
  refine (want_ga hE wRule hl).bind fun _ r0 _ a2 a3 a4 => ?_
  refine ((name_ga hE (hl.suf a2)).up (Q := fun v => nameB v = true) (ν := fun _ => 0) (d' := 1) (fun _ h => h) a2 (by omega) (fun _ _ => by omega)).bind fun a r1 b1 b2 b3 b4 => ?_
  refine ((want_ga hE wFor (hl.suf b2)).up (Q := fun _ => True) (ν := fun _ => 0) (d' := 1) (fun _ h => h) b2 (by omega) (fun _ _ => by omega)).bind fun _ r2 _ c2 c3 c4 => ?_
  refine ((name_ga hE (hl.suf c2)).up (Q := fun v => nameB v = true) (ν := fun _ => 0) (d' := 1) (fun _ h => h) c2 (by omega) (fun _ _ => by omega)).bind fun b r3 d1 d2 d3 d4 => ?_
  refine ((want_ga hE wColon (hl.suf d2)).up (Q := fun _ => True) (ν := fun _ => 0) (d' := 1) (fun _ h => h) d2 (by omega) (fun _ _ => by omega)).bind fun _ r4 _ e2 e3 e4 => ?_
  refine ((cond_ga (not_ga hE (l.length + 1)) r4 (by omega) (hl.suf e2)).up (ν := vs) (d' := 1) (fun _ h => h) e2 (by omega) (fun _ _ => by omega)).bind fun c r5 f1 f2 f3 f4 => ?_
  refine ((want_ga hE wSemi (hl.suf f2)).up (Q := fun _ => True) (ν := fun _ => vs c) (d' := 1) (fun _ h => h) f2 (by omega) (fun _ _ => by omega)).bind fun _ r6 _ g2 g3 g4 => ?_
  cases r6 with
  | nil => exact ⟨⟨b1, d1, f1⟩, List.nil_suffix, Nat.zero_le _, g4⟩
  | cons t r6 => exact ⟨(hl t (g2.subset (List.mem_cons_self ..))).1, by decide⟩
end
end Go.Proofs.YtppoeiofdmlpeaaDoor
namespace Go.Proofs.YtppoeiofdmlpeaaDoor
open Go Go.RowKit
set_option maxHeartbeats 2000000 in
/-- The text of a valid condition is as long as its values allow. -/
theorem texE_fine : ∀ e : Ex, allB e = true → (texE e).size + 10 ≤ 100 * cnt e + 2 * vs e := by
  refine Ex.ind fun e ih h => ?_
  rw [allB_eq, Bool.and_eq_true] at h
  obtain ⟨h1, h2⟩ := h
  have hs : ∀ ks : List Ex, (∀ k ∈ ks, allB k = true → (texE k).size + 10 ≤ 100 * cnt k + 2 * vs k) → allsB ks = true → sumL (texs e.op ks) + ks.length * 5 ≤ 100 * cnts ks + 2 * vss ks ∧ (texs e.op ks).length = ks.length := by
    intro ks
    induction ks with
    | nil => intro _ _; rw [texs_nil, cnts_nil, vss_nil]; exact ⟨Nat.le_refl _, rfl⟩
    | cons k r ihr =>
      intro hk ha
      rw [allsB_cons, Bool.and_eq_true] at ha
      have a1 := hk k (List.mem_cons_self ..) ha.1
      obtain ⟨a2, a3⟩ := ihr (fun x hx => hk x (List.mem_cons_of_mem _ hx)) ha.2
      have a4 := kidT_len e.op k.op (texE k)
      rw [texs_cons, cnts_cons, vss_cons, List.length_cons, List.length_cons, a3]
      refine ⟨?_, rfl⟩
      show (kidT e.op k.op (texE k)).size + sumL (texs e.op r) + _ ≤ _
      omega
  obtain ⟨g1, g2⟩ := hs e.kids ih h2
  have hg := sumL_getD (texs e.op e.kids) 0
  have hj1 := joined_len sAnd (texs e.op e.kids)
  have hj2 := joined_len sOr (texs e.op e.kids)
  rw [g2] at hj1 hj2
  have z1 : sAnd.size = 5 := rfl
  have z2 : sOr.size = 4 := rfl
  rw [z1] at hj1
  rw [z2] at hj2
  obtain ⟨_, _, hnm, _, hv, hn, hx⟩ := node_parts h1
  rw [texE_eq, cnt_eq, vs_eq]
  have l1 : sNot.size = 4 := rfl
  have l2 : sLimit.size = 6 := rfl
  have l3 : sSpace.size = 1 := rfl
  have l4 : sPlus.size = 6 := rfl
  have l5 : sOver.size = 5 := rfl
  have l6 : sEq.size = 3 := rfl
  have l7 : sHas.size = 4 := rfl
  have l8 : sSlot.size = 5 := rfl
  have l9 : sIs.size = 4 := rfl
  have l10 : sAll.size = 4 := rfl
  have l11 : sAny.size = 4 := rfl
  have l12 : sOpen.size = 2 := rfl
  have l13 : sAt.size = 9 := rfl
  have l14 : wShut.size = 1 := rfl
  have l15 : wTrue.size = 4 := rfl
  have hq := quote_size e.value
  unfold nodeT
  repeat' split
  all_goals (try simp only [size_app])
  all_goals try omega
  all_goals (rw [if_neg (by omega)] at hnm; have hnm := name_le hnm)
  · rw [if_pos (by omega)] at hn
    rw [if_pos (by assumption)] at hx
    have := itoa_len hn.1 hn.2
    have := itoa_len hx.1 hx.2
    omega
  · rw [if_pos (by omega)] at hn
    have := itoa_len hn.1 hn.2
    omega
  · rw [if_pos (by omega)] at hn
    have := itoa_len hn.1 hn.2
    omega
  · rw [if_pos (by assumption)] at hv
    omega
  · omega
  · rw [if_neg (by omega), if_pos (by assumption)] at hv
    have := name_le hv
    omega
  · omega
  · omega
  · rw [if_neg (by omega), if_pos (by assumption)] at hn
    have := itoa_len (by omega) hn.2
    omega
theorem parseU_bad {s : ByteArray} (h : (parseU s).2.1 ≠ 0) : (parseU s).1 = ru0 ∧ (parseU s).2.2 ≤ s.size := by
  unfold parseU at *
  by_cases he : (lexL s).2.1 ≠ 0
  · rw [if_pos he] at *
    exact ⟨rfl, lexL_bad he⟩
  · rw [if_neg he] at *
    have hg := rule_ga (E := s.size) (Int.le_refl _) (lexL_toks (Decidable.not_not.1 he)).1
    cases hq : ruleP s.size (lexL s).1 with
    | bad e a =>
      rw [hq] at hg
      exact ⟨rfl, hg.1⟩
    | ok q r =>
      rw [hq] at h
      by_cases hc : 60 < cnt q.cond
      · show (if 60 < cnt q.cond then (ru0, (7 : Int), (0 : Int)) else (q, 0, 0)).1 = ru0 ∧ (if 60 < cnt q.cond then (ru0, (7 : Int), (0 : Int)) else (q, 0, 0)).2.2 ≤ s.size
        rw [if_pos hc]
        exact ⟨rfl, Int.natCast_nonneg _⟩
      · exact absurd (show (if 60 < cnt q.cond then (ru0, (7 : Int), (0 : Int)) else (q, 0, 0)).2.1 = 0 by rw [if_neg hc]) h
theorem parseU_good {s : ByteArray} (h : (parseU s).2.1 = 0) : ruleB (parseU s).1 = true ∧ (parseU s).2.2 = 0 ∧ vs (parseU s).1.cond ≤ s.size := by
  unfold parseU at *
  by_cases he : (lexL s).2.1 ≠ 0
  · rw [if_pos he] at *
    exact absurd h he
  · rw [if_neg he] at *
    obtain ⟨ht, hm⟩ := lexL_toks (Decidable.not_not.1 he)
    have hg := rule_ga (E := s.size) (Int.le_refl _) ht
    cases hq : ruleP s.size (lexL s).1 with
    | bad e a =>
      rw [hq] at hg h
      have h2 := hg.2
      have h3 : e = 0 := h
      omega
    | ok q r =>
      rw [hq] at hg h
      by_cases hc : 60 < cnt q.cond
      · exact absurd ((show (7 : Int) = (if 60 < cnt q.cond then (ru0, (7 : Int), (0 : Int)) else (q, 0, 0)).2.1 by rw [if_pos hc]).trans h) (by decide)
      · show ruleB (if 60 < cnt q.cond then (ru0, (7 : Int), (0 : Int)) else (q, 0, 0)).1 = true ∧ (if 60 < cnt q.cond then (ru0, (7 : Int), (0 : Int)) else (q, 0, 0)).2.2 = 0 ∧ vs (if 60 < cnt q.cond then (ru0, (7 : Int), (0 : Int)) else (q, 0, 0)).1.cond ≤ s.size
        rw [if_neg hc]
        obtain ⟨⟨h1, h2, h3⟩, _, _, h4⟩ := hg
        refine ⟨?_, rfl, by dsimp only at h4 ⊢; omega⟩
        unfold ruleB condB
        show (nameB q.name && (nameB q.kind && (decide (cnt q.cond ≤ 60) && allB q.cond))) = true
        rw [h1, h2, h3, decide_eq_true (by omega)]
        rfl
theorem rule_cnt {r : Ru} (h : ruleB r = true) : cnt r.cond ≤ 60 ∧ allB r.cond = true ∧ r.name.size ≤ 24 ∧ r.kind.size ≤ 24 := by
  unfold ruleB condB at h
  simp only [Bool.and_eq_true, decide_eq_true_eq] at h
  exact ⟨h.2.2.1, h.2.2.2, name_le h.1, name_le h.2.1⟩
/-- What is parsed has a text. -/
theorem parsed_text {s : ByteArray} (hs : s.size ≤ 3000) (h : (parseU s).2.1 = 0) : textU (parseU s).1 = (ruleT (parseU s).1, 0) ∧ (ruleT (parseU s).1).size ≤ 20000 := by
  obtain ⟨h1, _, h3⟩ := parseU_good h
  obtain ⟨c1, c2, c3, c4⟩ := rule_cnt h1
  have hf := texE_fine _ c2
  have hl : (ruleT (parseU s).1).size ≤ 20000 := by
    unfold ruleT
    simp only [size_app]
    show 5 + _ + 5 + _ + 2 + _ + 2 ≤ _
    omega
  refine ⟨?_, hl⟩
  unfold textU
  rw [if_pos h1, if_neg (by omega)]
theorem fit_all : ∀ e : Ex, allB e = true → cnt e ≤ 1000 → FitE e := by
  refine Ex.ind fun e ih h hc => ?_
  rw [allB_eq, Bool.and_eq_true, allsB_all, List.all_eq_true] at h
  obtain ⟨hop, _, hnm, _, hv, hn, hx⟩ := node_parts h.1
  have hk := len_cnts e.kids
  have he := cnt_eq e
  have hn1 : e.name.size ≤ 24 := by
    revert hnm
    split
    · omega
    · exact name_le
  have hv1 : e.value.size ≤ 200 := by
    revert hv
    split
    · exact fun h => h.2
    · split
      · intro h; have := name_le h; omega
      · omega
  refine .mk e (by unfold maxLen; omega) (by unfold maxLen; omega) ⟨by omega, by omega⟩ ?_ ?_ (by unfold maxLen; omega) fun k hk => ih k hk (h.2 k hk) (by have := cnt_kid hk; omega)
  · revert hn
    unfold In64E
    split
    · omega
    · split
      · omega
      · omega
  · revert hx
    unfold In64E
    split
    · omega
    · omega
theorem fit_rule {r : Ru} (h : ruleB r = true) : FitE r.cond := by
  obtain ⟨c1, c2, _⟩ := rule_cnt h
  exact fit_all _ c2 (by omega)
end Go.Proofs.YtppoeiofdmlpeaaDoor
