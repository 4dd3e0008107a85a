/- event.Valid: fit. -/
import Derived.Test.YtjlpllnhefafkaaGreatDoorU02
namespace Go.Proofs.YtjlpllnhefafkaaGreatDoor
open Go Go.RowKit
set_option maxHeartbeats 1000000 in
theorem valid_o2 (day : Int) (part kind into slot key value : ByteArray) (kl kh cl ch ll lh : Int) (w : World) (hd0 : 0 ≤ day) (hd : day ≤ 40000) (hp : part.size ≤ maxLen) (hn : nameB part = true) (hne : (into.toList == part.toList) = false) (hi : into.size ≤ maxLen) (hs : slot.size ≤ maxLen) :
    Calls Tryz.prog 29 #[.agg #[.int .i64 2, .int .i64 day, .string part, .string kind, .string into, .string slot, .string key, .string value, .int .i64 kl, .int .i64 kh, .int .i64 cl, .int .i64 ch, .int .i64 ll, .int .i64 lh]] w fun e w' => e = .returned (.bool (evEq ⟨0, 0, ⟨#[]⟩, kind, ⟨#[]⟩, ⟨#[]⟩, key, value, kl, kh, cl, ch, ll, lh⟩ ⟨0, 0, ⟨#[]⟩, ⟨#[]⟩, ⟨#[]⟩, ⟨#[]⟩, ⟨#[]⟩, ⟨#[]⟩, 0, 0, 0, 0, 0, 0⟩ && [into, slot].all nameB)) ∧ Below w.heap.size w w' := by
  have HN := Lib.hid hn
  clear hn
  have hW : wordS 2 = ⟨#[102, 105, 116]⟩ := rfl
  cases hr : evEq ⟨0, 0, ⟨#[]⟩, kind, ⟨#[]⟩, ⟨#[]⟩, key, value, kl, kh, cl, ch, ll, lh⟩ ⟨0, 0, ⟨#[]⟩, ⟨#[]⟩, ⟨#[]⟩, ⟨#[]⟩, ⟨#[]⟩, ⟨#[]⟩, 0, 0, 0, 0, 0, 0⟩
  · go_enter Tryz.func29, Tryz.ntmps29
    go_wp2_with (first | (go_at_call 43; refine (word_any _ _).mono ?_; rintro e w1 ⟨rfl, hb1⟩; obtain ⟨hE1, hB1, hz1⟩ := boxed hb1; obtain ⟨hc1, hf1⟩ := hE1.facts; have HE1 := Lib.hid hE1; have HB1 := Lib.hid hB1; clear hb1 hE1 hB1) | (go_at_call 53; refine (name_any _ _ hp).mono ?_; rintro e w2 ⟨rfl, hb2⟩; rw [HN.out]; obtain ⟨hE2, hB2, hz2⟩ := HE1.out.next HB1.out hz1 hb2 (by omega); obtain ⟨hc2, hf2⟩ := hE2.facts; have HE2 := Lib.hid hE2; have HB2 := Lib.hid hB2; clear hb2 hE2 hB2 hc1 hf1 hz1))
    go_ret
    exact ⟨rfl, (((HB2.out.alloc (by omega) _).alloc (by simp; omega) _).alloc (by simp; omega) _)⟩
  · go_enter Tryz.func29, Tryz.ntmps29
    go_wp2_with (first | (go_at_call 43; refine (word_any _ _).mono ?_; rintro e w1 ⟨rfl, hb1⟩; obtain ⟨hE1, hB1, hz1⟩ := boxed hb1; obtain ⟨hc1, hf1⟩ := hE1.facts; have HE1 := Lib.hid hE1; have HB1 := Lib.hid hB1; clear hb1 hE1 hB1) | (go_at_call 53; refine (name_any _ _ hp).mono ?_; rintro e w2 ⟨rfl, hb2⟩; rw [HN.out]; obtain ⟨hE2, hB2, hz2⟩ := HE1.out.next HB1.out hz1 hb2 (by omega); obtain ⟨hc2, hf2⟩ := hE2.facts; have HE2 := Lib.hid hE2; have HB2 := Lib.hid hB2; clear hb2 hE2 hB2 hc1 hf1 hz1) | (go_at_call 54; refine (containsBad_any _ [into, slot] _ (Sl.has (n := 2) (sz := 1) (c := 2) (t := 9) (cs := #[.string into, .string slot]) (has_new2 w2 _ _ _ _) (by omega) (f := strF [into, slot]) (by intro j hj; match j, hj with | 0, _ => rfl | 1, _ => rfl)) (by simp) (fun s hs => by simp at hs; rcases hs with rfl | rfl <;> assumption)).mono ?_; rintro e w3 ⟨rfl, hb3⟩))
    go_ret
    exact ⟨ret_bool (by simp), (((HB2.out.alloc (by omega) _).alloc (by simp; omega) _).alloc (by simp; omega) _).trans (hb3.mono (by simp; omega))⟩
set_option maxHeartbeats 1000000 in
theorem valid_n2 (day : Int) (part kind into slot key value : ByteArray) (kl kh cl ch ll lh : Int) (w : World) (hd0 : 0 ≤ day) (hd : day ≤ 40000) (hp : part.size ≤ maxLen) (hn : nameB part = true) (hne : (into.toList == part.toList) = true) :
    Calls Tryz.prog 29 #[.agg #[.int .i64 2, .int .i64 day, .string part, .string kind, .string into, .string slot, .string key, .string value, .int .i64 kl, .int .i64 kh, .int .i64 cl, .int .i64 ch, .int .i64 ll, .int .i64 lh]] w fun e w' => e = .returned (.bool false) ∧ Below w.heap.size w w' := by
  have HN := Lib.hid hn
  clear hn
  have hW : wordS 2 = ⟨#[102, 105, 116]⟩ := rfl
  have hne2 : into.toList = part.toList := by simpa using hne
  go_enter Tryz.func29, Tryz.ntmps29
  go_wp2_with (first | (go_at_call 43; refine (word_any _ _).mono ?_; rintro e w1 ⟨rfl, hb1⟩; obtain ⟨hE1, hB1, hz1⟩ := boxed hb1; obtain ⟨hc1, hf1⟩ := hE1.facts; have HE1 := Lib.hid hE1; have HB1 := Lib.hid hB1; clear hb1 hE1 hB1) | (go_at_call 53; refine (name_any _ _ hp).mono ?_; rintro e w2 ⟨rfl, hb2⟩; rw [HN.out]; obtain ⟨hE2, hB2, hz2⟩ := HE1.out.next HB1.out hz1 hb2 (by omega); obtain ⟨hc2, hf2⟩ := hE2.facts; have HE2 := Lib.hid hE2; have HB2 := Lib.hid hB2; clear hb2 hE2 hB2 hc1 hf1 hz1))
  go_ret
  exact ⟨rfl, (HB2.out.alloc (by omega) _).alloc (by simp; omega) _⟩
end Go.Proofs.YtjlpllnhefafkaaGreatDoor
