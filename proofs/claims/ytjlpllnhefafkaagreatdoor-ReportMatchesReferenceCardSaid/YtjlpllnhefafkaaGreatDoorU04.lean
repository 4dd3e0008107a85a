/- event.Valid: make. -/
import Derived.Test.YtjlpllnhefafkaaGreatDoorU02
namespace Go.Proofs.YtjlpllnhefafkaaGreatDoor
open Go Go.RowKit
set_option maxHeartbeats 1000000 in
theorem valid_o1 (day : Int) (part kind into slot key value : ByteArray) (kl kh cl ch ll lh : Int) (w : World) (hd0 : 0 ≤ day) (hd : day ≤ 40000) (hp : part.size ≤ maxLen) (hn : nameB part = true)  (hk : kind.size ≤ maxLen) :
    Calls Tryz.prog 29 #[.agg #[.int .i64 1, .int .i64 day, .string part, .string kind, .string into, .string slot, .string key, .string value, .int .i64 kl, .int .i64 kh, .int .i64 cl, .int .i64 ch, .int .i64 ll, .int .i64 lh]] w fun e w' => e = .returned (.bool (evEq ⟨0, 0, ⟨#[]⟩, ⟨#[]⟩, into, slot, key, value, kl, kh, cl, ch, ll, lh⟩ ⟨0, 0, ⟨#[]⟩, ⟨#[]⟩, ⟨#[]⟩, ⟨#[]⟩, ⟨#[]⟩, ⟨#[]⟩, 0, 0, 0, 0, 0, 0⟩ && [kind].all nameB)) ∧ Below w.heap.size w w' := by
  have HN := Lib.hid hn
  clear hn
  have hW : wordS 1 = ⟨#[109, 97, 107, 101]⟩ := rfl
  cases hr : evEq ⟨0, 0, ⟨#[]⟩, ⟨#[]⟩, into, slot, key, value, kl, kh, cl, ch, ll, lh⟩ ⟨0, 0, ⟨#[]⟩, ⟨#[]⟩, ⟨#[]⟩, ⟨#[]⟩, ⟨#[]⟩, ⟨#[]⟩, 0, 0, 0, 0, 0, 0⟩
  · go_enter Tryz.func29, Tryz.ntmps29
    go_wp2_with (first | (go_at_call 43; refine (word_any _ _).mono ?_; rintro e w1 ⟨rfl, hb1⟩; obtain ⟨hE1, hB1, hz1⟩ := boxed hb1; obtain ⟨hc1, hf1⟩ := hE1.facts; have HE1 := Lib.hid hE1; have HB1 := Lib.hid hB1; clear hb1 hE1 hB1) | (go_at_call 53; refine (name_any _ _ hp).mono ?_; rintro e w2 ⟨rfl, hb2⟩; rw [HN.out]; obtain ⟨hE2, hB2, hz2⟩ := HE1.out.next HB1.out hz1 hb2 (by omega); obtain ⟨hc2, hf2⟩ := hE2.facts; have HE2 := Lib.hid hE2; have HB2 := Lib.hid hB2; clear hb2 hE2 hB2 hc1 hf1 hz1))
    go_ret
    exact ⟨rfl, (((HB2.out.alloc (by omega) _).alloc (by simp; omega) _).alloc (by simp; omega) _)⟩
  · go_enter Tryz.func29, Tryz.ntmps29
    go_wp2_with (first | (go_at_call 43; refine (word_any _ _).mono ?_; rintro e w1 ⟨rfl, hb1⟩; obtain ⟨hE1, hB1, hz1⟩ := boxed hb1; obtain ⟨hc1, hf1⟩ := hE1.facts; have HE1 := Lib.hid hE1; have HB1 := Lib.hid hB1; clear hb1 hE1 hB1) | (go_at_call 53; refine (name_any _ _ hp).mono ?_; rintro e w2 ⟨rfl, hb2⟩; rw [HN.out]; obtain ⟨hE2, hB2, hz2⟩ := HE1.out.next HB1.out hz1 hb2 (by omega); obtain ⟨hc2, hf2⟩ := hE2.facts; have HE2 := Lib.hid hE2; have HB2 := Lib.hid hB2; clear hb2 hE2 hB2 hc1 hf1 hz1) | (go_at_call 54; refine (containsBad_any _ [kind] _ (Sl.has (n := 1) (sz := 1) (c := 1) (t := 9) (cs := #[.string kind]) (has_new2 w2 _ _ _ _) (by omega) (f := strF [kind]) (by intro j hj; match j, hj with | 0, _ => rfl)) (by simp) (fun s hs => by simp at hs; subst hs; exact hk)).mono ?_; rintro e w3 ⟨rfl, hb3⟩))
    go_ret
    exact ⟨ret_bool (by simp), (((HB2.out.alloc (by omega) _).alloc (by simp; omega) _).alloc (by simp; omega) _).trans (hb3.mono (by simp; omega))⟩
end Go.Proofs.YtjlpllnhefafkaaGreatDoor
