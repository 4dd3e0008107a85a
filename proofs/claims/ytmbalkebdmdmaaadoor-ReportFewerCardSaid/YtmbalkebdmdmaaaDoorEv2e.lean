/- event.Valid: what ends early. -/
import Derived.Test.YtmbalkebdmdmaaaDoorEv2
namespace Go.Proofs.YtmbalkebdmdmaaaDoor
open Go Go.RowKit
set_option maxHeartbeats 1000000 in
theorem valid_e1 (op : Int) (day : Int) (part kind into slot key value : ByteArray) (kl kh cl ch ll lh : Int) (w : World) (ho : op < 1 ∨ 7 < op) :
    Calls Tryd.prog 17 #[.agg #[.int .i64 op, .int .i64 day, .string part, .string kind, .string into, .string slot, .string key, .string value, .int .i64 kl, .int .i64 kh, .int .i64 cl, .int .i64 ch, .int .i64 ll, .int .i64 lh]] w fun e w' => e = .returned (.bool false) ∧ Below w.heap.size w w' := by
  have hW := wordS_none ho
  have HO := Lib.hid ho
  clear ho
  go_enter Tryd.func17, Tryd.ntmps17
  go_wp2_with (first | (go_at_call 27; refine (word_any _ _).mono ?_; rintro e w1 ⟨rfl, hb1⟩; obtain ⟨hE1, hB1, hz1⟩ := boxed hb1; obtain ⟨hc1, hf1⟩ := hE1.facts; have HE1 := Lib.hid hE1; have HB1 := Lib.hid hB1; clear hb1 hE1 hB1))
  go_ret
  exact ⟨rfl, HB1.out⟩
set_option maxHeartbeats 1000000 in
theorem valid_e2 (op : Int) (day : Int) (part kind into slot key value : ByteArray) (kl kh cl ch ll lh : Int) (w : World) (ho : 1 ≤ op ∧ op ≤ 7) (hd : day < 0) :
    Calls Tryd.prog 17 #[.agg #[.int .i64 op, .int .i64 day, .string part, .string kind, .string into, .string slot, .string key, .string value, .int .i64 kl, .int .i64 kh, .int .i64 cl, .int .i64 ch, .int .i64 ll, .int .i64 lh]] w fun e w' => e = .returned (.bool false) ∧ Below w.heap.size w w' := by
  have hW := wordS_some ho
  have hW' := wordS_some' ho
  have HO := Lib.hid ho
  clear ho
  go_enter Tryd.func17, Tryd.ntmps17
  go_wp2_with (first | (go_at_call 27; refine (word_any _ _).mono ?_; rintro e w1 ⟨rfl, hb1⟩; obtain ⟨hE1, hB1, hz1⟩ := boxed hb1; obtain ⟨hc1, hf1⟩ := hE1.facts; have HE1 := Lib.hid hE1; have HB1 := Lib.hid hB1; clear hb1 hE1 hB1))
  go_ret
  exact ⟨rfl, HB1.out⟩
set_option maxHeartbeats 1000000 in
theorem valid_e3 (op : Int) (day : Int) (part kind into slot key value : ByteArray) (kl kh cl ch ll lh : Int) (w : World) (ho : 1 ≤ op ∧ op ≤ 7) (hd0 : 0 ≤ day) (hd : 40000 < day) :
    Calls Tryd.prog 17 #[.agg #[.int .i64 op, .int .i64 day, .string part, .string kind, .string into, .string slot, .string key, .string value, .int .i64 kl, .int .i64 kh, .int .i64 cl, .int .i64 ch, .int .i64 ll, .int .i64 lh]] w fun e w' => e = .returned (.bool false) ∧ Below w.heap.size w w' := by
  have hW := wordS_some ho
  have hW' := wordS_some' ho
  have HO := Lib.hid ho
  clear ho
  go_enter Tryd.func17, Tryd.ntmps17
  go_wp2_with (first | (go_at_call 27; refine (word_any _ _).mono ?_; rintro e w1 ⟨rfl, hb1⟩; obtain ⟨hE1, hB1, hz1⟩ := boxed hb1; obtain ⟨hc1, hf1⟩ := hE1.facts; have HE1 := Lib.hid hE1; have HB1 := Lib.hid hB1; clear hb1 hE1 hB1))
  go_ret
  exact ⟨rfl, HB1.out⟩
set_option maxHeartbeats 1000000 in
theorem valid_e4 (op : Int) (day : Int) (part kind into slot key value : ByteArray) (kl kh cl ch ll lh : Int) (w : World) (ho : 1 ≤ op ∧ op ≤ 7) (hd0 : 0 ≤ day) (hd : day ≤ 40000) (hp : part.size ≤ maxLen) (hn : nameB part = false) :
    Calls Tryd.prog 17 #[.agg #[.int .i64 op, .int .i64 day, .string part, .string kind, .string into, .string slot, .string key, .string value, .int .i64 kl, .int .i64 kh, .int .i64 cl, .int .i64 ch, .int .i64 ll, .int .i64 lh]] w fun e w' => e = .returned (.bool false) ∧ Below w.heap.size w w' := by
  have hW := wordS_some ho
  have hW' := wordS_some' ho
  have HO := Lib.hid ho
  clear ho
  have HN := Lib.hid hn
  clear hn
  go_enter Tryd.func17, Tryd.ntmps17
  go_wp2_with (first | (go_at_call 27; refine (word_any _ _).mono ?_; rintro e w1 ⟨rfl, hb1⟩; obtain ⟨hE1, hB1, hz1⟩ := boxed hb1; obtain ⟨hc1, hf1⟩ := hE1.facts; have HE1 := Lib.hid hE1; have HB1 := Lib.hid hB1; clear hb1 hE1 hB1) | (go_at_call 28; refine (name_any _ _ hp).mono ?_; rintro e w2 ⟨rfl, hb2⟩; rw [HN.out]; obtain ⟨hE2, hB2, hz2⟩ := HE1.out.next HB1.out hz1 hb2 (by omega); obtain ⟨hc2, hf2⟩ := hE2.facts; have HE2 := Lib.hid hE2; have HB2 := Lib.hid hB2; clear hb2 hE2 hB2 hc1 hf1 hz1))
  go_ret
  exact ⟨rfl, HB2.out⟩
end Go.Proofs.YtmbalkebdmdmaaaDoor
