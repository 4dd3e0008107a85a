/- event.Names: the parts that an event mentions. -/
import Derived.Test.YtmbalkebdmdmaaaDoorEv3
import Derived.Test.YtmbalkebdmdmaaaDoorApp
import Derived.Lib.MinMaxS
namespace Go.Proofs.YtmbalkebdmdmaaaDoor
open Go Go.RowKit
def evNames (e : Ev) : List ByteArray := if evOk e then (if e.op = 2 then [Lib.minS e.part e.into, Lib.maxS e.part e.into] else [e.part]) else []
theorem own_lit {w : World} {g t : Nat} {cs : Array Value} {base n sz : Nat} (h : Has w g t cs) (hb : base ≤ g) (hs : cs.size = n * sz) (hn : n ≤ maxLen) :
    w.ownsRow base t sz (.slice (some ⟨g, 0, none⟩) n n) n cs.toList :=
  ⟨by simpa using hs, .inr ⟨g, n, cs, rfl, hb, h, Nat.le_refl _, hn, hs, by rw [List.take_of_length_le (by simp [hs])]⟩⟩
set_option maxRecDepth 100000 in
set_option maxHeartbeats 2000000 in
theorem names_any (e : Ev) (w : World) (hs : e.short) :
    Calls Tryd.prog 19 #[.agg e.cells] w fun r w' => ∃ v', r = .returned v' ∧ w'.ownsRow w.heap.size 9 1 v' (evNames e).length ((evNames e).map .string) ∧ Below w.heap.size w w' := by
  have hv := Lib.hid (fun W => valid_any e W hs)
  clear hs
  cases hok : evOk e
  · have hr := Lib.hid (show evNames e = [] by simp [evNames, hok])
    have HOK := Lib.hid hok
    clear hok
    obtain ⟨op, day, part, kind, into, slot, key, value, kl, kh, cl, ch, ll, lh⟩ := e
    show Calls Tryd.prog 19 #[.agg #[.int .i64 op, .int .i64 day, .string part, .string kind, .string into, .string slot, .string key, .string value, .int .i64 kl, .int .i64 kh, .int .i64 cl, .int .i64 ch, .int .i64 ll, .int .i64 lh]] w _
    go_enter Tryd.func19, Tryd.ntmps19
    go_wp2_with (go_at_call 17; refine (hv.out _).mono ?_; rintro r w2 ⟨rfl, hb2⟩; rw [HOK.out]; obtain ⟨hE2, hB2, hz2⟩ := boxed hb2; obtain ⟨hc2, hf2⟩ := hE2.facts; have HB2 := Lib.hid hB2; clear hb2 hE2 hB2)
    go_ret
    exact ⟨_, rfl, by rw [hr.out]; exact World.ownsRow_nil _ _ _ _, HB2.out⟩
  · by_cases h2 : e.op = 2
    · have hr := Lib.hid (show evNames e = [Lib.minS e.part e.into, Lib.maxS e.part e.into] by simp [evNames, hok, h2])
      have HOK := Lib.hid hok
      clear hok
      obtain ⟨op, day, part, kind, into, slot, key, value, kl, kh, cl, ch, ll, lh⟩ := e
      dsimp only at h2 hr
      subst h2
      have hmn := fun w => Lib.run_min_strs (P := Tryd.prog) w #[9, 9] 9 part into
      have hmx := fun w => Lib.run_max_strs (P := Tryd.prog) w #[9, 9] 9 part into
      show Calls Tryd.prog 19 #[.agg #[.int .i64 2, .int .i64 day, .string part, .string kind, .string into, .string slot, .string key, .string value, .int .i64 kl, .int .i64 kh, .int .i64 cl, .int .i64 ch, .int .i64 ll, .int .i64 lh]] w _
      go_enter Tryd.func19, Tryd.ntmps19
      go_wp2_with (go_at_call 17; refine (hv.out _).mono ?_; rintro r w2 ⟨rfl, hb2⟩; rw [HOK.out]; obtain ⟨hE2, hB2, hz2⟩ := boxed hb2; obtain ⟨hc2, hf2⟩ := hE2.facts; have HB2 := Lib.hid hB2; clear hb2 hE2 hB2)
      go_ret
      refine ⟨_, rfl, ?_, HB2.out.alloc HB2.out.size _⟩
      rw [hr.out]
      exact own_lit (n := 2) (Has.new w2 _ #[.string (Lib.minS part into), .string (Lib.maxS part into)]) HB2.out.size rfl (by simp [maxLen])
    · have hr := Lib.hid (show evNames e = [e.part] by simp [evNames, hok, h2])
      have HOK := Lib.hid hok
      clear hok
      obtain ⟨op, day, part, kind, into, slot, key, value, kl, kh, cl, ch, ll, lh⟩ := e
      dsimp only at h2 hr
      have hb2' : (op == 2) = false := by simpa using h2
      clear h2
      show Calls Tryd.prog 19 #[.agg #[.int .i64 op, .int .i64 day, .string part, .string kind, .string into, .string slot, .string key, .string value, .int .i64 kl, .int .i64 kh, .int .i64 cl, .int .i64 ch, .int .i64 ll, .int .i64 lh]] w _
      go_enter Tryd.func19, Tryd.ntmps19
      go_wp2_with (go_at_call 17; refine (hv.out _).mono ?_; rintro r w2 ⟨rfl, hb2⟩; rw [HOK.out]; obtain ⟨hE2, hB2, hz2⟩ := boxed hb2; obtain ⟨hc2, hf2⟩ := hE2.facts; have HB2 := Lib.hid hB2; clear hb2 hE2 hB2)
      go_ret
      refine ⟨_, rfl, ?_, HB2.out.alloc HB2.out.size _⟩
      rw [hr.out]
      exact own_lit (n := 1) (Has.new w2 _ #[.string part]) HB2.out.size rfl (by simp [maxLen])
end Go.Proofs.YtmbalkebdmdmaaaDoor
