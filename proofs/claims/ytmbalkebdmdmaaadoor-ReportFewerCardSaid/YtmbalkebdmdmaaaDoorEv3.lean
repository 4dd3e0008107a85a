/- event.Valid at every event: what it returns. No condition but that its strings are strings that lie in memory. -/
import Derived.Test.YtmbalkebdmdmaaaDoorEv2e
import Derived.Test.YtmbalkebdmdmaaaDoorEv2a
import Derived.Test.YtmbalkebdmdmaaaDoorEv2b
import Derived.Test.YtmbalkebdmdmaaaDoorEv2c
import Derived.Test.YtmbalkebdmdmaaaDoorEv2d
import Derived.Test.YtmbalkebdmdmaaaDoorEv2f
namespace Go.Proofs.YtmbalkebdmdmaaaDoor
open Go Go.RowKit
theorem valid_any (e : Ev) (w : World) (hs : e.short) :
    Calls Tryd.prog 17 #[.agg e.cells] w fun r w' => r = .returned (.bool (evOk e)) ∧ Below w.heap.size w w' := by
  obtain ⟨op, day, part, kind, into, slot, key, value, kl, kh, cl, ch, ll, lh⟩ := e
  obtain ⟨hp, hk, hi, hsl, hke, hv⟩ := hs
  show Calls Tryd.prog 17 #[.agg #[.int .i64 op, .int .i64 day, .string part, .string kind, .string into, .string slot, .string key, .string value, .int .i64 kl, .int .i64 kh, .int .i64 cl, .int .i64 ch, .int .i64 ll, .int .i64 lh]] w _
  have fin : ∀ {b : Bool}, evOk ⟨op, day, part, kind, into, slot, key, value, kl, kh, cl, ch, ll, lh⟩ = b → (∀ r w', (r = Ending.returned (.bool b) ∧ Below w.heap.size w w') → r = .returned (.bool (evOk ⟨op, day, part, kind, into, slot, key, value, kl, kh, cl, ch, ll, lh⟩)) ∧ Below w.heap.size w w') :=
    fun h r w' ⟨h1, h2⟩ => ⟨by rw [h]; exact h1, h2⟩
  by_cases ho : 1 ≤ op ∧ op ≤ 7
  · by_cases hd0 : 0 ≤ day
    · by_cases hd : day ≤ 40000
      · cases hn : nameB part
        · exact (valid_e4 op day part kind into slot key value kl kh cl ch ll lh w ho hd0 hd hp hn).mono (fin (by simp [evOk, ho, hd0, hd, hn]))
        · have hops : op = 3 ∨ op = 5 ∨ op = 7 ∨ op = 1 ∨ op = 2 ∨ op = 6 ∨ op = 4 := by omega
          rcases hops with rfl | rfl | rfl | rfl | rfl | rfl | rfl
          · exact (valid_o3 day part kind into slot key value kl kh cl ch ll lh w hd0 hd hp hn).mono (fin (by simp [evOk, evRest, rest0, hd0, hd, hn]))
          · exact (valid_o5 day part kind into slot key value kl kh cl ch ll lh w hd0 hd hp hn).mono (fin (by simp [evOk, evRest, rest0, hd0, hd, hn]))
          · exact (valid_o7 day part kind into slot key value kl kh cl ch ll lh w hd0 hd hp hn).mono (fin (by simp [evOk, evRest, rest0, hd0, hd, hn]))
          · exact (valid_o1 day part kind into slot key value kl kh cl ch ll lh w hd0 hd hp hn hk).mono (fin (by simp [evOk, evRest, rest1, hd0, hd, hn]))
          · cases hne : into.toList == part.toList
            · exact (valid_o2 day part kind into slot key value kl kh cl ch ll lh w hd0 hd hp hn hne hi hsl).mono (fin (by simp [evOk, evRest, rest2, hd0, hd, hn, hne]))
            · exact (valid_n2 day part kind into slot key value kl kh cl ch ll lh w hd0 hd hp hn hne).mono (fin (by simp [evOk, evRest, hne]))
          · cases hve : value.toList.isEmpty
            · by_cases hv2 : value.size ≤ 200
              · exact (valid_o6 day part kind into slot key value kl kh cl ch ll lh w hd0 hd hp hn hve hv2 hke).mono (fin (by
                  have h3 : ((value.size : Int) ≤ 200) := by omega
                  simp [evOk, evRest, rest6, hd0, hd, hn, hve, h3]))
              · exact (valid_m6 day part kind into slot key value kl kh cl ch ll lh w hd0 hd hp hn hve (by omega)).mono (fin (by
                  have h3 : ¬ ((value.size : Int) ≤ 200) := by omega
                  simp [evOk, evRest, h3]))
            · exact (valid_n6 day part kind into slot key value kl kh cl ch ll lh w hd0 hd hp hn hve).mono (fin (by simp [evOk, evRest, hve]))
          · exact (valid_o4 day part kind into slot key value kl kh cl ch ll lh w hd0 hd hp hn).mono (fin (by simp [evOk, evRest, hd0, hd, hn]))
      · exact (valid_e3 op day part kind into slot key value kl kh cl ch ll lh w ho hd0 (by omega)).mono (fin (by simp [evOk, hd]))
    · exact (valid_e2 op day part kind into slot key value kl kh cl ch ll lh w ho (by omega)).mono (fin (by simp [evOk, hd0]))
  · exact (valid_e1 op day part kind into slot key value kl kh cl ch ll lh w (by omega)).mono (fin (by simp [evOk, ho]))
end Go.Proofs.YtmbalkebdmdmaaaDoor
