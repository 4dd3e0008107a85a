/- event.Valid: OpRun. event.Valid at every event: what it returns. No condition but that its strings are strings that lie in memory. fleet.Apply: what the boxes of its call hold. fleet.Apply at what is not valid. -/
import Derived.BigQuiet
import Derived.Deep.QuietTactic
import Derived.Test.YtccnocgmikmonaaGreatDoorU02
import Derived.Test.YtccnocgmikmonaaGreatDoorU06
import Derived.Test.YtccnocgmikmonaaGreatDoorU08
import Derived.Test.YtccnocgmikmonaaGreatDoorU09
import Derived.Test.YtccnocgmikmonaaGreatDoorU10
import Derived.Test.YtccnocgmikmonaaGreatDoorU11
import Derived.Test.YtccnocgmikmonaaGreatDoorU12
namespace Go.Proofs.YtccnocgmikmonaaGreatDoor
open Go Go.RowKit
theorem idx3_0 (a b c : Value) (w : World) : (Instr.index 140 (.agg #[a, b, c]) (.int .i64 0)).run Tryz.prog w = .ok a w := by kernel_rfl
theorem idx3_1 (a b c : Value) (w : World) : (Instr.index 140 (.agg #[a, b, c]) (.int .i64 1)).run Tryz.prog w = .ok b w := by kernel_rfl
theorem idx3_2 (a b c : Value) (w : World) : (Instr.index 140 (.agg #[a, b, c]) (.int .i64 2)).run Tryz.prog w = .ok c w := by kernel_rfl
attribute [go_sem] idx3_0 idx3_1 idx3_2
theorem below6 {B : Nat} {w W : World} {g : Nat} (h : Below B w W) (hg : B ≤ g) (a0 a1 a2 a3 a4 a5 : Nat) (v0 v1 v2 v3 v4 v5 : Value) :
    Below B w ((((((W.setCell ⟨g, a0, none⟩ v0).setCell ⟨g, a1, none⟩ v1).setCell ⟨g, a2, none⟩ v2).setCell ⟨g, a3, none⟩ v3).setCell ⟨g, a4, none⟩ v4).setCell ⟨g, a5, none⟩ v5) :=
  (((((h.setCell hg v0).setCell hg v1).setCell hg v2).setCell hg v3).setCell hg v4).setCell hg v5
def ivOk (l h : Int) : Prop := 0 ≤ l ∧ l ≤ h ∧ h ≤ 1000000
def useTo (k : Nat) (kl kh cl ch ll lh : Int) : Prop := (1 ≤ k → ivOk kl kh) ∧ (2 ≤ k → ivOk cl ch) ∧ (3 ≤ k → ivOk ll lh)
theorem useOk_no {e : Ev} (h : ¬ ivOk e.kl e.kh ∨ ¬ ivOk e.cl e.ch ∨ ¬ ivOk e.ll e.lh) : useOk e = false := by
  unfold ivOk at h
  exact decide_eq_false (by omega)
theorem useOk_n1 {day : Int} {part kind into slot key value : ByteArray} {kl kh cl ch ll lh : Int} (h : ¬ ivOk kl kh) : useOk ⟨4, day, part, kind, into, slot, key, value, kl, kh, cl, ch, ll, lh⟩ = false := useOk_no (.inl h)
theorem useOk_n2 {day : Int} {part kind into slot key value : ByteArray} {kl kh cl ch ll lh : Int} (h : ¬ ivOk cl ch) : useOk ⟨4, day, part, kind, into, slot, key, value, kl, kh, cl, ch, ll, lh⟩ = false := useOk_no (.inr (.inl h))
theorem useOk_n3 {day : Int} {part kind into slot key value : ByteArray} {kl kh cl ch ll lh : Int} (h : ¬ ivOk ll lh) : useOk ⟨4, day, part, kind, into, slot, key, value, kl, kh, cl, ch, ll, lh⟩ = false := useOk_no (.inr (.inr h))
theorem useOk_yes {e : Ev} (h : useTo 3 e.kl e.kh e.cl e.ch e.ll e.lh) : useOk e = true := by
  obtain ⟨h1, h2, h3⟩ := h
  have := h1 (by omega); have := h2 (by omega); have := h3 (by omega)
  unfold ivOk at *
  exact decide_eq_true (by omega)
set_option maxRecDepth 100000 in
set_option maxHeartbeats 4000000 in
theorem valid_o4 (day : Int) (part kind into slot key value : ByteArray) (kl kh cl ch ll lh : Int) (w : World) (hd0 : 0 ≤ day) (hd : day ≤ 40000) (hp : part.size ≤ maxLen) (hn : nameB part = true) :
    Calls Tryz.prog 50 #[.agg #[.int .i64 4, .int .i64 day, .string part, .string kind, .string into, .string slot, .string key, .string value, .int .i64 kl, .int .i64 kh, .int .i64 cl, .int .i64 ch, .int .i64 ll, .int .i64 lh]] w fun e w' =>
      e = .returned (.bool (useOk ⟨4, day, part, kind, into, slot, key, value, kl, kh, cl, ch, ll, lh⟩ && rest4 ⟨4, day, part, kind, into, slot, key, value, kl, kh, cl, ch, ll, lh⟩)) ∧ Below w.heap.size w w' := by
  have HN := Lib.hid hn
  clear hn
  have hW : wordS 4 = ⟨#[114, 117, 110]⟩ := rfl
  go_enter Tryz.func50, Tryz.ntmps50
  go_wp2_with (first | (go_at_call 83; refine (word_any _ _).mono ?_; rintro e w1 ⟨rfl, hb1⟩; obtain ⟨hE1, hB1, hz1⟩ := boxed hb1; obtain ⟨hc1, hf1⟩ := hE1.facts; have HE1 := Lib.hid hE1; have HB1 := Lib.hid hB1; clear hb1 hE1 hB1) | (go_at_call 84; refine (name_any _ _ hp).mono ?_; rintro e w2 ⟨rfl, hb2⟩; rw [HN.out]; obtain ⟨hE2, hB2, hz2⟩ := HE1.out.next HB1.out hz1 hb2 (by omega); obtain ⟨hc2, hf2⟩ := hE2.facts; have HE2 := Lib.hid hE2; have HB2 := Lib.hid hB2; clear hb2 hE2 hB2 hc1 hf1 hz1) | (go_at_call 85; refine (intervals_any _ _ _).mono ?_; rintro e w3 ⟨rfl, hb3⟩))
  have hz3 : w2.heap.size + 2 ≤ w3.heap.size := by have := hb3.size; simp at this; omega
  have hE3 : Has w3 w.heap.size 51 #[.int .i64 4, .int .i64 day, .string part, .string kind, .string into, .string slot, .string key, .string value, .int .i64 kl, .int .i64 kh, .int .i64 cl, .int .i64 ch, .int .i64 ll, .int .i64 lh] := ((HE2.out.alloc _).alloc _).below hb3 (by simp; omega)
  have hR3 : Has w3 (w2.heap.size + 1) 51 #[.int .i64 0, .int .i64 0, .string ⟨#[]⟩, .string kind, .string into, .string slot, .string key, .string value, .int .i64 kl, .int .i64 kh, .int .i64 cl, .int .i64 ch, .int .i64 ll, .int .i64 lh] := by
    have h := Has.new (w2.alloc (.cells #[] 9)) 51 #[.int .i64 0, .int .i64 0, .string ⟨#[]⟩, .string kind, .string into, .string slot, .string key, .string value, .int .i64 kl, .int .i64 kh, .int .i64 cl, .int .i64 ch, .int .i64 ll, .int .i64 lh]
    have e : (w2.alloc (.cells #[] 9)).heap.size = w2.heap.size + 1 := by simp
    rw [e] at h
    exact h.below hb3 (by simp)
  have hB3 : Below w.heap.size w w3 := ((HB2.out.alloc (by omega) _).alloc (by simp; omega) _).trans (hb3.mono (by simp; omega))
  clear hb3 hc2 hf2
  obtain ⟨hc3, hf3⟩ := hE3.facts
  obtain ⟨hr3, hg3⟩ := hR3.facts
  have HE3 := Lib.hid hE3
  have HR3 := Lib.hid hR3
  have HB3 := Lib.hid hB3
  clear hE3 hR3 hB3
  have hne : ¬ w.heap.size = w2.heap.size + 1 := by omega
  go_loopw [74] (fun i wr => ∃ k : Nat, k ≤ 3 ∧ i = .int .i64 k ∧ Hid (useTo k kl kh cl ch ll lh) ∧ ∃ n, wr = w3.drewN n) (fun i _ => 3 - (intOf i).toNat)
  case atStart => exact ⟨0, by omega, rfl, ⟨fun h => absurd h (by omega), fun h => absurd h (by omega), fun h => absurd h (by omega)⟩, 0, rfl⟩
  case round =>
    obtain ⟨k, hk, rfl, hrel, n, rfl⟩ := hrel
    by_cases hlt : k < 3
    · have hks : k = 0 ∨ k = 1 ∨ k = 2 := by omega
      clear hk hlt
      rcases hks with rfl | rfl | rfl
      · by_cases h1 : kl < 0
        · have hno := Lib.hid (useOk_n1 (day := day) (part := part) (kind := kind) (into := into) (slot := slot) (key := key) (value := value) (kl := kl) (kh := kh) (cl := cl) (ch := ch) (ll := ll) (lh := lh) (fun h => by unfold ivOk at h; omega))
          have d1 : decide (kl < 0) = true := decide_eq_true h1
          go_wp2_with fail
          go_quiet (fail)
          go_wp2
          go_ret
          exact ⟨ret_bool (by rw [hno.out]; rfl), below_drewN (below_drewN HB3.out _) _⟩
        · have d1 : decide (kl < 0) = false := decide_eq_false h1
          by_cases h2 : kh < kl
          · have hno := Lib.hid (useOk_n1 (day := day) (part := part) (kind := kind) (into := into) (slot := slot) (key := key) (value := value) (kl := kl) (kh := kh) (cl := cl) (ch := ch) (ll := ll) (lh := lh) (fun h => by unfold ivOk at h; omega))
            have d2 : decide (kh < kl) = true := decide_eq_true h2
            go_wp2_with fail
            go_quiet (fail)
            go_wp2
            go_ret
            exact ⟨ret_bool (by rw [hno.out]; rfl), below_drewN (below_drewN HB3.out _) _⟩
          · have d2 : decide (kh < kl) = false := decide_eq_false h2
            by_cases h3 : 1000000 < kh
            · have hno := Lib.hid (useOk_n1 (day := day) (part := part) (kind := kind) (into := into) (slot := slot) (key := key) (value := value) (kl := kl) (kh := kh) (cl := cl) (ch := ch) (ll := ll) (lh := lh) (fun h => by unfold ivOk at h; omega))
              have d3 : decide (1000000 < kh) = true := decide_eq_true h3
              go_wp2_with fail
              go_quiet (fail)
              go_wp2
              go_ret
              exact ⟨ret_bool (by rw [hno.out]; rfl), below_drewN (below_drewN HB3.out _) _⟩
            · have d3 : decide (1000000 < kh) = false := decide_eq_false h3
              have hok : ivOk kl kh := ⟨by omega, by omega, by omega⟩
              have HOK := Lib.hid hok
              clear hok
              go_wp2_with fail
              go_quiet (fail)
              go_wp2
              go_roundw
              case rel => exact ⟨1, by omega, rfl, ⟨fun _ => HOK.out, fun h => absurd h (by omega), fun h => absurd h (by omega)⟩, _, rfl⟩
              case measure => simp [intOf]
      · by_cases h1 : cl < 0
        · have hno := Lib.hid (useOk_n2 (day := day) (part := part) (kind := kind) (into := into) (slot := slot) (key := key) (value := value) (kl := kl) (kh := kh) (cl := cl) (ch := ch) (ll := ll) (lh := lh) (fun h => by unfold ivOk at h; omega))
          have d1 : decide (cl < 0) = true := decide_eq_true h1
          go_wp2_with fail
          go_quiet (fail)
          go_wp2
          go_ret
          exact ⟨ret_bool (by rw [hno.out]; rfl), below_drewN (below_drewN HB3.out _) _⟩
        · have d1 : decide (cl < 0) = false := decide_eq_false h1
          by_cases h2 : ch < cl
          · have hno := Lib.hid (useOk_n2 (day := day) (part := part) (kind := kind) (into := into) (slot := slot) (key := key) (value := value) (kl := kl) (kh := kh) (cl := cl) (ch := ch) (ll := ll) (lh := lh) (fun h => by unfold ivOk at h; omega))
            have d2 : decide (ch < cl) = true := decide_eq_true h2
            go_wp2_with fail
            go_quiet (fail)
            go_wp2
            go_ret
            exact ⟨ret_bool (by rw [hno.out]; rfl), below_drewN (below_drewN HB3.out _) _⟩
          · have d2 : decide (ch < cl) = false := decide_eq_false h2
            by_cases h3 : 1000000 < ch
            · have hno := Lib.hid (useOk_n2 (day := day) (part := part) (kind := kind) (into := into) (slot := slot) (key := key) (value := value) (kl := kl) (kh := kh) (cl := cl) (ch := ch) (ll := ll) (lh := lh) (fun h => by unfold ivOk at h; omega))
              have d3 : decide (1000000 < ch) = true := decide_eq_true h3
              go_wp2_with fail
              go_quiet (fail)
              go_wp2
              go_ret
              exact ⟨ret_bool (by rw [hno.out]; rfl), below_drewN (below_drewN HB3.out _) _⟩
            · have d3 : decide (1000000 < ch) = false := decide_eq_false h3
              have hok : ivOk cl ch := ⟨by omega, by omega, by omega⟩
              have HOK := Lib.hid hok
              clear hok
              go_wp2_with fail
              go_quiet (fail)
              go_wp2
              go_roundw
              case rel => exact ⟨2, by omega, rfl, ⟨fun _ => hrel.out.1 (by omega), fun _ => HOK.out, fun h => absurd h (by omega)⟩, _, rfl⟩
              case measure => simp [intOf]
      · by_cases h1 : ll < 0
        · have hno := Lib.hid (useOk_n3 (day := day) (part := part) (kind := kind) (into := into) (slot := slot) (key := key) (value := value) (kl := kl) (kh := kh) (cl := cl) (ch := ch) (ll := ll) (lh := lh) (fun h => by unfold ivOk at h; omega))
          have d1 : decide (ll < 0) = true := decide_eq_true h1
          go_wp2_with fail
          go_quiet (fail)
          go_wp2
          go_ret
          exact ⟨ret_bool (by rw [hno.out]; rfl), below_drewN (below_drewN HB3.out _) _⟩
        · have d1 : decide (ll < 0) = false := decide_eq_false h1
          by_cases h2 : lh < ll
          · have hno := Lib.hid (useOk_n3 (day := day) (part := part) (kind := kind) (into := into) (slot := slot) (key := key) (value := value) (kl := kl) (kh := kh) (cl := cl) (ch := ch) (ll := ll) (lh := lh) (fun h => by unfold ivOk at h; omega))
            have d2 : decide (lh < ll) = true := decide_eq_true h2
            go_wp2_with fail
            go_quiet (fail)
            go_wp2
            go_ret
            exact ⟨ret_bool (by rw [hno.out]; rfl), below_drewN (below_drewN HB3.out _) _⟩
          · have d2 : decide (lh < ll) = false := decide_eq_false h2
            by_cases h3 : 1000000 < lh
            · have hno := Lib.hid (useOk_n3 (day := day) (part := part) (kind := kind) (into := into) (slot := slot) (key := key) (value := value) (kl := kl) (kh := kh) (cl := cl) (ch := ch) (ll := ll) (lh := lh) (fun h => by unfold ivOk at h; omega))
              have d3 : decide (1000000 < lh) = true := decide_eq_true h3
              go_wp2_with fail
              go_quiet (fail)
              go_wp2
              go_ret
              exact ⟨ret_bool (by rw [hno.out]; rfl), below_drewN (below_drewN HB3.out _) _⟩
            · have d3 : decide (1000000 < lh) = false := decide_eq_false h3
              have hok : ivOk ll lh := ⟨by omega, by omega, by omega⟩
              have HOK := Lib.hid hok
              clear hok
              go_wp2_with fail
              go_quiet (fail)
              go_wp2
              go_roundw
              case rel => exact ⟨3, by omega, rfl, ⟨fun _ => hrel.out.1 (by omega), fun _ => hrel.out.2.1 (by omega), fun _ => HOK.out⟩, _, rfl⟩
              case measure => simp [intOf]
    · obtain rfl : k = 3 := by omega
      have hok := Lib.hid (useOk_yes (e := ⟨4, day, part, kind, into, slot, key, value, kl, kh, cl, ch, ll, lh⟩) hrel.out)
      cases hr : rest4 ⟨4, day, part, kind, into, slot, key, value, kl, kh, cl, ch, ll, lh⟩
      · have HR := Lib.hid hr
        have hr' : evEq ⟨0, 0, ⟨#[]⟩, kind, into, slot, key, value, 0, 0, 0, 0, 0, 0⟩ ⟨0, 0, ⟨#[]⟩, ⟨#[]⟩, ⟨#[]⟩, ⟨#[]⟩, ⟨#[]⟩, ⟨#[]⟩, 0, 0, 0, 0, 0, 0⟩ = false := hr
        clear hr
        go_wp2_with fail
        go_ret
        exact ⟨ret_bool (by rw [hok.out, HR.out]; rfl), below6 (below_drewN HB3.out n) (by omega) _ _ _ _ _ _ _ _ _ _ _ _⟩
      · have HR := Lib.hid hr
        have hr' : evEq ⟨0, 0, ⟨#[]⟩, kind, into, slot, key, value, 0, 0, 0, 0, 0, 0⟩ ⟨0, 0, ⟨#[]⟩, ⟨#[]⟩, ⟨#[]⟩, ⟨#[]⟩, ⟨#[]⟩, ⟨#[]⟩, 0, 0, 0, 0, 0, 0⟩ = true := hr
        clear hr
        go_wp2_with (go_at_call 86; refine (containsBad_any _ [] _ ⟨_, _, rfl, by simp, .inl rfl⟩ (by simp) (fun s hs => by cases hs)).mono ?_; rintro e w4 ⟨rfl, hb4⟩)
        go_ret
        refine ⟨ret_bool (by rw [hok.out, HR.out]; rfl), ?_⟩
        exact (below6 (below_drewN HB3.out n) (by omega) _ _ _ _ _ _ _ _ _ _ _ _).trans (hb4.mono (by simp; omega))
end Go.Proofs.YtccnocgmikmonaaGreatDoor
namespace Go.Proofs.YtccnocgmikmonaaGreatDoor
open Go Go.RowKit
theorem valid_any (e : Ev) (w : World) (hs : e.short) :
    Calls Tryz.prog 50 #[.agg e.cells] w fun r w' => r = .returned (.bool (evOk e)) ∧ Below w.heap.size w w' := by
  obtain ⟨op, day, part, kind, into, slot, key, value, kl, kh, cl, ch, ll, lh⟩ := e
  obtain ⟨hp, hk, hi, hsl, hke, hv⟩ := hs
  show Calls Tryz.prog 50 #[.agg #[.int .i64 op, .int .i64 day, .string part, .string kind, .string into, .string slot, .string key, .string value, .int .i64 kl, .int .i64 kh, .int .i64 cl, .int .i64 ch, .int .i64 ll, .int .i64 lh]] w _
  have fin : ∀ {b : Bool}, evOk ⟨op, day, part, kind, into, slot, key, value, kl, kh, cl, ch, ll, lh⟩ = b → (∀ r w', (r = Ending.returned (.bool b) ∧ Below w.heap.size w w') → r = .returned (.bool (evOk ⟨op, day, part, kind, into, slot, key, value, kl, kh, cl, ch, ll, lh⟩)) ∧ Below w.heap.size w w') :=
    fun h r w' ⟨h1, h2⟩ => ⟨by rw [h]; exact h1, h2⟩
  by_cases ho : 1 ≤ op ∧ op ≤ 7
  · by_cases hd0 : 0 ≤ day
    · by_cases hd : day ≤ 40000
      · cases hn : nameB part
        · exact (valid_e4 op day part kind into slot key value kl kh cl ch ll lh w ho hd0 hd hp hn).mono (fin (by simp [evOk, ho, hd0, hd, hn]))
        · have hops : op = 3 ∨ op = 5 ∨ op = 7 ∨ op = 1 ∨ op = 2 ∨ op = 6 ∨ op = 4 := by omega
          rcases hops with rfl | rfl | rfl | rfl | rfl | rfl | rfl
          · exact (valid_o3 day part kind into slot key value kl kh cl ch ll lh w hd0 hd hp hn).mono (fin (by simp [evOk, evRest, rest0, hd0, hd, hn]))
          · exact (valid_o5 day part kind into slot key value kl kh cl ch ll lh w hd0 hd hp hn).mono (fin (by simp [evOk, evRest, rest0, hd0, hd, hn]))
          · exact (valid_o7 day part kind into slot key value kl kh cl ch ll lh w hd0 hd hp hn).mono (fin (by simp [evOk, evRest, rest0, hd0, hd, hn]))
          · exact (valid_o1 day part kind into slot key value kl kh cl ch ll lh w hd0 hd hp hn hk).mono (fin (by simp [evOk, evRest, rest1, hd0, hd, hn]))
          · cases hne : into.toList == part.toList
            · exact (valid_o2 day part kind into slot key value kl kh cl ch ll lh w hd0 hd hp hn hne hi hsl).mono (fin (by simp [evOk, evRest, rest2, hd0, hd, hn, hne]))
            · exact (valid_n2 day part kind into slot key value kl kh cl ch ll lh w hd0 hd hp hn hne).mono (fin (by simp [evOk, evRest, hne]))
          · cases hve : value.toList.isEmpty
            · by_cases hv2 : value.size ≤ 200
              · exact (valid_o6 day part kind into slot key value kl kh cl ch ll lh w hd0 hd hp hn hve hv2 hke).mono (fin (by
                  have h3 : ((value.size : Int) ≤ 200) := by omega
                  simp [evOk, evRest, rest6, hd0, hd, hn, hve, h3]))
              · exact (valid_m6 day part kind into slot key value kl kh cl ch ll lh w hd0 hd hp hn hve (by omega)).mono (fin (by
                  have h3 : ¬ ((value.size : Int) ≤ 200) := by omega
                  simp [evOk, evRest, h3]))
            · exact (valid_n6 day part kind into slot key value kl kh cl ch ll lh w hd0 hd hp hn hve).mono (fin (by simp [evOk, evRest, hve]))
          · exact (valid_o4 day part kind into slot key value kl kh cl ch ll lh w hd0 hd hp hn).mono (fin (by simp [evOk, evRest, hd0, hd, hn]))
      · exact (valid_e3 op day part kind into slot key value kl kh cl ch ll lh w ho hd0 (by omega)).mono (fin (by simp [evOk, hd]))
    · exact (valid_e2 op day part kind into slot key value kl kh cl ch ll lh w ho (by omega)).mono (fin (by simp [evOk, hd0]))
  · exact (valid_e1 op day part kind into slot key value kl kh cl ch ll lh w (by omega)).mono (fin (by simp [evOk, ho]))
end Go.Proofs.YtccnocgmikmonaaGreatDoor
namespace Go.Proofs.YtccnocgmikmonaaGreatDoor
open Go Go.RowKit
/-- The boxes that a call of Apply makes. -/
structure ApB (w k : World) (A' : Option Addr) (cl cc : Nat) (A : Option Addr) (ll cs0 : Nat) (E : Array Value) : Prop where
  c : Has k w.heap.size 60 #[.slice A' cl cc]
  s : Has k (w.heap.size + 1) 24 #[.slice A ll cs0]
  e : Has k (w.heap.size + 1 + 1) 51 E
  r : Has k (w.heap.size + 1 + 1 + 1) 24 #[.slice none 0 0]
  b : Below w.heap.size w k
  z : w.heap.size + 1 + 1 + 1 < k.heap.size
section
variable {w k k' : World} {A' : Option Addr} {cl cc : Nat} {A : Option Addr} {ll cs0 : Nat} {E : Array Value}
theorem ApB.below (h : ApB w k A' cl cc A ll cs0 E) (hb : Below k.heap.size k k') : ApB w k' A' cl cc A ll cs0 E :=
  ⟨h.c.below hb (by have := h.z; omega), h.s.below hb (by have := h.z; omega), h.e.below hb (by have := h.z; omega), h.r.below hb h.z, h.b.trans (hb.mono h.b.size), Nat.lt_of_lt_of_le h.z hb.size⟩
theorem ApB.alloc (h : ApB w k A' cl cc A ll cs0 E) (o : Obj) : ApB w (k.alloc o) A' cl cc A ll cs0 E := h.below ((Below.refl _ _).alloc (Nat.le_refl _) o)
theorem ApB.cells (h : ApB w k A' cl cc A ll cs0 E) : (∀ o, k.cell? ⟨w.heap.size, o, none⟩ = (#[.slice A' cl cc] : Array Value)[o]?) ∧ (∀ o, k.cell? ⟨w.heap.size + 1, o, none⟩ = (#[.slice A ll cs0] : Array Value)[o]?) ∧ (∀ o, k.cell? ⟨w.heap.size + 1 + 1, o, none⟩ = E[o]?) ∧ (∀ o, k.cell? ⟨w.heap.size + 1 + 1 + 1, o, none⟩ = (#[.slice none 0 0] : Array Value)[o]?) ∧ (∀ o, k.frozen? ⟨w.heap.size + 1 + 1 + 1, o, none⟩ = false) :=
  ⟨h.c.cell, h.s.cell, h.e.cell, h.r.cell, h.r.free⟩
theorem ApB.new (w : World) (A' : Option Addr) (cl cc : Nat) (A : Option Addr) (ll cs0 : Nat) (E : Array Value) : ApB w ((((w.alloc (.cells #[.slice A' cl cc] 60)).alloc (.cells #[.slice A ll cs0] 24)).alloc (.cells E 51)).alloc (.cells #[.slice none 0 0] 24)) A' cl cc A ll cs0 E := by
  have h1 := Has.new w 60 #[.slice A' cl cc]
  have h2 := Has.new (w.alloc (.cells #[.slice A' cl cc] 60)) 24 #[.slice A ll cs0]
  have h3 := Has.new ((w.alloc (.cells #[.slice A' cl cc] 60)).alloc (.cells #[.slice A ll cs0] 24)) 51 E
  have h4 := Has.new (((w.alloc (.cells #[.slice A' cl cc] 60)).alloc (.cells #[.slice A ll cs0] 24)).alloc (.cells E 51)) 24 #[.slice none 0 0]
  simp only [World.size_alloc] at h2 h3 h4
  exact ⟨((h1.alloc _).alloc _).alloc _, (h2.alloc _).alloc _, h3.alloc _, h4, ((((Below.refl _ _).alloc (Nat.le_refl _) _).alloc (by simp) _).alloc (by simp; omega) _).alloc (by simp; omega) _, by simp⟩
end
theorem evOk_op {e : Ev} (h : evOk e = true) : 1 ≤ e.op ∧ e.op ≤ 7 := by
  unfold evOk at h
  rw [Bool.and_eq_true, decide_eq_true_iff] at h
  exact h.1
theorem validB_sorted {c : List Kd} {l : List Pa} (h : validB c l = true) : sortedB (l.map Pa.name) = true := by
  unfold validB at h
  simp only [Bool.and_eq_true] at h
  exact h.1.2.2
end Go.Proofs.YtccnocgmikmonaaGreatDoor
namespace Go.Proofs.YtccnocgmikmonaaGreatDoor
open Go Go.RowKit
set_option maxRecDepth 100000 in
set_option maxHeartbeats 16000000 in
theorem apply_e1 (w0 : World) (cv sv : Value) (c : List Kd) (l : List Pa) (op day : Int) (part kind into slot key value : ByteArray) (ukl ukh ucl uch ull ulh : Int) (w : World) (hb0 : Below w0.heap.size w0 w) (hcat : Cat w0 cv c) (hcl : c.length ≤ 100000) (hks : ∀ k ∈ c, k.short) (hsta : Sta w0 sv l) (hl : l.length ≤ 99999) (hps : ∀ p ∈ l, p.short) (_hev : Ev.short ⟨op, day, part, kind, into, slot, key, value, ukl, ukh, ucl, uch, ull, ulh⟩) (hvb : validB c l = false) :
    Calls Tryz.prog 27 #[.agg #[cv], .agg #[sv], .agg #[.int .i64 op, .int .i64 day, .string part, .string kind, .string into, .string slot, .string key, .string value, .int .i64 ukl, .int .i64 ukh, .int .i64 ucl, .int .i64 uch, .int .i64 ull, .int .i64 ulh]] w fun r w' => ∃ v', r = .returned (.tuple #[.agg #[v'], .int .i64 (applyL c l ⟨op, day, part, kind, into, slot, key, value, ukl, ukh, ucl, uch, ull, ulh⟩).2]) ∧ Sta w' v' (applyL c l ⟨op, day, part, kind, into, slot, key, value, ukl, ukh, ucl, uch, ull, ulh⟩).1 ∧ Below w.heap.size w w' := by
  obtain ⟨A', cc, rfl, hn⟩ := Rd.form hcat
  obtain ⟨A, cs0, rfl, hn0⟩ := Rd.form hsta
  have HB0 := Lib.hid hb0
  have hsz0 := hb0.size
  have B0 := Lib.hid (ApB.new w A' c.length cc A l.length cs0 #[.int .i64 op, .int .i64 day, .string part, .string kind, .string into, .string slot, .string key, .string value, .int .i64 ukl, .int .i64 ukh, .int .i64 ucl, .int .i64 uch, .int .i64 ull, .int .i64 ulh])
  have HV := Lib.hid hsta
  have HFV := Lib.hid (fun W (h : Below w0.heap.size w0 W) => fvalid_any w0 _ _ c l W h hcat hcl hks hsta (by omega) hps)
  have HF := Lib.hid (fun x W (h : Below w0.heap.size w0 W) => find_any w0 _ c x W h hcat hcl)
  have HTK := Lib.hid (fun x y z W (h : Below w0.heap.size w0 W) => takes_any w0 _ c x y z W h hcat hcl hks)
  have HOF := Lib.hid (fun W (h : Below w0.heap.size w0 W) => of_any w0 _ l W h hsta (by omega))
  have HGT := Lib.hid (fun g x W (h : Below w0.heap.size w0 W) hM => get_any w0 _ l g x W h hsta hM)
  have HPS := Lib.hid hps
  clear hb0 hcat hks hsta hps
  have HVB := Lib.hid hvb
  clear hvb
  go_enter Tryz.func27, Tryz.ntmps27
  go_wp2_with (go_at_call 28; refine (HFV.out _ (HB0.out.trans (B0.out.b.mono hsz0))).mono ?_; rintro e w1 ⟨rfl, hb1⟩; rw [HVB.out]; have B1 := Lib.hid (B0.out.below hb1); obtain ⟨f1, f2, f3, f4, f5⟩ := B1.out.cells; clear hb1)
  refine bodyPost_ret (v := .tuple #[.agg #[.slice none 0 0], .int .i64 1]) (by simp [results, Tryz.results27, go_sem, f4]) rfl ?_
  have hres : applyL c l ⟨op, day, part, kind, into, slot, key, value, ukl, ukh, ucl, uch, ull, ulh⟩ = ([], 1) := by unfold applyL; rw [HVB.out]; rfl
  rw [hres]
  have hB := B1.out.b
  have hz := B1.out.z
  exact ⟨_, rfl, Rd.nil _ _, by go_grown⟩
set_option maxRecDepth 100000 in
set_option maxHeartbeats 16000000 in
theorem apply_e2 (w0 : World) (cv sv : Value) (c : List Kd) (l : List Pa) (op day : Int) (part kind into slot key value : ByteArray) (ukl ukh ucl uch ull ulh : Int) (w : World) (hb0 : Below w0.heap.size w0 w) (hcat : Cat w0 cv c) (hcl : c.length ≤ 100000) (hks : ∀ k ∈ c, k.short) (hsta : Sta w0 sv l) (hl : l.length ≤ 99999) (hps : ∀ p ∈ l, p.short) (hev : Ev.short ⟨op, day, part, kind, into, slot, key, value, ukl, ukh, ucl, uch, ull, ulh⟩) (hvb : validB c l = true) (hok : evOk ⟨op, day, part, kind, into, slot, key, value, ukl, ukh, ucl, uch, ull, ulh⟩ = false) :
    Calls Tryz.prog 27 #[.agg #[cv], .agg #[sv], .agg #[.int .i64 op, .int .i64 day, .string part, .string kind, .string into, .string slot, .string key, .string value, .int .i64 ukl, .int .i64 ukh, .int .i64 ucl, .int .i64 uch, .int .i64 ull, .int .i64 ulh]] w fun r w' => ∃ v', r = .returned (.tuple #[.agg #[v'], .int .i64 (applyL c l ⟨op, day, part, kind, into, slot, key, value, ukl, ukh, ucl, uch, ull, ulh⟩).2]) ∧ Sta w' v' (applyL c l ⟨op, day, part, kind, into, slot, key, value, ukl, ukh, ucl, uch, ull, ulh⟩).1 ∧ Below w.heap.size w w' := by
  obtain ⟨A', cc, rfl, hn⟩ := Rd.form hcat
  obtain ⟨A, cs0, rfl, hn0⟩ := Rd.form hsta
  have HB0 := Lib.hid hb0
  have hsz0 := hb0.size
  have B0 := Lib.hid (ApB.new w A' c.length cc A l.length cs0 #[.int .i64 op, .int .i64 day, .string part, .string kind, .string into, .string slot, .string key, .string value, .int .i64 ukl, .int .i64 ukh, .int .i64 ucl, .int .i64 uch, .int .i64 ull, .int .i64 ulh])
  have HV := Lib.hid hsta
  have HFV := Lib.hid (fun W (h : Below w0.heap.size w0 W) => fvalid_any w0 _ _ c l W h hcat hcl hks hsta (by omega) hps)
  have HF := Lib.hid (fun x W (h : Below w0.heap.size w0 W) => find_any w0 _ c x W h hcat hcl)
  have HTK := Lib.hid (fun x y z W (h : Below w0.heap.size w0 W) => takes_any w0 _ c x y z W h hcat hcl hks)
  have HOF := Lib.hid (fun W (h : Below w0.heap.size w0 W) => of_any w0 _ l W h hsta (by omega))
  have HGT := Lib.hid (fun g x W (h : Below w0.heap.size w0 W) hM => get_any w0 _ l g x W h hsta hM)
  have HPS := Lib.hid hps
  clear hb0 hcat hks hsta hps
  have HVB := Lib.hid hvb
  have HOK := Lib.hid hok
  clear hvb hok
  go_enter Tryz.func27, Tryz.ntmps27
  go_wp2_with (first | (go_at_call 28; refine (HFV.out _ (HB0.out.trans (B0.out.b.mono hsz0))).mono ?_; rintro e w1 ⟨rfl, hb1⟩; rw [HVB.out]; have B1 := Lib.hid (B0.out.below hb1); obtain ⟨f1, f2, f3, f4, f5⟩ := B1.out.cells; clear hb1) | (go_at_call 50; refine (valid_any ⟨_, day, part, kind, into, slot, key, value, ukl, ukh, ucl, uch, ull, ulh⟩ _ hev).mono ?_; rintro e w2 ⟨rfl, hb2⟩; rw [HOK.out]; have B2 := Lib.hid (B1.out.below hb2); obtain ⟨g1, g2, g3, g4, g5⟩ := B2.out.cells; clear hb2))
  refine bodyPost_ret (v := .tuple #[.agg #[.slice none 0 0], .int .i64 1]) (by simp [results, Tryz.results27, go_sem, g4]) rfl ?_
  have hres : applyL c l ⟨op, day, part, kind, into, slot, key, value, ukl, ukh, ucl, uch, ull, ulh⟩ = ([], 1) := by unfold applyL; rw [HVB.out, HOK.out]; rfl
  rw [hres]
  have hB := B2.out.b
  have hz := B2.out.z
  exact ⟨_, rfl, Rd.nil _ _, by go_grown⟩
end Go.Proofs.YtccnocgmikmonaaGreatDoor
