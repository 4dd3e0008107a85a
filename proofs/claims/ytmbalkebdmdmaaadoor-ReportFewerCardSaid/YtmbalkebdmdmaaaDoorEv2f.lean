/- event.Valid: OpRun. -/
import Derived.Test.YtmbalkebdmdmaaaDoorEv2
import Derived.Deep.QuietTactic
import Derived.BigQuiet
namespace Go.Proofs.YtmbalkebdmdmaaaDoor
open Go Go.RowKit
theorem idx3_0 (a b c : Value) (w : World) : (Instr.index 65 (.agg #[a, b, c]) (.int .i64 0)).run Tryd.prog w = .ok a w := by kernel_rfl
theorem idx3_1 (a b c : Value) (w : World) : (Instr.index 65 (.agg #[a, b, c]) (.int .i64 1)).run Tryd.prog w = .ok b w := by kernel_rfl
theorem idx3_2 (a b c : Value) (w : World) : (Instr.index 65 (.agg #[a, b, c]) (.int .i64 2)).run Tryd.prog w = .ok c w := by kernel_rfl
attribute [go_sem] idx3_0 idx3_1 idx3_2
theorem below6 {B : Nat} {w W : World} {g : Nat} (h : Below B w W) (hg : B ≤ g) (a0 a1 a2 a3 a4 a5 : Nat) (v0 v1 v2 v3 v4 v5 : Value) :
    Below B w ((((((W.setCell ⟨g, a0, none⟩ v0).setCell ⟨g, a1, none⟩ v1).setCell ⟨g, a2, none⟩ v2).setCell ⟨g, a3, none⟩ v3).setCell ⟨g, a4, none⟩ v4).setCell ⟨g, a5, none⟩ v5) :=
  (((((h.setCell hg v0).setCell hg v1).setCell hg v2).setCell hg v3).setCell hg v4).setCell hg v5
def ivOk (l h : Int) : Prop := 0 ≤ l ∧ l ≤ h ∧ h ≤ 1000000
def useTo (k : Nat) (kl kh cl ch ll lh : Int) : Prop := (1 ≤ k → ivOk kl kh) ∧ (2 ≤ k → ivOk cl ch) ∧ (3 ≤ k → ivOk ll lh)
theorem useOk_no {e : Ev} (h : ¬ ivOk e.kl e.kh ∨ ¬ ivOk e.cl e.ch ∨ ¬ ivOk e.ll e.lh) : useOk e = false := by
  unfold ivOk at h
  exact decide_eq_false (by omega)
theorem useOk_n1 {day : Int} {part kind into slot key value : ByteArray} {kl kh cl ch ll lh : Int} (h : ¬ ivOk kl kh) : useOk ⟨4, day, part, kind, into, slot, key, value, kl, kh, cl, ch, ll, lh⟩ = false := useOk_no (.inl h)
theorem useOk_n2 {day : Int} {part kind into slot key value : ByteArray} {kl kh cl ch ll lh : Int} (h : ¬ ivOk cl ch) : useOk ⟨4, day, part, kind, into, slot, key, value, kl, kh, cl, ch, ll, lh⟩ = false := useOk_no (.inr (.inl h))
theorem useOk_n3 {day : Int} {part kind into slot key value : ByteArray} {kl kh cl ch ll lh : Int} (h : ¬ ivOk ll lh) : useOk ⟨4, day, part, kind, into, slot, key, value, kl, kh, cl, ch, ll, lh⟩ = false := useOk_no (.inr (.inr h))
theorem useOk_yes {e : Ev} (h : useTo 3 e.kl e.kh e.cl e.ch e.ll e.lh) : useOk e = true := by
  obtain ⟨h1, h2, h3⟩ := h
  have := h1 (by omega); have := h2 (by omega); have := h3 (by omega)
  unfold ivOk at *
  exact decide_eq_true (by omega)
set_option maxRecDepth 100000 in
set_option maxHeartbeats 4000000 in
theorem valid_o4 (day : Int) (part kind into slot key value : ByteArray) (kl kh cl ch ll lh : Int) (w : World) (hd0 : 0 ≤ day) (hd : day ≤ 40000) (hp : part.size ≤ maxLen) (hn : nameB part = true) :
    Calls Tryd.prog 17 #[.agg #[.int .i64 4, .int .i64 day, .string part, .string kind, .string into, .string slot, .string key, .string value, .int .i64 kl, .int .i64 kh, .int .i64 cl, .int .i64 ch, .int .i64 ll, .int .i64 lh]] w fun e w' =>
      e = .returned (.bool (useOk ⟨4, day, part, kind, into, slot, key, value, kl, kh, cl, ch, ll, lh⟩ && rest4 ⟨4, day, part, kind, into, slot, key, value, kl, kh, cl, ch, ll, lh⟩)) ∧ Below w.heap.size w w' := by
  have HN := Lib.hid hn
  clear hn
  have hW : wordS 4 = ⟨#[114, 117, 110]⟩ := rfl
  go_enter Tryd.func17, Tryd.ntmps17
  go_wp2_with (first | (go_at_call 27; refine (word_any _ _).mono ?_; rintro e w1 ⟨rfl, hb1⟩; obtain ⟨hE1, hB1, hz1⟩ := boxed hb1; obtain ⟨hc1, hf1⟩ := hE1.facts; have HE1 := Lib.hid hE1; have HB1 := Lib.hid hB1; clear hb1 hE1 hB1) | (go_at_call 28; refine (name_any _ _ hp).mono ?_; rintro e w2 ⟨rfl, hb2⟩; rw [HN.out]; obtain ⟨hE2, hB2, hz2⟩ := HE1.out.next HB1.out hz1 hb2 (by omega); obtain ⟨hc2, hf2⟩ := hE2.facts; have HE2 := Lib.hid hE2; have HB2 := Lib.hid hB2; clear hb2 hE2 hB2 hc1 hf1 hz1) | (go_at_call 29; refine (intervals_any _ _ _).mono ?_; rintro e w3 ⟨rfl, hb3⟩))
  have hz3 : w2.heap.size + 2 ≤ w3.heap.size := by have := hb3.size; simp at this; omega
  have hE3 : Has w3 w.heap.size 39 #[.int .i64 4, .int .i64 day, .string part, .string kind, .string into, .string slot, .string key, .string value, .int .i64 kl, .int .i64 kh, .int .i64 cl, .int .i64 ch, .int .i64 ll, .int .i64 lh] := ((HE2.out.alloc _).alloc _).below hb3 (by simp; omega)
  have hR3 : Has w3 (w2.heap.size + 1) 39 #[.int .i64 0, .int .i64 0, .string ⟨#[]⟩, .string kind, .string into, .string slot, .string key, .string value, .int .i64 kl, .int .i64 kh, .int .i64 cl, .int .i64 ch, .int .i64 ll, .int .i64 lh] := by
    have h := Has.new (w2.alloc (.cells #[] 9)) 39 #[.int .i64 0, .int .i64 0, .string ⟨#[]⟩, .string kind, .string into, .string slot, .string key, .string value, .int .i64 kl, .int .i64 kh, .int .i64 cl, .int .i64 ch, .int .i64 ll, .int .i64 lh]
    have e : (w2.alloc (.cells #[] 9)).heap.size = w2.heap.size + 1 := by simp
    rw [e] at h
    exact h.below hb3 (by simp)
  have hB3 : Below w.heap.size w w3 := ((HB2.out.alloc (by omega) _).alloc (by simp; omega) _).trans (hb3.mono (by simp; omega))
  clear hb3 hc2 hf2
  obtain ⟨hc3, hf3⟩ := hE3.facts
  obtain ⟨hr3, hg3⟩ := hR3.facts
  have HE3 := Lib.hid hE3
  have HR3 := Lib.hid hR3
  have HB3 := Lib.hid hB3
  clear hE3 hR3 hB3
  have hne : ¬ w.heap.size = w2.heap.size + 1 := by omega
  go_loopw [74] (fun i wr => ∃ k : Nat, k ≤ 3 ∧ i = .int .i64 k ∧ Hid (useTo k kl kh cl ch ll lh) ∧ ∃ n, wr = w3.drewN n) (fun i _ => 3 - (intOf i).toNat)
  case atStart => exact ⟨0, by omega, rfl, ⟨fun h => absurd h (by omega), fun h => absurd h (by omega), fun h => absurd h (by omega)⟩, 0, rfl⟩
  case round =>
    obtain ⟨k, hk, rfl, hrel, n, rfl⟩ := hrel
    by_cases hlt : k < 3
    · have hks : k = 0 ∨ k = 1 ∨ k = 2 := by omega
      clear hk hlt
      rcases hks with rfl | rfl | rfl
      · by_cases h1 : kl < 0
        · have hno := Lib.hid (useOk_n1 (day := day) (part := part) (kind := kind) (into := into) (slot := slot) (key := key) (value := value) (kl := kl) (kh := kh) (cl := cl) (ch := ch) (ll := ll) (lh := lh) (fun h => by unfold ivOk at h; omega))
          have d1 : decide (kl < 0) = true := decide_eq_true h1
          go_wp2_with fail
          go_quiet (fail)
          go_wp2
          go_ret
          exact ⟨ret_bool (by rw [hno.out]; rfl), below_drewN (below_drewN HB3.out _) _⟩
        · have d1 : decide (kl < 0) = false := decide_eq_false h1
          by_cases h2 : kh < kl
          · have hno := Lib.hid (useOk_n1 (day := day) (part := part) (kind := kind) (into := into) (slot := slot) (key := key) (value := value) (kl := kl) (kh := kh) (cl := cl) (ch := ch) (ll := ll) (lh := lh) (fun h => by unfold ivOk at h; omega))
            have d2 : decide (kh < kl) = true := decide_eq_true h2
            go_wp2_with fail
            go_quiet (fail)
            go_wp2
            go_ret
            exact ⟨ret_bool (by rw [hno.out]; rfl), below_drewN (below_drewN HB3.out _) _⟩
          · have d2 : decide (kh < kl) = false := decide_eq_false h2
            by_cases h3 : 1000000 < kh
            · have hno := Lib.hid (useOk_n1 (day := day) (part := part) (kind := kind) (into := into) (slot := slot) (key := key) (value := value) (kl := kl) (kh := kh) (cl := cl) (ch := ch) (ll := ll) (lh := lh) (fun h => by unfold ivOk at h; omega))
              have d3 : decide (1000000 < kh) = true := decide_eq_true h3
              go_wp2_with fail
              go_quiet (fail)
              go_wp2
              go_ret
              exact ⟨ret_bool (by rw [hno.out]; rfl), below_drewN (below_drewN HB3.out _) _⟩
            · have d3 : decide (1000000 < kh) = false := decide_eq_false h3
              have hok : ivOk kl kh := ⟨by omega, by omega, by omega⟩
              have HOK := Lib.hid hok
              clear hok
              go_wp2_with fail
              go_quiet (fail)
              go_wp2
              go_roundw
              case rel => exact ⟨1, by omega, rfl, ⟨fun _ => HOK.out, fun h => absurd h (by omega), fun h => absurd h (by omega)⟩, _, rfl⟩
              case measure => simp [intOf]
      · by_cases h1 : cl < 0
        · have hno := Lib.hid (useOk_n2 (day := day) (part := part) (kind := kind) (into := into) (slot := slot) (key := key) (value := value) (kl := kl) (kh := kh) (cl := cl) (ch := ch) (ll := ll) (lh := lh) (fun h => by unfold ivOk at h; omega))
          have d1 : decide (cl < 0) = true := decide_eq_true h1
          go_wp2_with fail
          go_quiet (fail)
          go_wp2
          go_ret
          exact ⟨ret_bool (by rw [hno.out]; rfl), below_drewN (below_drewN HB3.out _) _⟩
        · have d1 : decide (cl < 0) = false := decide_eq_false h1
          by_cases h2 : ch < cl
          · have hno := Lib.hid (useOk_n2 (day := day) (part := part) (kind := kind) (into := into) (slot := slot) (key := key) (value := value) (kl := kl) (kh := kh) (cl := cl) (ch := ch) (ll := ll) (lh := lh) (fun h => by unfold ivOk at h; omega))
            have d2 : decide (ch < cl) = true := decide_eq_true h2
            go_wp2_with fail
            go_quiet (fail)
            go_wp2
            go_ret
            exact ⟨ret_bool (by rw [hno.out]; rfl), below_drewN (below_drewN HB3.out _) _⟩
          · have d2 : decide (ch < cl) = false := decide_eq_false h2
            by_cases h3 : 1000000 < ch
            · have hno := Lib.hid (useOk_n2 (day := day) (part := part) (kind := kind) (into := into) (slot := slot) (key := key) (value := value) (kl := kl) (kh := kh) (cl := cl) (ch := ch) (ll := ll) (lh := lh) (fun h => by unfold ivOk at h; omega))
              have d3 : decide (1000000 < ch) = true := decide_eq_true h3
              go_wp2_with fail
              go_quiet (fail)
              go_wp2
              go_ret
              exact ⟨ret_bool (by rw [hno.out]; rfl), below_drewN (below_drewN HB3.out _) _⟩
            · have d3 : decide (1000000 < ch) = false := decide_eq_false h3
              have hok : ivOk cl ch := ⟨by omega, by omega, by omega⟩
              have HOK := Lib.hid hok
              clear hok
              go_wp2_with fail
              go_quiet (fail)
              go_wp2
              go_roundw
              case rel => exact ⟨2, by omega, rfl, ⟨fun _ => hrel.out.1 (by omega), fun _ => HOK.out, fun h => absurd h (by omega)⟩, _, rfl⟩
              case measure => simp [intOf]
      · by_cases h1 : ll < 0
        · have hno := Lib.hid (useOk_n3 (day := day) (part := part) (kind := kind) (into := into) (slot := slot) (key := key) (value := value) (kl := kl) (kh := kh) (cl := cl) (ch := ch) (ll := ll) (lh := lh) (fun h => by unfold ivOk at h; omega))
          have d1 : decide (ll < 0) = true := decide_eq_true h1
          go_wp2_with fail
          go_quiet (fail)
          go_wp2
          go_ret
          exact ⟨ret_bool (by rw [hno.out]; rfl), below_drewN (below_drewN HB3.out _) _⟩
        · have d1 : decide (ll < 0) = false := decide_eq_false h1
          by_cases h2 : lh < ll
          · have hno := Lib.hid (useOk_n3 (day := day) (part := part) (kind := kind) (into := into) (slot := slot) (key := key) (value := value) (kl := kl) (kh := kh) (cl := cl) (ch := ch) (ll := ll) (lh := lh) (fun h => by unfold ivOk at h; omega))
            have d2 : decide (lh < ll) = true := decide_eq_true h2
            go_wp2_with fail
            go_quiet (fail)
            go_wp2
            go_ret
            exact ⟨ret_bool (by rw [hno.out]; rfl), below_drewN (below_drewN HB3.out _) _⟩
          · have d2 : decide (lh < ll) = false := decide_eq_false h2
            by_cases h3 : 1000000 < lh
            · have hno := Lib.hid (useOk_n3 (day := day) (part := part) (kind := kind) (into := into) (slot := slot) (key := key) (value := value) (kl := kl) (kh := kh) (cl := cl) (ch := ch) (ll := ll) (lh := lh) (fun h => by unfold ivOk at h; omega))
              have d3 : decide (1000000 < lh) = true := decide_eq_true h3
              go_wp2_with fail
              go_quiet (fail)
              go_wp2
              go_ret
              exact ⟨ret_bool (by rw [hno.out]; rfl), below_drewN (below_drewN HB3.out _) _⟩
            · have d3 : decide (1000000 < lh) = false := decide_eq_false h3
              have hok : ivOk ll lh := ⟨by omega, by omega, by omega⟩
              have HOK := Lib.hid hok
              clear hok
              go_wp2_with fail
              go_quiet (fail)
              go_wp2
              go_roundw
              case rel => exact ⟨3, by omega, rfl, ⟨fun _ => hrel.out.1 (by omega), fun _ => hrel.out.2.1 (by omega), fun _ => HOK.out⟩, _, rfl⟩
              case measure => simp [intOf]
    · obtain rfl : k = 3 := by omega
      have hok := Lib.hid (useOk_yes (e := ⟨4, day, part, kind, into, slot, key, value, kl, kh, cl, ch, ll, lh⟩) hrel.out)
      cases hr : rest4 ⟨4, day, part, kind, into, slot, key, value, kl, kh, cl, ch, ll, lh⟩
      · have HR := Lib.hid hr
        have hr' : evEq ⟨0, 0, ⟨#[]⟩, kind, into, slot, key, value, 0, 0, 0, 0, 0, 0⟩ ⟨0, 0, ⟨#[]⟩, ⟨#[]⟩, ⟨#[]⟩, ⟨#[]⟩, ⟨#[]⟩, ⟨#[]⟩, 0, 0, 0, 0, 0, 0⟩ = false := hr
        clear hr
        go_wp2_with fail
        go_ret
        exact ⟨ret_bool (by rw [hok.out, HR.out]; rfl), below6 (below_drewN HB3.out n) (by omega) _ _ _ _ _ _ _ _ _ _ _ _⟩
      · have HR := Lib.hid hr
        have hr' : evEq ⟨0, 0, ⟨#[]⟩, kind, into, slot, key, value, 0, 0, 0, 0, 0, 0⟩ ⟨0, 0, ⟨#[]⟩, ⟨#[]⟩, ⟨#[]⟩, ⟨#[]⟩, ⟨#[]⟩, ⟨#[]⟩, 0, 0, 0, 0, 0, 0⟩ = true := hr
        clear hr
        go_wp2_with (go_at_call 30; refine (containsBad_any _ [] _ ⟨_, _, rfl, by simp, .inl rfl⟩ (by simp) (fun s hs => by cases hs)).mono ?_; rintro e w4 ⟨rfl, hb4⟩)
        go_ret
        refine ⟨ret_bool (by rw [hok.out, HR.out]; rfl), ?_⟩
        exact (below6 (below_drewN HB3.out n) (by omega) _ _ _ _ _ _ _ _ _ _ _ _).trans (hb4.mono (by simp; omega))
end Go.Proofs.YtmbalkebdmdmaaaDoor
