/- event.Valid: OpRun. event.Valid at every event: what it returns. No condition but that its strings are strings that lie in memory. append onto a row of the call's own, whatever the source; also in a guarded operation. What such rows read as. No condition. append in a region that draws its order: onto an empty literal, and onto what that gives. No condition. strings.Builder at this program: WriteString (and copyCheck, whose panic the translation leaves out). No condition but that the bytes fit a machine. The tokens of a text, in plain words. No condition. The tokens of words with single spaces between them: plain laws. No condition. The text of an event, and the event of a text, in plain words. No condition. Maps that a call makes: what a look-up and a store do, over whatever keys can be told apart. No condition. Events as keys of a map. report.Valid. report.Choices; the sizes that the statements ask. The sizes that the statements ask: bogieref09.Few, bogieref13.Few, few. -/
import Derived.BigFrame
import Derived.BigQuiet
import Derived.Deep.QuietTactic
import Derived.Laws.AppendOwn
import Derived.Laws.AppendOwnNone
import Derived.Lib.AppendStr
import Derived.Lib.AtoiAll
import Derived.Lib.Builder
import Derived.Lib.ItoaNum
import Derived.Lib.Join
import Derived.WideKeyRuns
import Derived.Test.YtjlpllnhefafkaaGreatDoorU01
import Derived.Test.YtjlpllnhefafkaaGreatDoorU02
import Derived.Test.YtjlpllnhefafkaaGreatDoorU03
import Derived.Test.YtjlpllnhefafkaaGreatDoorU04
import Derived.Test.YtjlpllnhefafkaaGreatDoorU05
import Derived.Test.YtjlpllnhefafkaaGreatDoorU06
namespace Go.Proofs.YtjlpllnhefafkaaGreatDoor
open Go Go.RowKit
theorem idx3_0 (a b c : Value) (w : World) : (Instr.index 73 (.agg #[a, b, c]) (.int .i64 0)).run Tryz.prog w = .ok a w := by kernel_rfl
theorem idx3_1 (a b c : Value) (w : World) : (Instr.index 73 (.agg #[a, b, c]) (.int .i64 1)).run Tryz.prog w = .ok b w := by kernel_rfl
theorem idx3_2 (a b c : Value) (w : World) : (Instr.index 73 (.agg #[a, b, c]) (.int .i64 2)).run Tryz.prog w = .ok c w := by kernel_rfl
attribute [go_sem] idx3_0 idx3_1 idx3_2
theorem below6 {B : Nat} {w W : World} {g : Nat} (h : Below B w W) (hg : B ≤ g) (a0 a1 a2 a3 a4 a5 : Nat) (v0 v1 v2 v3 v4 v5 : Value) :
    Below B w ((((((W.setCell ⟨g, a0, none⟩ v0).setCell ⟨g, a1, none⟩ v1).setCell ⟨g, a2, none⟩ v2).setCell ⟨g, a3, none⟩ v3).setCell ⟨g, a4, none⟩ v4).setCell ⟨g, a5, none⟩ v5) :=
  (((((h.setCell hg v0).setCell hg v1).setCell hg v2).setCell hg v3).setCell hg v4).setCell hg v5
def ivOk (l h : Int) : Prop := 0 ≤ l ∧ l ≤ h ∧ h ≤ 1000000
def useTo (k : Nat) (kl kh cl ch ll lh : Int) : Prop := (1 ≤ k → ivOk kl kh) ∧ (2 ≤ k → ivOk cl ch) ∧ (3 ≤ k → ivOk ll lh)
theorem useOk_no {e : Ev} (h : ¬ ivOk e.kl e.kh ∨ ¬ ivOk e.cl e.ch ∨ ¬ ivOk e.ll e.lh) : useOk e = false := by
  unfold ivOk at h
  exact decide_eq_false (by omega)
theorem useOk_n1 {day : Int} {part kind into slot key value : ByteArray} {kl kh cl ch ll lh : Int} (h : ¬ ivOk kl kh) : useOk ⟨4, day, part, kind, into, slot, key, value, kl, kh, cl, ch, ll, lh⟩ = false := useOk_no (.inl h)
theorem useOk_n2 {day : Int} {part kind into slot key value : ByteArray} {kl kh cl ch ll lh : Int} (h : ¬ ivOk cl ch) : useOk ⟨4, day, part, kind, into, slot, key, value, kl, kh, cl, ch, ll, lh⟩ = false := useOk_no (.inr (.inl h))
theorem useOk_n3 {day : Int} {part kind into slot key value : ByteArray} {kl kh cl ch ll lh : Int} (h : ¬ ivOk ll lh) : useOk ⟨4, day, part, kind, into, slot, key, value, kl, kh, cl, ch, ll, lh⟩ = false := useOk_no (.inr (.inr h))
theorem useOk_yes {e : Ev} (h : useTo 3 e.kl e.kh e.cl e.ch e.ll e.lh) : useOk e = true := by
  obtain ⟨h1, h2, h3⟩ := h
  have := h1 (by omega); have := h2 (by omega); have := h3 (by omega)
  unfold ivOk at *
  exact decide_eq_true (by omega)
set_option maxRecDepth 100000 in
set_option maxHeartbeats 4000000 in
theorem valid_o4 (day : Int) (part kind into slot key value : ByteArray) (kl kh cl ch ll lh : Int) (w : World) (hd0 : 0 ≤ day) (hd : day ≤ 40000) (hp : part.size ≤ maxLen) (hn : nameB part = true) :
    Calls Tryz.prog 29 #[.agg #[.int .i64 4, .int .i64 day, .string part, .string kind, .string into, .string slot, .string key, .string value, .int .i64 kl, .int .i64 kh, .int .i64 cl, .int .i64 ch, .int .i64 ll, .int .i64 lh]] w fun e w' =>
      e = .returned (.bool (useOk ⟨4, day, part, kind, into, slot, key, value, kl, kh, cl, ch, ll, lh⟩ && rest4 ⟨4, day, part, kind, into, slot, key, value, kl, kh, cl, ch, ll, lh⟩)) ∧ Below w.heap.size w w' := by
  have HN := Lib.hid hn
  clear hn
  have hW : wordS 4 = ⟨#[114, 117, 110]⟩ := rfl
  go_enter Tryz.func29, Tryz.ntmps29
  go_wp2_with (first | (go_at_call 43; refine (word_any _ _).mono ?_; rintro e w1 ⟨rfl, hb1⟩; obtain ⟨hE1, hB1, hz1⟩ := boxed hb1; obtain ⟨hc1, hf1⟩ := hE1.facts; have HE1 := Lib.hid hE1; have HB1 := Lib.hid hB1; clear hb1 hE1 hB1) | (go_at_call 53; refine (name_any _ _ hp).mono ?_; rintro e w2 ⟨rfl, hb2⟩; rw [HN.out]; obtain ⟨hE2, hB2, hz2⟩ := HE1.out.next HB1.out hz1 hb2 (by omega); obtain ⟨hc2, hf2⟩ := hE2.facts; have HE2 := Lib.hid hE2; have HB2 := Lib.hid hB2; clear hb2 hE2 hB2 hc1 hf1 hz1) | (go_at_call 45; refine (intervals_any _ _ _).mono ?_; rintro e w3 ⟨rfl, hb3⟩))
  have hz3 : w2.heap.size + 2 ≤ w3.heap.size := by have := hb3.size; simp at this; omega
  have hE3 : Has w3 w.heap.size 49 #[.int .i64 4, .int .i64 day, .string part, .string kind, .string into, .string slot, .string key, .string value, .int .i64 kl, .int .i64 kh, .int .i64 cl, .int .i64 ch, .int .i64 ll, .int .i64 lh] := ((HE2.out.alloc _).alloc _).below hb3 (by simp; omega)
  have hR3 : Has w3 (w2.heap.size + 1) 49 #[.int .i64 0, .int .i64 0, .string ⟨#[]⟩, .string kind, .string into, .string slot, .string key, .string value, .int .i64 kl, .int .i64 kh, .int .i64 cl, .int .i64 ch, .int .i64 ll, .int .i64 lh] := by
    have h := Has.new (w2.alloc (.cells #[] 9)) 49 #[.int .i64 0, .int .i64 0, .string ⟨#[]⟩, .string kind, .string into, .string slot, .string key, .string value, .int .i64 kl, .int .i64 kh, .int .i64 cl, .int .i64 ch, .int .i64 ll, .int .i64 lh]
    have e : (w2.alloc (.cells #[] 9)).heap.size = w2.heap.size + 1 := by simp
    rw [e] at h
    exact h.below hb3 (by simp)
  have hB3 : Below w.heap.size w w3 := ((HB2.out.alloc (by omega) _).alloc (by simp; omega) _).trans (hb3.mono (by simp; omega))
  clear hb3 hc2 hf2
  obtain ⟨hc3, hf3⟩ := hE3.facts
  obtain ⟨hr3, hg3⟩ := hR3.facts
  have HE3 := Lib.hid hE3
  have HR3 := Lib.hid hR3
  have HB3 := Lib.hid hB3
  clear hE3 hR3 hB3
  have hne : ¬ w.heap.size = w2.heap.size + 1 := by omega
  go_loopw [74] (fun i wr => ∃ k : Nat, k ≤ 3 ∧ i = .int .i64 k ∧ Hid (useTo k kl kh cl ch ll lh) ∧ ∃ n, wr = w3.drewN n) (fun i _ => 3 - (intOf i).toNat)
  case atStart => exact ⟨0, by omega, rfl, ⟨fun h => absurd h (by omega), fun h => absurd h (by omega), fun h => absurd h (by omega)⟩, 0, rfl⟩
  case round =>
    obtain ⟨k, hk, rfl, hrel, n, rfl⟩ := hrel
    by_cases hlt : k < 3
    · have hks : k = 0 ∨ k = 1 ∨ k = 2 := by omega
      clear hk hlt
      rcases hks with rfl | rfl | rfl
      · by_cases h1 : kl < 0
        · have hno := Lib.hid (useOk_n1 (day := day) (part := part) (kind := kind) (into := into) (slot := slot) (key := key) (value := value) (kl := kl) (kh := kh) (cl := cl) (ch := ch) (ll := ll) (lh := lh) (fun h => by unfold ivOk at h; omega))
          have d1 : decide (kl < 0) = true := decide_eq_true h1
          go_wp2_with fail
          go_quiet (fail)
          go_wp2
          go_ret
          exact ⟨ret_bool (by rw [hno.out]; rfl), below_drewN (below_drewN HB3.out _) _⟩
        · have d1 : decide (kl < 0) = false := decide_eq_false h1
          by_cases h2 : kh < kl
          · have hno := Lib.hid (useOk_n1 (day := day) (part := part) (kind := kind) (into := into) (slot := slot) (key := key) (value := value) (kl := kl) (kh := kh) (cl := cl) (ch := ch) (ll := ll) (lh := lh) (fun h => by unfold ivOk at h; omega))
            have d2 : decide (kh < kl) = true := decide_eq_true h2
            go_wp2_with fail
            go_quiet (fail)
            go_wp2
            go_ret
            exact ⟨ret_bool (by rw [hno.out]; rfl), below_drewN (below_drewN HB3.out _) _⟩
          · have d2 : decide (kh < kl) = false := decide_eq_false h2
            by_cases h3 : 1000000 < kh
            · have hno := Lib.hid (useOk_n1 (day := day) (part := part) (kind := kind) (into := into) (slot := slot) (key := key) (value := value) (kl := kl) (kh := kh) (cl := cl) (ch := ch) (ll := ll) (lh := lh) (fun h => by unfold ivOk at h; omega))
              have d3 : decide (1000000 < kh) = true := decide_eq_true h3
              go_wp2_with fail
              go_quiet (fail)
              go_wp2
              go_ret
              exact ⟨ret_bool (by rw [hno.out]; rfl), below_drewN (below_drewN HB3.out _) _⟩
            · have d3 : decide (1000000 < kh) = false := decide_eq_false h3
              have hok : ivOk kl kh := ⟨by omega, by omega, by omega⟩
              have HOK := Lib.hid hok
              clear hok
              go_wp2_with fail
              go_quiet (fail)
              go_wp2
              go_roundw
              case rel => exact ⟨1, by omega, rfl, ⟨fun _ => HOK.out, fun h => absurd h (by omega), fun h => absurd h (by omega)⟩, _, rfl⟩
              case measure => simp [intOf]
      · by_cases h1 : cl < 0
        · have hno := Lib.hid (useOk_n2 (day := day) (part := part) (kind := kind) (into := into) (slot := slot) (key := key) (value := value) (kl := kl) (kh := kh) (cl := cl) (ch := ch) (ll := ll) (lh := lh) (fun h => by unfold ivOk at h; omega))
          have d1 : decide (cl < 0) = true := decide_eq_true h1
          go_wp2_with fail
          go_quiet (fail)
          go_wp2
          go_ret
          exact ⟨ret_bool (by rw [hno.out]; rfl), below_drewN (below_drewN HB3.out _) _⟩
        · have d1 : decide (cl < 0) = false := decide_eq_false h1
          by_cases h2 : ch < cl
          · have hno := Lib.hid (useOk_n2 (day := day) (part := part) (kind := kind) (into := into) (slot := slot) (key := key) (value := value) (kl := kl) (kh := kh) (cl := cl) (ch := ch) (ll := ll) (lh := lh) (fun h => by unfold ivOk at h; omega))
            have d2 : decide (ch < cl) = true := decide_eq_true h2
            go_wp2_with fail
            go_quiet (fail)
            go_wp2
            go_ret
            exact ⟨ret_bool (by rw [hno.out]; rfl), below_drewN (below_drewN HB3.out _) _⟩
          · have d2 : decide (ch < cl) = false := decide_eq_false h2
            by_cases h3 : 1000000 < ch
            · have hno := Lib.hid (useOk_n2 (day := day) (part := part) (kind := kind) (into := into) (slot := slot) (key := key) (value := value) (kl := kl) (kh := kh) (cl := cl) (ch := ch) (ll := ll) (lh := lh) (fun h => by unfold ivOk at h; omega))
              have d3 : decide (1000000 < ch) = true := decide_eq_true h3
              go_wp2_with fail
              go_quiet (fail)
              go_wp2
              go_ret
              exact ⟨ret_bool (by rw [hno.out]; rfl), below_drewN (below_drewN HB3.out _) _⟩
            · have d3 : decide (1000000 < ch) = false := decide_eq_false h3
              have hok : ivOk cl ch := ⟨by omega, by omega, by omega⟩
              have HOK := Lib.hid hok
              clear hok
              go_wp2_with fail
              go_quiet (fail)
              go_wp2
              go_roundw
              case rel => exact ⟨2, by omega, rfl, ⟨fun _ => hrel.out.1 (by omega), fun _ => HOK.out, fun h => absurd h (by omega)⟩, _, rfl⟩
              case measure => simp [intOf]
      · by_cases h1 : ll < 0
        · have hno := Lib.hid (useOk_n3 (day := day) (part := part) (kind := kind) (into := into) (slot := slot) (key := key) (value := value) (kl := kl) (kh := kh) (cl := cl) (ch := ch) (ll := ll) (lh := lh) (fun h => by unfold ivOk at h; omega))
          have d1 : decide (ll < 0) = true := decide_eq_true h1
          go_wp2_with fail
          go_quiet (fail)
          go_wp2
          go_ret
          exact ⟨ret_bool (by rw [hno.out]; rfl), below_drewN (below_drewN HB3.out _) _⟩
        · have d1 : decide (ll < 0) = false := decide_eq_false h1
          by_cases h2 : lh < ll
          · have hno := Lib.hid (useOk_n3 (day := day) (part := part) (kind := kind) (into := into) (slot := slot) (key := key) (value := value) (kl := kl) (kh := kh) (cl := cl) (ch := ch) (ll := ll) (lh := lh) (fun h => by unfold ivOk at h; omega))
            have d2 : decide (lh < ll) = true := decide_eq_true h2
            go_wp2_with fail
            go_quiet (fail)
            go_wp2
            go_ret
            exact ⟨ret_bool (by rw [hno.out]; rfl), below_drewN (below_drewN HB3.out _) _⟩
          · have d2 : decide (lh < ll) = false := decide_eq_false h2
            by_cases h3 : 1000000 < lh
            · have hno := Lib.hid (useOk_n3 (day := day) (part := part) (kind := kind) (into := into) (slot := slot) (key := key) (value := value) (kl := kl) (kh := kh) (cl := cl) (ch := ch) (ll := ll) (lh := lh) (fun h => by unfold ivOk at h; omega))
              have d3 : decide (1000000 < lh) = true := decide_eq_true h3
              go_wp2_with fail
              go_quiet (fail)
              go_wp2
              go_ret
              exact ⟨ret_bool (by rw [hno.out]; rfl), below_drewN (below_drewN HB3.out _) _⟩
            · have d3 : decide (1000000 < lh) = false := decide_eq_false h3
              have hok : ivOk ll lh := ⟨by omega, by omega, by omega⟩
              have HOK := Lib.hid hok
              clear hok
              go_wp2_with fail
              go_quiet (fail)
              go_wp2
              go_roundw
              case rel => exact ⟨3, by omega, rfl, ⟨fun _ => hrel.out.1 (by omega), fun _ => hrel.out.2.1 (by omega), fun _ => HOK.out⟩, _, rfl⟩
              case measure => simp [intOf]
    · obtain rfl : k = 3 := by omega
      have hok := Lib.hid (useOk_yes (e := ⟨4, day, part, kind, into, slot, key, value, kl, kh, cl, ch, ll, lh⟩) hrel.out)
      cases hr : rest4 ⟨4, day, part, kind, into, slot, key, value, kl, kh, cl, ch, ll, lh⟩
      · have HR := Lib.hid hr
        have hr' : evEq ⟨0, 0, ⟨#[]⟩, kind, into, slot, key, value, 0, 0, 0, 0, 0, 0⟩ ⟨0, 0, ⟨#[]⟩, ⟨#[]⟩, ⟨#[]⟩, ⟨#[]⟩, ⟨#[]⟩, ⟨#[]⟩, 0, 0, 0, 0, 0, 0⟩ = false := hr
        clear hr
        go_wp2_with fail
        go_ret
        exact ⟨ret_bool (by rw [hok.out, HR.out]; rfl), below6 (below_drewN HB3.out n) (by omega) _ _ _ _ _ _ _ _ _ _ _ _⟩
      · have HR := Lib.hid hr
        have hr' : evEq ⟨0, 0, ⟨#[]⟩, kind, into, slot, key, value, 0, 0, 0, 0, 0, 0⟩ ⟨0, 0, ⟨#[]⟩, ⟨#[]⟩, ⟨#[]⟩, ⟨#[]⟩, ⟨#[]⟩, ⟨#[]⟩, 0, 0, 0, 0, 0, 0⟩ = true := hr
        clear hr
        go_wp2_with (go_at_call 54; refine (containsBad_any _ [] _ ⟨_, _, rfl, by simp, .inl rfl⟩ (by simp) (fun s hs => by cases hs)).mono ?_; rintro e w4 ⟨rfl, hb4⟩)
        go_ret
        refine ⟨ret_bool (by rw [hok.out, HR.out]; rfl), ?_⟩
        exact (below6 (below_drewN HB3.out n) (by omega) _ _ _ _ _ _ _ _ _ _ _ _).trans (hb4.mono (by simp; omega))
end Go.Proofs.YtjlpllnhefafkaaGreatDoor
namespace Go.Proofs.YtjlpllnhefafkaaGreatDoor
open Go Go.RowKit
theorem valid_any (e : Ev) (w : World) (hs : e.short) :
    Calls Tryz.prog 29 #[.agg e.cells] w fun r w' => r = .returned (.bool (evOk e)) ∧ Below w.heap.size w w' := by
  obtain ⟨op, day, part, kind, into, slot, key, value, kl, kh, cl, ch, ll, lh⟩ := e
  obtain ⟨hp, hk, hi, hsl, hke, hv⟩ := hs
  show Calls Tryz.prog 29 #[.agg #[.int .i64 op, .int .i64 day, .string part, .string kind, .string into, .string slot, .string key, .string value, .int .i64 kl, .int .i64 kh, .int .i64 cl, .int .i64 ch, .int .i64 ll, .int .i64 lh]] w _
  have fin : ∀ {b : Bool}, evOk ⟨op, day, part, kind, into, slot, key, value, kl, kh, cl, ch, ll, lh⟩ = b → (∀ r w', (r = Ending.returned (.bool b) ∧ Below w.heap.size w w') → r = .returned (.bool (evOk ⟨op, day, part, kind, into, slot, key, value, kl, kh, cl, ch, ll, lh⟩)) ∧ Below w.heap.size w w') :=
    fun h r w' ⟨h1, h2⟩ => ⟨by rw [h]; exact h1, h2⟩
  by_cases ho : 1 ≤ op ∧ op ≤ 7
  · by_cases hd0 : 0 ≤ day
    · by_cases hd : day ≤ 40000
      · cases hn : nameB part
        · exact (valid_e4 op day part kind into slot key value kl kh cl ch ll lh w ho hd0 hd hp hn).mono (fin (by simp [evOk, ho, hd0, hd, hn]))
        · have hops : op = 3 ∨ op = 5 ∨ op = 7 ∨ op = 1 ∨ op = 2 ∨ op = 6 ∨ op = 4 := by omega
          rcases hops with rfl | rfl | rfl | rfl | rfl | rfl | rfl
          · exact (valid_o3 day part kind into slot key value kl kh cl ch ll lh w hd0 hd hp hn).mono (fin (by simp [evOk, evRest, rest0, hd0, hd, hn]))
          · exact (valid_o5 day part kind into slot key value kl kh cl ch ll lh w hd0 hd hp hn).mono (fin (by simp [evOk, evRest, rest0, hd0, hd, hn]))
          · exact (valid_o7 day part kind into slot key value kl kh cl ch ll lh w hd0 hd hp hn).mono (fin (by simp [evOk, evRest, rest0, hd0, hd, hn]))
          · exact (valid_o1 day part kind into slot key value kl kh cl ch ll lh w hd0 hd hp hn hk).mono (fin (by simp [evOk, evRest, rest1, hd0, hd, hn]))
          · cases hne : into.toList == part.toList
            · exact (valid_o2 day part kind into slot key value kl kh cl ch ll lh w hd0 hd hp hn hne hi hsl).mono (fin (by simp [evOk, evRest, rest2, hd0, hd, hn, hne]))
            · exact (valid_n2 day part kind into slot key value kl kh cl ch ll lh w hd0 hd hp hn hne).mono (fin (by simp [evOk, evRest, hne]))
          · cases hve : value.toList.isEmpty
            · by_cases hv2 : value.size ≤ 200
              · exact (valid_o6 day part kind into slot key value kl kh cl ch ll lh w hd0 hd hp hn hve hv2 hke).mono (fin (by
                  have h3 : ((value.size : Int) ≤ 200) := by omega
                  simp [evOk, evRest, rest6, hd0, hd, hn, hve, h3]))
              · exact (valid_m6 day part kind into slot key value kl kh cl ch ll lh w hd0 hd hp hn hve (by omega)).mono (fin (by
                  have h3 : ¬ ((value.size : Int) ≤ 200) := by omega
                  simp [evOk, evRest, h3]))
            · exact (valid_n6 day part kind into slot key value kl kh cl ch ll lh w hd0 hd hp hn hve).mono (fin (by simp [evOk, evRest, hve]))
          · exact (valid_o4 day part kind into slot key value kl kh cl ch ll lh w hd0 hd hp hn).mono (fin (by simp [evOk, evRest, hd0, hd, hn]))
      · exact (valid_e3 op day part kind into slot key value kl kh cl ch ll lh w ho hd0 (by omega)).mono (fin (by simp [evOk, hd]))
    · exact (valid_e2 op day part kind into slot key value kl kh cl ch ll lh w ho (by omega)).mono (fin (by simp [evOk, hd0]))
  · exact (valid_e1 op day part kind into slot key value kl kh cl ch ll lh w (by omega)).mono (fin (by simp [evOk, ho]))
end Go.Proofs.YtjlpllnhefafkaaGreatDoor
namespace Go.Proofs.YtjlpllnhefafkaaGreatDoor
open Go Go.RowKit
section
variable {P : Program} {w : World}
/-- A source without an address adds nothing. -/
theorem append_nil_run (base : Nat) (t ty e : TypeId) (i : TypeInfo) (size : Nat) (ht : P.underlying t = some (.slice e)) (hi : P.info? e = some i) (v : Value) (n : Nat) (xs : List Value) (hown : w.ownsRow base e size v n xs) (c : Nat) :
    (Builtin.append_ #[t, t] ty #[v, .slice none 0 c]).run P w = .ok v w := by
  rcases hown.2 with ⟨rfl, rfl⟩ | ⟨g, cap, cur, rfl, _, _, hnc, _⟩
  · simp [Builtin.append_, run_underlying ht, sizeOf, typeInfo, hi, Builtin.lenOf, Builtin.firstCells]
  · simp [Builtin.append_, run_underlying ht, sizeOf, typeInfo, hi, Builtin.lenOf, Builtin.firstCells, hnc, storeCells]
/-- The law at the operation: the source has an address, or no element. -/
theorem wpList_app {ops : Array Oper} {rest : List Oper} {o : Oper} {a : Act} {Q : Exit → Act → World → Prop} (hw : Region.wanted o (yielded ops a.tmps) = true) (s x : Operand) (t : TypeId)
    (ho : o.op = .call { callee := .builtin .append, args := #[s, x], argTypes := #[t, t] })
    (base : Nat) (e : TypeId) (i : TypeInfo) (z : Value) (size bytes : Nat) (ht : P.underlying t = some (.slice e)) (hi : P.info? e = some i) (hz : i.zero = some z)
    (hsize : i.size = size) (hby : i.bytes = bytes) (hzs : z.cells.size = size) (hsz : 0 < size)
    (v : Value) (n : Nat) (xs : List Value) (hs : a.eval s = v) (hown : w.ownsRow base e size v n xs)
    (A : Option Addr) (m c : Nat) (news : List Value) (hx : a.eval x = .slice A m c) (hl : news.length = m * size) (hA : m = 0 ∨ ∃ ad, A = some ad ∧ ∀ j u, news[j]? = some u → w.cell? (ad.add j) = some u)
    (h1 : ∀ u ∈ news, u.oneCell' = true) (h63 : n + m ≤ maxLen) (hbytes : (n + m) * bytes ≤ 140737488355328) (hbase : base ≤ w.heap.size)
    (h : ∀ v' w', w'.ownsRow base e size v' (n + m) (xs ++ news) → w.grownBy w' v.ownBlock → wpList P ops Q rest (a.put o.dst v') w') : wpList P ops Q (o :: rest) a w := by
  refine BigFrame.wpList_want hw fun K hK => ?_
  rcases A with _ | ad
  · have hm : m = 0 := by
      rcases hA with h0 | ⟨_, h0, _⟩
      · exact h0
      · cases h0
    subst hm
    obtain rfl : news = [] := List.eq_nil_of_length_eq_zero (by simpa using hl)
    have hr := append_nil_run (P := P) base t o.type e i size ht hi v n xs hown c
    unfold Oper.wp execOp
    simp only [ho, resolve, invoke, builtin, Sem.run_bind, Sem.run_pure, Result.andThen_ok, List.map_toArray, List.map_cons, List.map_nil, hs, hx, hr]
    exact hK _ _ (h v w (by simpa using hown) (World.grownBy.refl w _))
  · refine wp_append_own w s x t ho base e i z size bytes ht hi hz hsize hby hzs hsz v n xs hs hown ad m c news hx hl ?_ h1 h63 hbytes hbase fun v' w' h2 h3 _ => hK _ _ (h v' w' h2 h3)
    rcases hA with rfl | ⟨ad', h0, hc⟩
    · obtain rfl : news = [] := List.eq_nil_of_length_eq_zero (by simpa using hl)
      intro j u hu; cases hu
    · cases h0; exact hc
end
/-- The cells that a slice reads, as a list. -/
def slCells (k : Nat) (f : Nat → Value) : List Value := (List.range k).map f
theorem slCells_len (k : Nat) (f : Nat → Value) : (slCells k f).length = k := by simp [slCells]
theorem slCells_get (k : Nat) (f : Nat → Value) (j : Nat) (h : j < k) : (slCells k f)[j]? = some (f j) := by simp [slCells, h]
theorem sl_src {w : World} {A : Option Addr} {n m c sz : Nat} {f : Nat → Value} (h : Sl w (.slice A n c) m sz f) : n = m ∧ (m = 0 ∨ ∃ ad, A = some ad ∧ ∀ j u, (slCells (m * sz) f)[j]? = some u → w.cell? (ad.add j) = some u) := by
  obtain ⟨A', c', he, _, h0 | ⟨b, o, hA, hc⟩⟩ := h
  · injection he with e1 e2 e3; exact ⟨e2, .inl h0⟩
  · injection he with e1 e2 e3
    refine ⟨e2, .inr ⟨_, e1.trans hA, fun j u hu => ?_⟩⟩
    have hj : j < m * sz := by
      rcases Nat.lt_or_ge j (m * sz) with h1 | h1
      · exact h1
      · rw [List.getElem?_eq_none (by rw [slCells_len]; exact h1)] at hu; cases hu
    rw [slCells_get _ _ _ hj] at hu
    rw [Addr.add_mid, hc j hj, hu]
/-- An owned row reads as a slice. -/
theorem sl_row {w : World} {base t sz n : Nat} {v : Value} {xs : List Value} (h : w.ownsRow base t sz v n xs) : Sl w v n sz (fun j => (xs[j]?).getD undef) := by
  rcases h.2 with ⟨rfl, h0⟩ | ⟨g, cap, cur, rfl, hg, hh, hn, hc, hs, ht⟩
  · subst h0; exact ⟨_, _, rfl, Nat.le_refl _, .inl rfl⟩
  · refine ⟨_, cap, rfl, hn, .inr ⟨g, 0, rfl, fun j hj => ?_⟩⟩
    have hx : xs.length = n * sz := h.1
    rw [Nat.zero_add, cell_of_row w g j cur t (0, 0) hh]
    obtain ⟨x, h1⟩ : ∃ x, xs[j]? = some x := ⟨_, List.getElem?_eq_getElem (by omega)⟩
    show _ = some ((xs[j]?).getD undef)
    rw [h1, Option.getD_some]
    rw [← ht, List.getElem?_take, if_pos hj] at h1
    simpa using h1
end Go.Proofs.YtjlpllnhefafkaaGreatDoor
namespace Go.Proofs.YtjlpllnhefafkaaGreatDoor
open Go Go.RowKit
section
variable {P : Program} {w : World}
/-- An owned row, or an empty slice of whatever address. -/
def Own0 (w : World) (base e size : Nat) (v : Value) (n : Nat) (xs : List Value) : Prop := w.ownsRow base e size v n xs ∨ (n = 0 ∧ xs = [] ∧ ∃ B, v = .slice B 0 0)
/-- What an append may have done: it wrote one row of the element type from base on, or none; and made blocks. -/
def Grew (w w' : World) (base e : Nat) : Prop := ∃ row, w.grownBy w' row ∧ ∀ g, row = some g → base ≤ g ∧ ∃ cur, w.heap[g]? = some (.cells cur e (0, 0))
theorem Grew.below {w' : World} {base e B : Nat} {a : World} (h : Grew w w' base e) (hb : Below B a w) (hB : B ≤ w.heap.size) (hbase : B ≤ base) : Below B a w' := by
  obtain ⟨row, hg, hr⟩ := h
  exact hb.grown hg hB fun g hg => Nat.le_trans hbase (hr g hg).1
theorem Grew.has {w' : World} {base e g t : Nat} {cs : Array Value} (h : Grew w w' base e) (hh : Has w g t cs) (hne : t ≠ e) : Has w' g t cs := by
  obtain ⟨row, hg, hr⟩ := h
  refine hh.grown hg fun he => ?_
  obtain ⟨_, cur, hc⟩ := hr g he.symm
  unfold Has at hh
  rw [hh] at hc
  injection hc with hc
  injection hc with _ h2
  exact hne h2
theorem Own0.sl {base e size n : Nat} {v : Value} {xs : List Value} (h : Own0 w base e size v n xs) : Sl w v n size (fun j => (xs[j]?).getD undef) := by
  rcases h with h | ⟨rfl, _, B, rfl⟩
  · exact sl_row h
  · exact ⟨_, _, rfl, Nat.le_refl _, .inl rfl⟩
theorem Own0.form {base e size n : Nat} {v : Value} {xs : List Value} (h : Own0 w base e size v n xs) : ∃ A c, v = .slice A n c := by
  rcases h with h | ⟨rfl, _, B, rfl⟩
  · rcases h.2 with ⟨rfl, rfl⟩ | ⟨g, cap, cur, rfl, _⟩
    · exact ⟨_, _, rfl⟩
    · exact ⟨_, _, rfl⟩
  · exact ⟨_, _, rfl⟩
theorem Own0.alloc {base e size n : Nat} {v : Value} {xs : List Value} (h : Own0 w base e size v n xs) (o : Obj) : Own0 (w.alloc o) base e size v n xs := h.elim (fun h => .inl (h.alloc o)) .inr
theorem Own0.drew {base e size n : Nat} {v : Value} {xs : List Value} (h : Own0 w base e size v n xs) : Own0 w.drew base e size v n xs := h.elim (fun h => .inl h.drew) .inr
theorem Own0.put {base e size n g t : Nat} {v : Value} {xs : List Value} {cs : Array Value} (h : Own0 w base e size v n xs) (hh : Has w g t cs) (hne : t ≠ e) (i : Nat) (u : Value) : Own0 (w.setCell ⟨g, i, none⟩ u) base e size v n xs := by
  rcases h with h | h
  · refine .inl ⟨h.1, ?_⟩
    rcases h.2 with h0 | ⟨g', cap, cur, rfl, hb, hg, rest⟩
    · exact .inl h0
    · refine .inr ⟨g', cap, cur, rfl, hb, ?_, rest⟩
      have hgg : g' ≠ g := by
        rintro rfl
        unfold Has at hh
        rw [hg] at hh
        injection hh with hh
        injection hh with _ e2
        exact hne e2.symm
      exact (heap_setCell_other w ⟨g, i, none⟩ g' u hgg).trans hg
  · exact .inr h
theorem append_empty_run (t ty e : TypeId) (i : TypeInfo) (ht : P.underlying t = some (.slice e)) (hi : P.info? e = some i) (B : Option Addr) (A : Option Addr) (m c : Nat) (h0 : 0 < m) (hb : m * i.bytes ≤ 140737488355328) :
    (Builtin.append_ #[t, t] ty #[.slice B 0 0, .slice A m c]).run P w = (Builtin.append_ #[t, t] ty #[.slice none 0 0, .slice A m c]).run P w := by
  cases B with
  | none => rfl
  | some a =>
    have hm : ¬ m = 0 := by omega
    have h48 : ¬ (281474976710656 < Builtin.nextslicecap m 0 * i.bytes) := by rw [nextslicecap_zero h0]; omega
    simp [Builtin.append_, run_underlying ht, sizeOf, typeInfo, hi, Builtin.lenOf, Builtin.firstCells, loadCells, loadCellsFrom, hm, h48]
/-- append onto either. -/
theorem wp_app0 {o : Oper} {a : Act} {K : Act → World → Prop} {Q : Exit → Act → World → Prop} (s x : Operand) (t : TypeId)
    (ho : o.op = .call { callee := .builtin .append, args := #[s, x], argTypes := #[t, t] })
    (base : Nat) (e : TypeId) (i : TypeInfo) (z : Value) (size bytes : Nat) (ht : P.underlying t = some (.slice e)) (hi : P.info? e = some i) (hz : i.zero = some z)
    (hsize : i.size = size) (hby : i.bytes = bytes) (hzs : z.cells.size = size) (hsz : 0 < size)
    (v : Value) (n : Nat) (xs : List Value) (hs : a.eval s = v) (hown : Own0 w base e size v n xs)
    (A : Option Addr) (m c : Nat) (news : List Value) (hx : a.eval x = .slice A m c) (hl : news.length = m * size) (hA : m = 0 ∨ ∃ ad, A = some ad ∧ ∀ j u, news[j]? = some u → w.cell? (ad.add j) = some u)
    (h1 : ∀ u ∈ news, u.oneCell' = true) (h63 : n + m ≤ maxLen) (hbytes : (n + m) * bytes ≤ 140737488355328) (hbase : base ≤ w.heap.size)
    (h : ∀ v' w', Own0 w' base e size v' (n + m) (xs ++ news) → Grew w w' base e → K (a.put o.dst v') w') : o.wp P a w K Q := by
  have run : ∃ v' w', (Builtin.append_ #[t, t] o.type #[v, .slice A m c]).run P w = .ok v' w' ∧ Own0 w' base e size v' (n + m) (xs ++ news) ∧ Grew w w' base e := by
    have own : ∀ v n xs, w.ownsRow base e size v n xs → (∀ (hh : n + m ≤ maxLen), (n + m) * bytes ≤ 140737488355328 → ∃ v' w', (Builtin.append_ #[t, t] o.type #[v, .slice A m c]).run P w = .ok v' w' ∧ Own0 w' base e size v' (n + m) (xs ++ news) ∧ Grew w w' base e) := by
      intro v n xs hown h63 hbytes
      have hrow : ∀ g, v.ownBlock = some g → base ≤ g ∧ ∃ cur, w.heap[g]? = some (.cells cur e (0, 0)) := fun g hg => by
        refine ⟨(hown.lt g hg).1, ?_⟩
        rcases hown.2 with ⟨rfl, _⟩ | ⟨g', cap, cur, rfl, _, hh, _⟩
        · cases hg
        · obtain rfl : g' = g := Option.some.inj hg
          exact ⟨cur, hh⟩
      rcases A with _ | ad
      · have hm : m = 0 := by
          rcases hA with h0 | ⟨_, h0, _⟩
          · exact h0
          · cases h0
        subst hm
        obtain rfl : news = [] := List.eq_nil_of_length_eq_zero (by simpa using hl)
        exact ⟨v, w, append_nil_run (P := P) base t o.type e i size ht hi v n xs hown c, .inl (by simpa using hown), _, World.grownBy.refl w v.ownBlock, hrow⟩
      · obtain ⟨v', w', hr, h2, h3, _⟩ := run_append_own (P := P) w base t o.type e i z size bytes ht hi hz hsize hby hzs hsz v n xs hown ad m c news hl (by
          rcases hA with rfl | ⟨ad', h0, hc⟩
          · obtain rfl : news = [] := List.eq_nil_of_length_eq_zero (by simpa using hl)
            intro j u hu; cases hu
          · cases h0; exact hc) h1 h63 hbytes hbase
        exact ⟨v', w', hr, .inl h2, _, h3, hrow⟩
    rcases hown with hown | ⟨rfl, rfl, B, rfl⟩
    · exact own v n xs hown h63 hbytes
    · rcases Nat.eq_zero_or_pos m with rfl | h0
      · obtain rfl : news = [] := List.eq_nil_of_length_eq_zero (by simpa using hl)
        refine ⟨.slice B 0 0, w, ?_, .inr ⟨rfl, rfl, B, rfl⟩, none, World.grownBy.refl w none, fun g hg => by cases hg⟩
        cases A <;> cases B <;> simp [Builtin.append_, run_underlying ht, sizeOf, typeInfo, hi, Builtin.lenOf, Builtin.firstCells, loadCells, loadCellsFrom, storeCells]
      · obtain ⟨v', w', hr, h2, h3⟩ := own (.slice none 0 0) 0 [] (World.ownsRow_nil _ _ _ _) h63 hbytes
        exact ⟨v', w', by rw [append_empty_run t o.type e i ht hi B A m c h0 (by rw [hby]; simpa using hbytes)]; exact hr, h2, h3⟩
  obtain ⟨v', w', hr, h2, h3⟩ := run
  unfold Oper.wp execOp
  simp only [ho, resolve, invoke, builtin, Sem.run_bind, Sem.run_pure, Result.andThen_ok, List.map_toArray, List.map_cons, List.map_nil, hs, hx, hr]
  exact h v' w' h2 h3
end
end Go.Proofs.YtjlpllnhefafkaaGreatDoor
namespace Go.Proofs.YtjlpllnhefafkaaGreatDoor
open Go Go.RowKit
set_option maxHeartbeats 1000000 in
set_option maxRecDepth 100000 in
theorem check_any (B b : Nat) (bs : List Value) (w : World) (h : Lib.IsBuilder 80 5 B b bs w) :
    Calls Tryz.prog 72 #[.pointer (some ⟨b, 0, none⟩)] w fun e w' => e = .returned (.tuple #[]) ∧ Lib.BuilderAt 80 5 B b (.pointer (some ⟨b, 0, none⟩)) bs w' ∧ Below B w w' := by
  obtain ⟨j, hj, hjs⟩ := Option.map_eq_some_iff.1 (show (Tryz.prog.info? 80).map (·.size) = some 2 by kernel_rfl)
  rcases h with h | h
  · have HB := Lib.hid (h.used (.pointer (some ⟨b, 0, none⟩)))
    have hbb := (Below.refl B w).setCell (p := ⟨b, 0, none⟩) h.1 (.pointer (some ⟨b, 0, none⟩))
    have hsh := h.shape
    have hc := h.cell0
    have hf := h.frozen0
    clear h
    go_enter Tryz.func72, Tryz.ntmps72
    go_wp2
    rw [Lib.run_to_unsafe w ⟨b, 0, none⟩ Tryz.underlying77 Tryz.underlying131 hj (by rw [hjs]; decide) hsh (Nat.zero_lt_succ 1)]
    simp only [Result.andThen]
    rw [Oper.upon_value]
    go_wp2
    rw [run_callFunc_extern Tryz.func95 (by kernel_rfl) (by kernel_rfl) (by kernel_rfl) (e := Extern.AbiNoEscape.same) (by kernel_rfl), Lib.run_noEscape]
    simp only [Result.andThen]
    rw [Oper.upon_value]
    go_wp2
    rw [Lib.run_from_unsafe w ⟨b, 0, none⟩ Tryz.underlying131 Tryz.underlying77 hj hsh (by kernel_rfl)]
    simp only [Result.andThen]
    rw [Oper.upon_value]
    go_wp2
    go_end0
    exact ⟨rfl, HB.out, hbb⟩
  · have hc := h.cell0
    have HB := Lib.hid h
    clear h
    go_enter Tryz.func72, Tryz.ntmps72
    go_wp2
    rw [Lib.run_neq_ptr_same w _ Tryz.underlying77 hj]
    go_wp2
    go_end0
    exact ⟨rfl, HB.out, Below.refl B _⟩
theorem own_slice {w : World} {base e size n : Nat} {v : Value} {xs : List Value} (h : w.ownsRow base e size v n xs) : ∃ A c, v = .slice A n c := by
  rcases h.2 with ⟨rfl, h0⟩ | ⟨g, cap, cur, rfl, _⟩
  · exact ⟨none, 0, by rw [h0]⟩
  · exact ⟨_, _, rfl⟩
theorem infoB : (Tryz.prog.info? 5).map (fun i => (i.zero, i.size, i.bytes)) = some (some (.int .u8 0), 1, 1) := by kernel_rfl
set_option maxHeartbeats 2000000 in
set_option maxRecDepth 100000 in
theorem writeStr_any (B b : Nat) (bs : List Value) (s : ByteArray) (w : World) (h : Lib.IsBuilder 80 5 B b bs w) (hlen : bs.length + s.size ≤ 140737488355328) (hBw : B ≤ w.heap.size) :
    Calls Tryz.prog 48 #[.pointer (some ⟨b, 0, none⟩), .string s] w fun e w' => e = .returned (.tuple #[.int .i64 s.size, .nilIface]) ∧ Lib.IsBuilder 80 5 B b (bs ++ Lib.strCells s) w' ∧ Below B w w' := by
  obtain ⟨i0, hi, hz0, hz1, hz2⟩ := info_parts infoB
  have HC := Lib.hid (check_any B b bs w h)
  have HI := Lib.hid hi
  have HZ := Lib.hid hz0
  clear h hi hz0
  go_enter Tryz.func48, Tryz.ntmps48
  go_wp2_with (first
    | (go_at_call 72; refine HC.out.mono ?_; rintro e w1 ⟨rfl, hb1, hbb1⟩; obtain ⟨hB1, v1, hk1, hown1, hne1⟩ := hb1; obtain ⟨A1, c1', hf1⟩ := own_slice hown1; subst hf1; have c1 : w1.cell? ⟨b, 1, none⟩ = some (.slice A1 bs.length c1') := (by rw [Lib.cell_of_heap hk1]; rfl); have HBB := Lib.hid hbb1; have HK := Lib.hid hk1; have HO := Lib.hid hown1; have HNE := Lib.hid hne1; have f1 := Lib.frozen_of_heap hk1 1; clear hbb1 hk1 hown1 hne1)
    | ((with_reducible show wpList _ _ _ (Oper.mk (some 14) _ _ _ _ _ :: _) _ _); refine Lib.wpList_append_own_string _ rfl (.tmp 12) (.tmp 13) 78 9 rfl B 5 i0 Tryz.underlying78 Tryz.underlying9 HI.out HZ.out hz1 hz2 _ _ bs rfl HO.out s rfl (by unfold maxLen; omega) hlen (by have := HBB.out.size; omega) ?_; intro v2 w2 hown2 hg2 hnil2; obtain ⟨A2, c2', hf2⟩ := own_slice hown2; subst hf2; have hk2 := (hg2.block b (by have := HK.out; exact (Array.getElem?_eq_some_iff.1 this).1) (fun e => HNE.out e.symm)).trans HK.out; have HO2 := Lib.hid hown2; have HG2 := Lib.hid hg2; have HK2 := Lib.hid hk2; have f2 := Lib.frozen_of_heap hk2 1; have c2 : w2.cell? ⟨b, 1, none⟩ = some (.slice A1 bs.length c1') := (by rw [Lib.cell_of_heap hk2]; rfl); clear hown2 hg2 hnil2 hk2))
  go_ret2
  refine ⟨rfl, .inr (Lib.BuilderAt.put hB1 HK2.out ?_ (by decide)), ?_⟩
  · rw [List.length_append, Lib.strCells_length]
    exact HO2.out
  · exact ((HBB.out.grown HG2.out (Nat.le_trans hBw HBB.out.size) (fun j hj => (HO.out.lt j hj).1)).setCell (p := ⟨b, 1, none⟩) hB1 _)
end Go.Proofs.YtjlpllnhefafkaaGreatDoor
namespace Go.Proofs.YtjlpllnhefafkaaGreatDoor
open Go Go.RowKit
/-- The class of the byte at an offset; 0 behind the end. -/
def clsAt (s : ByteArray) (i : Nat) : Nat := if i < s.size then cls (byteAt s i) else 0
/-- The first offset from i on that a test refuses, in at most n steps. -/
def runTo (p : Nat → Bool) : Nat → Nat → Nat
  | 0, i => i
  | n + 1, i => if p i then runTo p n (i + 1) else i
theorem runTo_succ (p : Nat → Bool) (n i : Nat) : runTo p (n + 1) i = if p i then runTo p n (i + 1) else i := rfl
theorem runTo_eq (p : Nat → Bool) : ∀ (n i j : Nat), i ≤ j → j ≤ i + n → (∀ k, i ≤ k → k < j → p k = true) → p j = false → runTo p n i = j
  | 0, i, j, h1, h2, _, _ => by show i = j; omega
  | n + 1, i, j, h1, h2, h3, h4 => by
    rw [runTo_succ]
    rcases Nat.lt_or_ge i j with h | h
    · rw [if_pos (h3 i (Nat.le_refl _) h)]
      exact runTo_eq p n (i + 1) j h (by omega) (fun k hk hk2 => h3 k (by omega) hk2) h4
    · obtain rfl : i = j := by omega
      rw [if_neg (by rw [h4]; decide)]
theorem runTo_ge (p : Nat → Bool) : ∀ (n i : Nat), i ≤ runTo p n i
  | 0, i => Nat.le_refl _
  | n + 1, i => by
    rw [runTo_succ]
    split
    · exact Nat.le_trans (Nat.le_succ i) (runTo_ge p n (i + 1))
    · exact Nat.le_refl _
theorem runTo_le (p : Nat → Bool) {B : Nat} (hp : ∀ j, B ≤ j → p j = false) : ∀ (n i : Nat), i ≤ B → runTo p n i ≤ B
  | 0, _, h => h
  | n + 1, i, h => by
    rw [runTo_succ]
    split
    · rename_i hi
      rcases Nat.lt_or_ge i B with h2 | h2
      · exact runTo_le p hp n (i + 1) h2
      · rw [hp i h2] at hi; cases hi
    · exact h
def wordP (s : ByteArray) (i : Nat) : Bool := clsAt s i == 3 || (clsAt s i == 4 || clsAt s i == 5)
def digP (s : ByteArray) (i : Nat) : Bool := clsAt s i == 4
def hashP (s : ByteArray) (i : Nat) : Bool := decide (i < s.size) && byteAt s i != 10
def wordEnd (s : ByteArray) (i : Nat) : Nat := runTo (wordP s) s.size i
def digEnd (s : ByteArray) (i : Nat) : Nat := runTo (digP s) s.size i
def hashEnd (s : ByteArray) (i : Nat) : Nat := runTo (hashP s) s.size i
/-- What a byte behind a backslash stands for. -/
def escB (c : Nat) : Option UInt8 := if c = 92 then some 92 else if c = 34 then some 34 else if c = 110 then some 10 else none
/-- What the string at the beginning of a text stands for, and its length: from offset i on, with what has come. -/
def unqGo (t : ByteArray) : Nat → Nat → List UInt8 → Option (List UInt8 × Nat)
  | 0, _, _ => none
  | n + 1, i, acc => if t.size ≤ i then none else if byteAt t i = 34 then some (acc, i + 1) else if byteAt t i = 10 then none
    else if byteAt t i = 92 then (if t.size ≤ i + 1 then none else match escB (byteAt t (i + 1)) with
      | none => none
      | some b => unqGo t n (i + 2) (acc ++ [b]))
    else unqGo t n (i + 1) (acc ++ [UInt8.ofNat (byteAt t i)])
theorem unqGo_succ (t : ByteArray) (n i : Nat) (acc : List UInt8) : unqGo t (n + 1) i acc = if t.size ≤ i then none else if byteAt t i = 34 then some (acc, i + 1) else if byteAt t i = 10 then none
    else if byteAt t i = 92 then (if t.size ≤ i + 1 then none else match escB (byteAt t (i + 1)) with
      | none => none
      | some b => unqGo t n (i + 2) (acc ++ [b]))
    else unqGo t n (i + 1) (acc ++ [UInt8.ofNat (byteAt t i)]) := rfl
def unqL (t : ByteArray) : Option (List UInt8 × Nat) := unqGo t t.size 1 []
/-- A token, or an error. -/
structure Fnd where
  kind : Int
  text : ByteArray
  pos : Int
  err : Int
/-- The text from i up to j. -/
def cut (s : ByteArray) (i j : Nat) : ByteArray := s.extract i j
/-- The tokens of a text from an offset on; an error as the last one. -/
def lexGo (s : ByteArray) : Nat → Nat → List Fnd
  | 0, _ => []
  | n + 1, i => if s.size ≤ i then [] else
    if clsAt s i = 1 then lexGo s n (i + 1)
    else if clsAt s i = 2 then lexGo s n (hashEnd s i)
    else if clsAt s i = 3 then (if 24 < wordEnd s i - i then [⟨1, cut s i (wordEnd s i), i, 7⟩] else ⟨1, cut s i (wordEnd s i), i, 0⟩ :: lexGo s n (wordEnd s i))
    else if clsAt s i = 4 then (if 7 < digEnd s i - i ∨ clsAt s (digEnd s i) = 3 ∨ clsAt s (digEnd s i) = 5 then [⟨2, cut s i (digEnd s i), i, 11⟩] else ⟨2, cut s i (digEnd s i), i, 0⟩ :: lexGo s n (digEnd s i))
    else if clsAt s i = 7 then (match unqL (cut s i s.size) with
      | none => [⟨0, ⟨#[]⟩, i, 10⟩]
      | some (t, m) => ⟨3, ⟨t.toArray⟩, i, 0⟩ :: lexGo s n (i + m))
    else if clsAt s i = 6 then ⟨4, cut s i (i + 1), i, 0⟩ :: lexGo s n (i + 1)
    else [⟨0, ⟨#[]⟩, i, 10⟩]
theorem lexGo_succ (s : ByteArray) (n i : Nat) : lexGo s (n + 1) i = if s.size ≤ i then [] else
    if clsAt s i = 1 then lexGo s n (i + 1)
    else if clsAt s i = 2 then lexGo s n (hashEnd s i)
    else if clsAt s i = 3 then (if 24 < wordEnd s i - i then [⟨1, cut s i (wordEnd s i), i, 7⟩] else ⟨1, cut s i (wordEnd s i), i, 0⟩ :: lexGo s n (wordEnd s i))
    else if clsAt s i = 4 then (if 7 < digEnd s i - i ∨ clsAt s (digEnd s i) = 3 ∨ clsAt s (digEnd s i) = 5 then [⟨2, cut s i (digEnd s i), i, 11⟩] else ⟨2, cut s i (digEnd s i), i, 0⟩ :: lexGo s n (digEnd s i))
    else if clsAt s i = 7 then (match unqL (cut s i s.size) with
      | none => [⟨0, ⟨#[]⟩, i, 10⟩]
      | some (t, m) => ⟨3, ⟨t.toArray⟩, i, 0⟩ :: lexGo s n (i + m))
    else if clsAt s i = 6 then ⟨4, cut s i (i + 1), i, 0⟩ :: lexGo s n (i + 1)
    else [⟨0, ⟨#[]⟩, i, 10⟩] := rfl
def lexF (s : ByteArray) : List Fnd := lexGo s (s.size + 1) 0
/-- What comes of tokens that are found one after the other: those that are kept, the error and its offset. -/
def takeF : List Fnd → List Fnd → List Fnd × Int × Int
  | [], out => (out, 0, 0)
  | f :: r, out => if f.err ≠ 0 then ([], f.err, f.pos) else if out.length = 5000 then ([], 7, f.pos) else takeF r (out ++ [f])
/-- The tokens of a text, or an error and its offset. -/
def lexL (s : ByteArray) : List Fnd × Int × Int := if 20000 < s.size then ([], 7, -1) else takeF (lexF s) []
end Go.Proofs.YtjlpllnhefafkaaGreatDoor
namespace Go.Proofs.YtjlpllnhefafkaaGreatDoor
open Go Go.RowKit
theorem size_of {s : ByteArray} {l : List UInt8} (h : s.data.toList = l) : s.size = l.length := by
  rw [← h]; rfl
theorem byte_in {s : ByteArray} {A w B : List UInt8} (h : s.data.toList = A ++ (w ++ B)) {k : Nat} (hk : k < w.length) : byteAt s (A.length + k) = (w[k]).toNat := by
  unfold byteAt
  rw [h, List.getD_eq_getElem?_getD, List.getElem?_append_right (by omega), List.getElem?_append_left (by omega), show A.length + k - A.length = k by omega, List.getElem?_eq_getElem hk]
  rfl
theorem cls_in {s : ByteArray} {A w B : List UInt8} (h : s.data.toList = A ++ (w ++ B)) {k : Nat} (hk : k < w.length) : clsAt s (A.length + k) = cls (w[k]).toNat := by
  unfold clsAt
  have hs := size_of h
  rw [List.length_append, List.length_append] at hs
  rw [if_pos (by omega), byte_in h hk]
def Stops (B : List UInt8) : Prop := B = [] ∨ ∃ B', B = 32 :: B'
theorem cls_stop {s : ByteArray} {A B : List UInt8} (h : s.data.toList = A ++ B) (hB : Stops B) : clsAt s A.length = 0 ∨ clsAt s A.length = 1 := by
  have hs := size_of h
  rcases hB with rfl | ⟨B', rfl⟩
  · left; unfold clsAt; rw [if_neg (by simp at hs; omega)]
  · right
    have := cls_in (A := A) (w := [32]) (B := B') h (k := 0) (by simp)
    rw [Nat.add_zero] at this
    rw [this]; decide +kernel
theorem cut_mid {s : ByteArray} {A w B : List UInt8} (h : s.data.toList = A ++ (w ++ B)) : cut s A.length (A.length + w.length) = ⟨w.toArray⟩ := by
  unfold cut
  have e : (s.extract A.length (A.length + w.length)).data.toList = w := by
    rw [ByteArray.data_extract, Array.toList_extract, h]
    rw [List.extract_eq_take_drop, List.drop_left]
    simp
  cases hx : s.extract A.length (A.length + w.length) with
  | mk d => rw [hx] at e; congr 1; rw [← e]
/-- A word that is one token, wherever a space or the end follows. -/
def Lexes (w : List UInt8) (k : Int) (t : ByteArray) : Prop :=
  0 < w.length ∧ ∀ (s : ByteArray) (A B : List UInt8) (n : Nat), s.data.toList = A ++ (w ++ B) → Stops B → lexGo s (n + 1) A.length = ⟨k, t, (A.length : Nat), 0⟩ :: lexGo s n (A.length + w.length)
theorem end_at {s : ByteArray} {A w B : List UInt8} (h : s.data.toList = A ++ (w ++ B)) (p : Nat → Bool) (hp : ∀ k, k < w.length → p (A.length + k) = true) (he : p (A.length + w.length) = false) : runTo p s.size A.length = A.length + w.length := by
  have hs := size_of h
  rw [List.length_append, List.length_append] at hs
  refine runTo_eq p s.size _ _ (by omega) (by omega) (fun k h1 h2 => ?_) he
  have := hp (k - A.length) (by omega)
  rwa [show A.length + (k - A.length) = k by omega] at this
theorem stop_at {s : ByteArray} {A w B : List UInt8} (h : s.data.toList = A ++ (w ++ B)) (hB : Stops B) : clsAt s (A.length + w.length) = 0 ∨ clsAt s (A.length + w.length) = 1 := by
  have := cls_stop (A := A ++ w) (B := B) (s := s) (by rw [h, List.append_assoc]) hB
  rwa [List.length_append] at this
theorem lexes_name {b : ByteArray} (h : nameB b = true) : Lexes b.data.toList 1 b := by
  unfold nameB at h
  obtain ⟨h0, h1, h2⟩ := of_decide_eq_true h
  have hl : b.data.toList.length = b.size := rfl
  refine ⟨by omega, fun s A B n hs hB => ?_⟩
  have hsz := size_of hs
  rw [List.length_append, List.length_append] at hsz
  have hc : ∀ k (hk : k < b.data.toList.length), okAt k (b.data.toList[k]).toNat = true := fun k hk => by
    have := h2 k (by omega)
    have e : byteAt b k = (b.data.toList[k]).toNat := by
      unfold byteAt; rw [List.getD_eq_getElem?_getD, List.getElem?_eq_getElem hk]; rfl
    rwa [e] at this
  have hfirst : clsAt s A.length = 3 := by
    have h3 := hc 0 (by omega)
    have h4 := cls_in hs (k := 0) (by omega)
    rw [Nat.add_zero] at h4
    rw [h4]
    simpa [okAt] using h3
  have hend : wordEnd s A.length = A.length + b.data.toList.length := by
    refine end_at hs (wordP s) (fun k hk => ?_) ?_
    · unfold wordP
      rw [cls_in hs hk]
      have := hc k hk
      unfold okAt at this
      simp only [Bool.or_eq_true, Bool.and_eq_true] at this ⊢
      rcases this with h | ⟨_, h | h⟩
      · exact .inl h
      · exact .inr (.inl h)
      · exact .inr (.inr h)
    · unfold wordP
      rcases stop_at hs hB with h | h <;> rw [h] <;> rfl
  rw [lexGo_succ, if_neg (by omega), if_neg (by omega), if_neg (by omega), if_pos hfirst, hend, if_neg (by omega), cut_mid hs]
theorem dig_in : ∀ (u : Nat) (c : UInt8), c ∈ Lib.decDigits u → 48 ≤ c.toNat ∧ c.toNat ≤ 57 := by
  intro u
  induction u using Nat.strongRecOn with
  | _ u ih =>
    intro c hc
    rw [Lib.decDigits] at hc
    split at hc
    · rw [List.mem_singleton] at hc
      subst hc
      rw [UInt8.toNat_ofNat']
      omega
    · rw [List.mem_append, List.mem_singleton] at hc
      rcases hc with hc | rfl
      · exact ih (u / 10) (by omega) c hc
      · rw [UInt8.toNat_ofNat']
        omega
theorem cls_digit {c : UInt8} (h : 48 ≤ c.toNat ∧ c.toNat ≤ 57) : cls c.toNat = 4 := by
  unfold cls cls0
  rw [if_neg (by omega), if_neg (by omega), if_neg (by omega), if_neg (by omega), if_pos h]
theorem dec_len {u : Nat} (h : u < 10000000) : 0 < (Lib.decDigits u).length ∧ (Lib.decDigits u).length ≤ 7 := by
  rw [Lib.decDigits_length]
  refine ⟨Lib.nDigits_pos u, ?_⟩
  by_cases h0 : u < 10
  · rw [Lib.nDigits_small h0]; omega
  by_cases h1 : u < 100
  · rw [Lib.nDigits_unique 1 u (by omega) (by omega)]; omega
  by_cases h2 : u < 1000
  · rw [Lib.nDigits_unique 2 u (by omega) (by omega)]; omega
  by_cases h3 : u < 10000
  · rw [Lib.nDigits_unique 3 u (by omega) (by omega)]; omega
  by_cases h4 : u < 100000
  · rw [Lib.nDigits_unique 4 u (by omega) (by omega)]; omega
  by_cases h5 : u < 1000000
  · rw [Lib.nDigits_unique 5 u (by omega) (by omega)]; omega
  · rw [Lib.nDigits_unique 6 u (by omega) (by omega)]; omega
theorem lexes_num {u : Nat} (h : u < 10000000) : Lexes (Lib.decDigits u) 2 ⟨(Lib.decDigits u).toArray⟩ := by
  obtain ⟨h0, h7⟩ := dec_len h
  refine ⟨h0, fun s A B n hs hB => ?_⟩
  have hsz := size_of hs
  rw [List.length_append, List.length_append] at hsz
  have hc : ∀ k (hk : k < (Lib.decDigits u).length), cls ((Lib.decDigits u)[k]).toNat = 4 := fun k hk => cls_digit (dig_in u _ (List.getElem_mem hk))
  have hfirst : clsAt s A.length = 4 := by
    have h4 := cls_in hs (k := 0) h0
    rw [Nat.add_zero] at h4
    rw [h4]; exact hc 0 h0
  have hst := stop_at hs hB
  have hend : digEnd s A.length = A.length + (Lib.decDigits u).length := by
    refine end_at hs (digP s) (fun k hk => ?_) ?_
    · unfold digP
      rw [cls_in hs hk, hc k hk]; rfl
    · unfold digP
      rcases hst with h | h <;> rw [h] <;> rfl
  rw [lexGo_succ, if_neg (by omega), if_neg (by omega), if_neg (by omega), if_neg (by omega), if_pos hfirst, hend, if_neg (by omega), cut_mid hs]
/-- A string in double quotes. -/
def escL (c : UInt8) : List UInt8 := if c = 10 then [92, 110] else if c = 34 ∨ c = 92 then [92, c] else [c]
def quoteL (v : List UInt8) : List UInt8 := 34 :: (v.flatMap escL ++ [34])
theorem unq_esc (t : ByteArray) : ∀ (v P Q acc : List UInt8) (n : Nat), t.data.toList = P ++ (v.flatMap escL ++ 34 :: Q) → v.length < n → unqGo t n P.length acc = some (acc ++ v, P.length + (v.flatMap escL).length + 1)
  | [], P, Q, acc, n + 1, ht, _ => by
    have hb := byte_in (A := P) (w := [34]) (B := Q) (s := t) (by simpa using ht) (k := 0) (by simp)
    have hs := size_of ht
    rw [Nat.add_zero] at hb
    rw [unqGo_succ, if_neg (by simp at hs; omega), if_pos (by rw [hb]; rfl)]
    simp
  | c :: v, P, Q, acc, n + 1, ht, hn => by
    have hs := size_of ht
    have ih := unq_esc t v (P ++ escL c) Q
    have ht2 : t.data.toList = (P ++ escL c) ++ (v.flatMap escL ++ 34 :: Q) := by rw [ht]; simp
    have hlt : P.length < t.size := by
      rw [hs]; simp only [List.length_append, List.length_cons]; omega
    by_cases h10 : c = 10
    · have e : escL c = [92, 110] := by unfold escL; rw [if_pos h10]
      rw [e] at ht2 ih
      have b0 := byte_in (A := P) (w := [92, 110]) (B := v.flatMap escL ++ 34 :: Q) (s := t) (by simpa using ht2) (k := 0) (by simp)
      have b1 := byte_in (A := P) (w := [92, 110]) (B := v.flatMap escL ++ 34 :: Q) (s := t) (by simpa using ht2) (k := 1) (by simp)
      rw [Nat.add_zero] at b0
      have hs2 := size_of ht2
      rw [unqGo_succ, if_neg (by omega), if_neg (by rw [b0]; decide), if_neg (by rw [b0]; decide), if_pos (by rw [b0]; decide), if_neg (by simp at hs2; omega), b1]
      show unqGo t n (P.length + 2) (acc ++ [10]) = _
      have := ih (acc ++ [10]) n ht2 (by simp at hn; omega)
      rw [List.length_append] at this
      rw [show P.length + 2 = P.length + ([92, 110] : List UInt8).length from rfl, this, h10]
      simp [escL]; omega
    · by_cases h34 : c = 34 ∨ c = 92
      · have e : escL c = [92, c] := by unfold escL; rw [if_neg h10, if_pos h34]
        rw [e] at ht2 ih
        have b0 := byte_in (A := P) (w := [92, c]) (B := v.flatMap escL ++ 34 :: Q) (s := t) (by simpa using ht2) (k := 0) (by simp)
        have b1 := byte_in (A := P) (w := [92, c]) (B := v.flatMap escL ++ 34 :: Q) (s := t) (by simpa using ht2) (k := 1) (by simp)
        rw [Nat.add_zero] at b0
        have hs2 := size_of ht2
        have he : escB c.toNat = some c := by rcases h34 with rfl | rfl <;> rfl
        rw [unqGo_succ, if_neg (by omega), if_neg (by rw [b0]; exact (by decide : ¬ (92 : UInt8).toNat = 34)), if_neg (by rw [b0]; exact (by decide : ¬ (92 : UInt8).toNat = 10)), if_pos (by rw [b0]; exact (by decide : (92 : UInt8).toNat = 92)), if_neg (by simp at hs2; omega), b1]
        show (match escB c.toNat with | none => none | some b => unqGo t n (P.length + 2) (acc ++ [b])) = _
        rw [he]
        show unqGo t n (P.length + 2) (acc ++ [c]) = _
        have := ih (acc ++ [c]) n ht2 (by simp at hn; omega)
        rw [List.length_append] at this
        rw [show P.length + 2 = P.length + ([92, c] : List UInt8).length from rfl, this]
        simp [e]; omega
      · have e : escL c = [c] := by unfold escL; rw [if_neg h10, if_neg h34]
        rw [e] at ht2 ih
        have b0 := byte_in (A := P) (w := [c]) (B := v.flatMap escL ++ 34 :: Q) (s := t) (by simpa using ht2) (k := 0) (by simp)
        rw [Nat.add_zero] at b0
        have hne : ∀ (d : UInt8) (m : Nat), d.toNat = m → c ≠ d → ¬ byteAt t P.length = m := fun d m hm hd hb => by
          rw [b0, ← hm] at hb
          exact hd (UInt8.toNat_inj.1 hb)
        rw [unqGo_succ, if_neg (by omega), if_neg (hne 34 34 rfl fun h => h34 (.inl h)), if_neg (hne 10 10 rfl h10), if_neg (hne 92 92 rfl fun h => h34 (.inr h)), b0]
        show unqGo t n (P.length + 1) (acc ++ [UInt8.ofNat c.toNat]) = _
        rw [UInt8.ofNat_toNat]
        have := ih (acc ++ [c]) n ht2 (by simp at hn; omega)
        rw [List.length_append] at this
        rw [show P.length + 1 = P.length + ([c] : List UInt8).length from rfl, this]
        simp [e]; omega
theorem esc_len : ∀ v : List UInt8, v.length ≤ (v.flatMap escL).length
  | [] => Nat.le_refl _
  | c :: v => by
    have := esc_len v
    rw [List.flatMap_cons, List.length_append, List.length_cons]
    have : 1 ≤ (escL c).length := by
      unfold escL
      split
      · exact Nat.le_add_left 1 1
      · split
        · exact Nat.le_add_left 1 1
        · exact Nat.le_refl _
    omega
theorem unq_quote {t : ByteArray} {v Q : List UInt8} (h : t.data.toList = quoteL v ++ Q) : unqL t = some (v, (quoteL v).length) := by
  unfold unqL
  have hs := size_of h
  have := esc_len v
  have h1 := unq_esc t v [34] Q [] t.size (by rw [h]; simp [quoteL]) (by rw [hs]; unfold quoteL; rw [List.length_append, List.length_cons, List.length_append]; omega)
  show unqGo t t.size ([34] : List UInt8).length [] = _
  rw [h1]
  simp [quoteL]; omega
theorem cut_rest {s : ByteArray} {A w : List UInt8} (h : s.data.toList = A ++ w) : (cut s A.length s.size).data.toList = w := by
  have h2 := cut_mid (s := s) (A := A) (w := w) (B := []) (by simpa using h)
  have hs := size_of h
  rw [List.length_append] at hs
  rw [hs, h2]
theorem lexes_quote (v : List UInt8) : Lexes (quoteL v) 3 ⟨v.toArray⟩ := by
  have hl : 0 < (quoteL v).length := by simp [quoteL]
  refine ⟨hl, fun s A B n hs hB => ?_⟩
  have hsz := size_of hs
  rw [List.length_append, List.length_append] at hsz
  have hfirst : clsAt s A.length = 7 := by
    have h4 := cls_in hs (k := 0) hl
    rw [Nat.add_zero] at h4
    rw [h4]; rfl
  have hu := unq_quote (cut_rest hs)
  rw [lexGo_succ, if_neg (by omega), if_neg (by omega), if_neg (by omega), if_neg (by omega), if_neg (by omega), if_pos hfirst, hu]
/-- Words with single spaces between them. -/
def spaced : List (List UInt8) → List UInt8
  | [] => []
  | w :: r => w ++ r.flatMap (32 :: ·)
inductive AllLex : List (List UInt8) → List ByteArray → Prop
  | nil : AllLex [] []
  | cons {w : List UInt8} {t : ByteArray} {r : List (List UInt8)} {tr : List ByteArray} : (∃ k, Lexes w k t) → AllLex r tr → AllLex (w :: r) (t :: tr)
theorem lexGo_spaced (s : ByteArray) : ∀ (ws : List (List UInt8)) (ts : List ByteArray) (A : List UInt8) (n : Nat), AllLex ws ts → s.data.toList = A ++ spaced ws → s.size - A.length + 1 ≤ n →
    (lexGo s n A.length).map Fnd.text = ts ∧ (∀ f ∈ lexGo s n A.length, f.err = 0) ∧ (lexGo s n A.length).length = ws.length
  | _, _, A, n, .nil, hs, hn => by
    have hsz := size_of hs
    have h0 : s.size ≤ A.length := by simpa [spaced] using Nat.le_of_eq hsz
    cases n with
    | zero => omega
    | succ n => rw [lexGo_succ, if_pos h0]; exact ⟨rfl, fun f hf => (by cases hf), rfl⟩
  | _, _, A, n, .cons (w := w) (t := t) (r := r) (tr := tr) ⟨k, hk⟩ hr, hs, hn => by
    have hsz := size_of hs
    obtain ⟨h0, hx⟩ := hk
    cases n with
    | zero => omega
    | succ n =>
      have hst : Stops (r.flatMap (32 :: ·)) := by
        cases r with
        | nil => exact .inl rfl
        | cons w2 r2 => exact .inr ⟨_, by rw [List.flatMap_cons]; rfl⟩
      rw [hx s A _ n hs hst]
      have hgo : (lexGo s n (A.length + w.length)).map Fnd.text = tr ∧ (∀ f ∈ lexGo s n (A.length + w.length), f.err = 0) ∧ (lexGo s n (A.length + w.length)).length = r.length := by
        have hsz2 : s.size = A.length + (w.length + (r.flatMap (32 :: ·)).length) := by rw [hsz]; simp [spaced]
        cases hr with
        | nil =>
          have := lexGo_spaced s [] [] (A ++ w) n .nil (by rw [hs]; simp [spaced]) (by rw [List.length_append]; omega)
          rwa [List.length_append] at this
        | cons hk2 hr2 =>
          rename_i w2 t2 r2 tr2
          have hfl : 1 ≤ ((w2 :: r2).flatMap (32 :: ·)).length := by rw [List.flatMap_cons, List.length_append, List.length_cons]; omega
          cases n with
          | zero => omega
          | succ n =>
            have hb := cls_in (s := s) (A := A ++ w) (w := [32]) (B := w2 ++ r2.flatMap (32 :: ·)) (by rw [hs]; simp [spaced]) (k := 0) (by simp)
            rw [Nat.add_zero, List.length_append] at hb
            have hc : clsAt s (A.length + w.length) = 1 := by rw [hb]; decide +kernel
            rw [lexGo_succ, if_neg (by rw [hsz2]; simp), if_pos hc]
            have := lexGo_spaced s (w2 :: r2) (t2 :: tr2) (A ++ w ++ [32]) n (.cons hk2 hr2) (by rw [hs]; simp [spaced]) (by simp; omega)
            rw [List.length_append, List.length_append] at this
            exact this
      obtain ⟨g1, g2, g3⟩ := hgo
      refine ⟨by rw [List.map_cons, g1], fun f hf => ?_, by rw [List.length_cons, g3]; rfl⟩
      rcases List.mem_cons.1 hf with rfl | hf
      · rfl
      · exact g2 f hf
theorem takeF_all : ∀ (fs out : List Fnd), (∀ f ∈ fs, f.err = 0) → out.length + fs.length ≤ 5000 → takeF fs out = (out ++ fs, 0, 0)
  | [], out, _, _ => by simp [takeF]
  | f :: r, out, he, hl => by
    unfold takeF
    rw [if_neg (by rw [he f (List.mem_cons_self ..)]; decide), if_neg (by simp at hl; omega), takeF_all r (out ++ [f]) (fun g hg => he g (List.mem_cons_of_mem _ hg)) (by simp at hl ⊢; omega)]
    simp
/-- Words that are tokens, with spaces between them: the tokens' texts. -/
theorem lex_spaced {s : ByteArray} {ws : List (List UInt8)} {ts : List ByteArray} (hk : AllLex ws ts) (hs : s.data.toList = spaced ws) (h1 : s.size ≤ 20000) (h2 : ws.length ≤ 5000) :
    ∃ fs, lexL s = (fs, 0, 0) ∧ fs.map Fnd.text = ts := by
  obtain ⟨g1, g2, g3⟩ := lexGo_spaced s ws ts [] (s.size + 1) hk (by simpa using hs) (by simp)
  refine ⟨lexF s, ?_, g1⟩
  unfold lexL
  rw [if_neg (by omega), takeF_all (lexF s) [] (show ∀ f ∈ lexF s, f.err = 0 from g2) (by rw [show (lexF s).length = ws.length from g3]; simpa using h2)]
  rfl
theorem parse_cons (acc : Nat) (c : UInt8) (r : List UInt8) : Lib.parseUint10 acc (c :: r) = if 48 ≤ c.toNat ∧ c.toNat ≤ 57 then (if 1844674407370955162 ≤ acc then .range else if 18446744073709551616 ≤ acc * 10 + (c.toNat - 48) then .range else Lib.parseUint10 (acc * 10 + (c.toNat - 48)) r) else .syntax := rfl
theorem parse_app : ∀ (l r : List UInt8) (acc a : Nat), Lib.parseUint10 acc l = .ok a → Lib.parseUint10 acc (l ++ r) = Lib.parseUint10 a r
  | [], r, acc, a, h => by
    have : acc = a := by injection h
    rw [this]; rfl
  | c :: l, r, acc, a, h => by
    rw [List.cons_append, parse_cons]
    rw [parse_cons] at h
    split at h
    · rename_i h1
      rw [if_pos h1]
      split at h
      · cases h
      · rename_i h2
        rw [if_neg h2]
        split at h
        · cases h
        · rename_i h3
          rw [if_neg h3]
          exact parse_app l r _ a h
    · cases h
theorem parse_dec : ∀ u : Nat, u < 1000000000000000000 → Lib.parseUint10 0 (Lib.decDigits u) = .ok u := by
  intro u
  induction u using Nat.strongRecOn with
  | _ u ih =>
    intro hu
    rw [Lib.decDigits]
    split
    · rename_i h
      rw [parse_cons, UInt8.toNat_ofNat', if_pos (by omega), if_neg (by omega), if_neg (by omega)]
      show Lib.NumEnd.ok _ = _
      congr 1; omega
    · rename_i h
      rw [parse_app _ _ _ _ (ih (u / 10) (by omega) (by omega)), parse_cons, UInt8.toNat_ofNat', if_pos (by omega), if_neg (by omega), if_neg (by omega)]
      show Lib.NumEnd.ok _ = _
      congr 1; omega
theorem atoi_dec {u : Nat} (hu : u < 1000000000000000000) : Lib.atoiAll (Lib.decDigits u) = .ok (u : Int) := by
  have hp := parse_dec u hu
  have hne : Lib.decDigits u ≠ [] := by
    intro h
    have := Lib.nDigits_pos u
    rw [← Lib.decDigits_length, h] at this
    simp at this
  have hd := dig_in u
  cases hl : Lib.decDigits u with
  | nil => exact absurd hl hne
  | cons c r =>
    have hc := hd c (by rw [hl]; exact List.mem_cons_self ..)
    rw [hl] at hp
    unfold Lib.atoiAll
    simp only
    rw [if_neg (by omega)]
    unfold Lib.parseMag
    rw [if_neg (by simp), hp]
    simp only
    rw [if_neg (by omega), if_neg (by omega), if_neg (by omega)]
end Go.Proofs.YtjlpllnhefafkaaGreatDoor
namespace Go.Proofs.YtjlpllnhefafkaaGreatDoor
open Go Go.RowKit
def itoaB (n : Int) : ByteArray := ⟨(Lib.itoa n).toArray⟩
def quoteB (v : ByteArray) : ByteArray := ⟨(quoteL v.data.toList).toArray⟩
def joined (l : List ByteArray) (sep : ByteArray) : ByteArray := ⟨(Lib.join (l.map (·.data.toList)) sep.data.toList).toArray⟩
def evTail (e : Ev) (v : ByteArray) : List ByteArray :=
  if e.op = 1 then [e.kind] else if e.op = 2 then [e.into, e.slot] else if e.op = 4 then [itoaB e.kl, itoaB e.kh, itoaB e.cl, itoaB e.ch, itoaB e.ll, itoaB e.lh] else if e.op = 6 then [e.key, v] else []
def evWords (e : Ev) : List ByteArray := [wordS e.op, itoaB e.day, e.part] ++ evTail e (quoteB e.value)
def evTexts (e : Ev) : List ByteArray := [wordS e.op, itoaB e.day, e.part] ++ evTail e e.value
/-- The text of a valid event. -/
def textB (e : Ev) : ByteArray := joined (evWords e) ⟨#[32]⟩
theorem joined_spaced (ws : List ByteArray) : (joined ws ⟨#[32]⟩).data.toList = spaced (ws.map fun b => b.data.toList) := by
  show (Lib.join (ws.map fun b => b.data.toList) [32]) = _
  cases ws with
  | nil => rfl
  | cons w r =>
    rw [List.map_cons, Lib.join_cons]
    show _ = w.data.toList ++ _
    congr 1
def atoiV (l : List UInt8) : Int := match Lib.atoiAll l with
  | .ok v => v
  | .syntax => 0
  | .range => Lib.atoiSat l
def opOf (t : ByteArray) : Int :=
  if t = wordS 7 then 7 else if t = wordS 6 then 6 else if t = wordS 5 then 5 else if t = wordS 4 then 4 else if t = wordS 3 then 3 else if t = wordS 2 then 2 else if t = wordS 1 then 1 else 0
def numAt (ts : List ByteArray) (i : Nat) : Int := atoiV (ts.getD i ⟨#[]⟩).data.toList
/-- The event that tokens seem to be. -/
def readE (ts : List ByteArray) : Ev :=
  let op := opOf (ts.getD 0 ⟨#[]⟩)
  ⟨op, numAt ts 1, ts.getD 2 ⟨#[]⟩, if op = 1 then ts.getD 3 ⟨#[]⟩ else ⟨#[]⟩, if op = 2 then ts.getD 3 ⟨#[]⟩ else ⟨#[]⟩, if op = 2 then ts.getD 4 ⟨#[]⟩ else ⟨#[]⟩, if op = 6 then ts.getD 3 ⟨#[]⟩ else ⟨#[]⟩, if op = 6 then ts.getD 4 ⟨#[]⟩ else ⟨#[]⟩,
    if op = 4 then numAt ts 3 else 0, if op = 4 then numAt ts 4 else 0, if op = 4 then numAt ts 5 else 0, if op = 4 then numAt ts 6 else 0, if op = 4 then numAt ts 7 else 0, if op = 4 then numAt ts 8 else 0⟩
def zeroE : Ev := ⟨0, 0, ⟨#[]⟩, ⟨#[]⟩, ⟨#[]⟩, ⟨#[]⟩, ⟨#[]⟩, ⟨#[]⟩, 0, 0, 0, 0, 0, 0⟩
/-- The event of a text. -/
def parseE (s : ByteArray) : Ev × Int :=
  if (lexL s).2.1 = 0 then (if evOk (readE ((lexL s).1.map Fnd.text)) = true ∧ textB (readE ((lexL s).1.map Fnd.text)) = s then (readE ((lexL s).1.map Fnd.text), 0) else (zeroE, 8)) else (zeroE, 8)
theorem parse_only {s : ByteArray} : (parseE s).2 = 0 ∧ evOk (parseE s).1 = true ∧ textB (parseE s).1 = s ∨ parseE s = (zeroE, 8) := by
  unfold parseE
  split
  · split
    · rename_i h; exact .inl ⟨rfl, h⟩
    · exact .inr rfl
  · exact .inr rfl
theorem evEq_all {a b : Ev} (h : evEq a b = true) : a = b := of_decide_eq_true h
theorem lexes_int {n : Int} (h0 : 0 ≤ n) (h1 : n < 10000000) : ∃ k, Lexes (itoaB n).data.toList k (itoaB n) := by
  obtain ⟨u, rfl⟩ : ∃ u : Nat, n = u := ⟨n.toNat, by omega⟩
  have e : itoaB (u : Int) = ⟨(Lib.decDigits u).toArray⟩ := by
    unfold itoaB Lib.itoa
    rw [if_neg (by omega)]; rfl
  rw [e]
  exact ⟨2, lexes_num (by omega)⟩
theorem lexes_nm {b : ByteArray} (h : nameB b = true) : ∃ k, Lexes b.data.toList k b := ⟨1, lexes_name h⟩
theorem lexes_qt (v : ByteArray) : ∃ k, Lexes (quoteB v).data.toList k v := ⟨3, lexes_quote v.data.toList⟩
theorem num_int {n : Int} (h0 : 0 ≤ n) (h1 : n < 10000000) : atoiV (itoaB n).data.toList = n := by
  obtain ⟨u, rfl⟩ : ∃ u : Nat, n = u := ⟨n.toNat, by omega⟩
  have e : (itoaB (u : Int)).data.toList = Lib.decDigits u := by
    unfold itoaB Lib.itoa
    rw [if_neg (by omega)]; rfl
  unfold atoiV
  rw [e, atoi_dec (by omega)]
/-- What a valid event is, by its operation. -/
theorem evOk_parts {e : Ev} (h : evOk e = true) : (1 ≤ e.op ∧ e.op ≤ 7) ∧ (0 ≤ e.day ∧ e.day ≤ 40000) ∧ nameB e.part = true ∧ evRest e = true := by
  unfold evOk at h
  simpa only [Bool.and_eq_true, decide_eq_true_eq] using h
theorem words_names : nameB (wordS 1) = true ∧ nameB (wordS 2) = true ∧ nameB (wordS 3) = true ∧ nameB (wordS 4) = true ∧ nameB (wordS 5) = true ∧ nameB (wordS 6) = true ∧ nameB (wordS 7) = true := by
  refine ⟨?_, ?_, ?_, ?_, ?_, ?_, ?_⟩ <;> decide +kernel
theorem ops_words : opOf (wordS 1) = 1 ∧ opOf (wordS 2) = 2 ∧ opOf (wordS 3) = 3 ∧ opOf (wordS 4) = 4 ∧ opOf (wordS 5) = 5 ∧ opOf (wordS 6) = 6 ∧ opOf (wordS 7) = 7 := by
  refine ⟨?_, ?_, ?_, ?_, ?_, ?_, ?_⟩ <;> decide +kernel
theorem name_len {b : ByteArray} (h : nameB b = true) : b.data.toList.length ≤ 24 := (of_decide_eq_true h).2.1
theorem int_len {n : Int} (h0 : 0 ≤ n) (h1 : n < 10000000) : (itoaB n).data.toList.length ≤ 24 := by
  obtain ⟨u, rfl⟩ : ∃ u : Nat, n = u := ⟨n.toNat, by omega⟩
  have e : (itoaB (u : Int)).data.toList = Lib.decDigits u := by
    unfold itoaB Lib.itoa
    rw [if_neg (by omega)]; rfl
  rw [e]
  have := (dec_len (u := u) (by omega)).2
  omega
theorem quote_len (v : ByteArray) : (quoteB v).data.toList.length ≤ 2 * v.size + 2 := by
  show (quoteL v.data.toList).length ≤ _
  have h : ∀ l : List UInt8, (l.flatMap escL).length ≤ 2 * l.length := by
    intro l
    induction l with
    | nil => exact Nat.le_refl _
    | cons c l ih =>
      rw [List.flatMap_cons, List.length_append, List.length_cons]
      have : (escL c).length ≤ 2 := by
        unfold escL
        split
        · exact Nat.le_refl _
        · split
          · exact Nat.le_refl _
          · exact Nat.le_succ _
      omega
  have h2 := h v.data.toList
  have h3 : v.data.toList.length = v.size := rfl
  unfold quoteL
  rw [List.length_cons, List.length_append, List.length_singleton]
  omega
/-- What a valid event's words are: tokens; what they are read as; how long they are. -/
theorem event_words {e : Ev} (h : evOk e = true) : AllLex ((evWords e).map fun b => b.data.toList) (evTexts e) ∧ readE (evTexts e) = e ∧ (∀ w ∈ evWords e, w.data.toList.length ≤ 402) ∧ (evWords e).length ≤ 9 := by
  obtain ⟨⟨h1, h2⟩, ⟨h3, h4⟩, hp, hr⟩ := evOk_parts h
  obtain ⟨n1, n2, n3, n4, n5, n6, n7⟩ := words_names
  obtain ⟨o1, o2, o3, o4, o5, o6, o7⟩ := ops_words
  obtain ⟨op, day, part, kind, into, slot, key, value, kl, kh, cl, ch, ll, lh⟩ := e
  dsimp only at h1 h2 h3 h4 hp
  have hd := lexes_int h3 (by omega)
  have hpp := lexes_nm hp
  have nd := num_int h3 (by omega)
  have ld := int_len h3 (by omega)
  have lp := name_len hp
  have hc : op = 1 ∨ op = 2 ∨ op = 3 ∨ op = 4 ∨ op = 5 ∨ op = 6 ∨ op = 7 := by omega
  clear h h1 h2
  rcases hc with rfl | rfl | rfl | rfl | rfl | rfl | rfl
  · have hr2 : (rest1 ⟨1, day, part, kind, into, slot, key, value, kl, kh, cl, ch, ll, lh⟩ && [kind].all nameB) = true := hr
    simp only [Bool.and_eq_true, List.all_cons, List.all_nil, Bool.and_true] at hr2
    obtain ⟨hz, hk⟩ := hr2
    have hz := evEq_all hz
    simp only [Ev.mk.injEq] at hz
    obtain ⟨_, _, _, _, rfl, rfl, rfl, rfl, rfl, rfl, rfl, rfl, rfl, rfl⟩ := hz
    have lw := name_len n1
    have lk := name_len hk
    refine ⟨.cons (lexes_nm n1) (.cons hd (.cons hpp (.cons (lexes_nm hk) .nil))), ?_, ?_, by simp [evWords, evTail]⟩
    · show readE [wordS 1, itoaB day, part, kind] = _
      unfold readE numAt
      simp [o1, nd]
    · intro w hw
      simp only [evWords, evTail, if_true, List.cons_append, List.nil_append, List.mem_cons, List.not_mem_nil, or_false] at hw
      rcases hw with rfl | rfl | rfl | rfl <;> omega
  · have hr2 : (!(into.toList == part.toList) && (rest2 ⟨2, day, part, kind, into, slot, key, value, kl, kh, cl, ch, ll, lh⟩ && [into, slot].all nameB)) = true := hr
    simp only [Bool.and_eq_true, List.all_cons, List.all_nil, Bool.and_true] at hr2
    obtain ⟨_, hz, hi, hs⟩ := hr2
    have hz := evEq_all hz
    simp only [Ev.mk.injEq] at hz
    obtain ⟨_, _, _, rfl, _, _, rfl, rfl, rfl, rfl, rfl, rfl, rfl, rfl⟩ := hz
    have lw := name_len n2
    have li := name_len hi
    have ls := name_len hs
    refine ⟨.cons (lexes_nm n2) (.cons hd (.cons hpp (.cons (lexes_nm hi) (.cons (lexes_nm hs) .nil)))), ?_, ?_, by simp [evWords, evTail]⟩
    · show readE [wordS 2, itoaB day, part, into, slot] = _
      unfold readE numAt
      simp [o2, nd]
    · intro w hw
      simp only [evWords, evTail, show ¬ (2 : Int) = 1 by decide, if_false, if_true, List.cons_append, List.nil_append, List.mem_cons, List.not_mem_nil, or_false] at hw
      rcases hw with rfl | rfl | rfl | rfl | rfl <;> omega
  · have hz := evEq_all (show evEq ⟨0, 0, ⟨#[]⟩, kind, into, slot, key, value, kl, kh, cl, ch, ll, lh⟩ ⟨0, 0, ⟨#[]⟩, ⟨#[]⟩, ⟨#[]⟩, ⟨#[]⟩, ⟨#[]⟩, ⟨#[]⟩, 0, 0, 0, 0, 0, 0⟩ = true from hr)
    simp only [Ev.mk.injEq] at hz
    obtain ⟨_, _, _, rfl, rfl, rfl, rfl, rfl, rfl, rfl, rfl, rfl, rfl, rfl⟩ := hz
    have lw := name_len n3
    refine ⟨.cons (lexes_nm n3) (.cons hd (.cons hpp .nil)), ?_, ?_, by simp [evWords, evTail]⟩
    · show readE [wordS 3, itoaB day, part] = _
      unfold readE numAt
      simp [o3, nd]
    · intro w hw
      simp only [evWords, evTail, show ¬ (3 : Int) = 1 by decide, show ¬ (3 : Int) = 2 by decide, show ¬ (3 : Int) = 4 by decide, show ¬ (3 : Int) = 6 by decide, if_false, List.append_nil, List.mem_cons, List.not_mem_nil, or_false] at hw
      rcases hw with rfl | rfl | rfl <;> omega
  · have hr2 : (useOk ⟨4, day, part, kind, into, slot, key, value, kl, kh, cl, ch, ll, lh⟩ && rest4 ⟨4, day, part, kind, into, slot, key, value, kl, kh, cl, ch, ll, lh⟩) = true := hr
    simp only [Bool.and_eq_true] at hr2
    obtain ⟨hu, hz⟩ := hr2
    have hz := evEq_all hz
    simp only [Ev.mk.injEq] at hz
    obtain ⟨_, _, _, rfl, rfl, rfl, rfl, rfl, _⟩ := hz
    have hu := of_decide_eq_true hu
    dsimp only at hu
    obtain ⟨u1, u2, u3, u4, u5, u6, u7, u8, u9⟩ := hu
    have lw := name_len n4
    have l1 := int_len u1 (by omega)
    have l2 := int_len (n := kh) (by omega) (by omega)
    have l3 := int_len u4 (by omega)
    have l4 := int_len (n := ch) (by omega) (by omega)
    have l5 := int_len u7 (by omega)
    have l6 := int_len (n := lh) (by omega) (by omega)
    have q1 := lexes_int u1 (by omega)
    have q2 := lexes_int (n := kh) (by omega) (by omega)
    have q3 := lexes_int u4 (by omega)
    have q4 := lexes_int (n := ch) (by omega) (by omega)
    have q5 := lexes_int u7 (by omega)
    have q6 := lexes_int (n := lh) (by omega) (by omega)
    refine ⟨.cons (lexes_nm n4) (.cons hd (.cons hpp (.cons q1 (.cons q2 (.cons q3 (.cons q4 (.cons q5 (.cons q6 .nil)))))))), ?_, ?_, by simp [evWords, evTail]⟩
    · show readE [wordS 4, itoaB day, part, itoaB kl, itoaB kh, itoaB cl, itoaB ch, itoaB ll, itoaB lh] = _
      unfold readE numAt
      simp [o4, nd, num_int u1 (by omega), num_int (n := kh) (by omega) (by omega), num_int u4 (by omega), num_int (n := ch) (by omega) (by omega), num_int u7 (by omega), num_int (n := lh) (by omega) (by omega)]
    · intro w hw
      simp only [evWords, evTail, show ¬ (4 : Int) = 1 by decide, show ¬ (4 : Int) = 2 by decide, if_false, if_true, List.cons_append, List.nil_append, List.mem_cons, List.not_mem_nil, or_false] at hw
      rcases hw with rfl | rfl | rfl | rfl | rfl | rfl | rfl | rfl | rfl <;> omega
  · have hz := evEq_all (show evEq ⟨0, 0, ⟨#[]⟩, kind, into, slot, key, value, kl, kh, cl, ch, ll, lh⟩ ⟨0, 0, ⟨#[]⟩, ⟨#[]⟩, ⟨#[]⟩, ⟨#[]⟩, ⟨#[]⟩, ⟨#[]⟩, 0, 0, 0, 0, 0, 0⟩ = true from hr)
    simp only [Ev.mk.injEq] at hz
    obtain ⟨_, _, _, rfl, rfl, rfl, rfl, rfl, rfl, rfl, rfl, rfl, rfl, rfl⟩ := hz
    have lw := name_len n5
    refine ⟨.cons (lexes_nm n5) (.cons hd (.cons hpp .nil)), ?_, ?_, by simp [evWords, evTail]⟩
    · show readE [wordS 5, itoaB day, part] = _
      unfold readE numAt
      simp [o5, nd]
    · intro w hw
      simp only [evWords, evTail, show ¬ (5 : Int) = 1 by decide, show ¬ (5 : Int) = 2 by decide, show ¬ (5 : Int) = 4 by decide, show ¬ (5 : Int) = 6 by decide, if_false, List.append_nil, List.mem_cons, List.not_mem_nil, or_false] at hw
      rcases hw with rfl | rfl | rfl <;> omega
  · have hr2 : ((!value.toList.isEmpty && decide ((value.size : Int) ≤ 200)) && (rest6 ⟨6, day, part, kind, into, slot, key, value, kl, kh, cl, ch, ll, lh⟩ && [key].all nameB)) = true := hr
    simp only [Bool.and_eq_true, List.all_cons, List.all_nil, Bool.and_true, decide_eq_true_eq] at hr2
    obtain ⟨⟨_, hv⟩, hz, hk⟩ := hr2
    have hz := evEq_all hz
    simp only [Ev.mk.injEq] at hz
    obtain ⟨_, _, _, rfl, rfl, rfl, _, _, rfl, rfl, rfl, rfl, rfl, rfl⟩ := hz
    have lw := name_len n6
    have lk := name_len hk
    have lv := quote_len value
    refine ⟨.cons (lexes_nm n6) (.cons hd (.cons hpp (.cons (lexes_nm hk) (.cons (lexes_qt value) .nil)))), ?_, ?_, by simp [evWords, evTail]⟩
    · show readE [wordS 6, itoaB day, part, key, value] = _
      unfold readE numAt
      simp [o6, nd]
    · intro w hw
      simp only [evWords, evTail, show ¬ (6 : Int) = 1 by decide, show ¬ (6 : Int) = 2 by decide, show ¬ (6 : Int) = 4 by decide, if_false, if_true, List.cons_append, List.nil_append, List.mem_cons, List.not_mem_nil, or_false] at hw
      rcases hw with rfl | rfl | rfl | rfl | rfl <;> omega
  · have hz := evEq_all (show evEq ⟨0, 0, ⟨#[]⟩, kind, into, slot, key, value, kl, kh, cl, ch, ll, lh⟩ ⟨0, 0, ⟨#[]⟩, ⟨#[]⟩, ⟨#[]⟩, ⟨#[]⟩, ⟨#[]⟩, ⟨#[]⟩, 0, 0, 0, 0, 0, 0⟩ = true from hr)
    simp only [Ev.mk.injEq] at hz
    obtain ⟨_, _, _, rfl, rfl, rfl, rfl, rfl, rfl, rfl, rfl, rfl, rfl, rfl⟩ := hz
    have lw := name_len n7
    refine ⟨.cons (lexes_nm n7) (.cons hd (.cons hpp .nil)), ?_, ?_, by simp [evWords, evTail]⟩
    · show readE [wordS 7, itoaB day, part] = _
      unfold readE numAt
      simp [o7, nd]
    · intro w hw
      simp only [evWords, evTail, show ¬ (7 : Int) = 1 by decide, show ¬ (7 : Int) = 2 by decide, show ¬ (7 : Int) = 4 by decide, show ¬ (7 : Int) = 6 by decide, if_false, List.append_nil, List.mem_cons, List.not_mem_nil, or_false] at hw
      rcases hw with rfl | rfl | rfl <;> omega
theorem spaced_len : ∀ (ws : List (List UInt8)) (b : Nat), (∀ w ∈ ws, w.length ≤ b) → (spaced ws).length ≤ ws.length * (b + 1)
  | [], _, _ => Nat.zero_le _
  | w :: r, b, h => by
    have hw := h w (List.mem_cons_self ..)
    have hr : ∀ r : List (List UInt8), (∀ w ∈ r, w.length ≤ b) → (r.flatMap (32 :: ·)).length ≤ r.length * (b + 1) := by
      intro r
      induction r with
      | nil => intro _; exact Nat.zero_le _
      | cons a r ih =>
        intro h
        rw [List.flatMap_cons, List.length_append, List.length_cons, List.length_cons, Nat.succ_mul]
        have := h a (List.mem_cons_self ..)
        have := ih fun w hw => h w (List.mem_cons_of_mem _ hw)
        omega
    show (w ++ r.flatMap (32 :: ·)).length ≤ _
    rw [List.length_append, List.length_cons, Nat.succ_mul]
    have := hr r fun w hw => h w (List.mem_cons_of_mem _ hw)
    omega
theorem text_size {e : Ev} (h : evOk e = true) : (textB e).size ≤ 3627 := by
  obtain ⟨_, _, h3, h4⟩ := event_words h
  have hs := size_of (s := textB e) (joined_spaced (evWords e))
  have := spaced_len ((evWords e).map fun b => b.data.toList) 402 (fun w hw => by
    obtain ⟨b, hb, rfl⟩ := List.mem_map.1 hw
    exact h3 b hb)
  rw [List.length_map] at this
  have h5 : (evWords e).length * (402 + 1) ≤ 9 * 403 := Nat.mul_le_mul_right _ h4
  rw [hs]
  omega
/-- An event is parsed from its text. -/
theorem parse_text {e : Ev} (h : evOk e = true) : parseE (textB e) = (e, 0) := by
  obtain ⟨h1, h2, h3, h4⟩ := event_words h
  have hz := text_size h
  obtain ⟨fs, hl, hf⟩ := lex_spaced h1 (joined_spaced (evWords e)) (by show (textB e).size ≤ _; omega) (by rw [List.length_map]; omega)
  unfold parseE
  rw [show lexL (textB e) = (fs, 0, 0) from hl]
  simp only [if_true]
  rw [hf, h2, if_pos ⟨h, rfl⟩]
/-- Different events have different texts. -/
theorem text_inj {e f : Ev} (he : evOk e = true) (hf : evOk f = true) (h : textB e = textB f) : e = f := by
  have h1 := parse_text he
  rw [h, parse_text hf] at h1
  exact (Prod.mk.inj h1).1.symm
end Go.Proofs.YtjlpllnhefafkaaGreatDoor
namespace Go.Proofs.YtjlpllnhefafkaaGreatDoor
open Go Go.RowKit

/-- How the keys of type k stand for things of type α. -/
structure Keying (P : Program) (k : TypeId) (α : Type) [DecidableEq α] (enc : α → Value) : Prop where
  check : ∀ (w : World) (em : Bool) (a : α), (Instr.checkKey em 10000 k (enc a)).run P w = .ok () w
  find : ∀ (w : World) (a : α) (es : List MapEntry) (m : List (α × Value)), es.map (fun e => (e.key, e.val)) = m.map (fun p => (enc p.1, p.2)) →
    (Instr.findKey k (enc a) es).run P w = .ok ((m.findIdx? (fun p => decide (p.1 = a))).bind fun i => (m[i]?).map fun p => (i, p.2)) w
  stays : ∀ (w : World) (a : α), (Instr.keyThatStays (enc a) (enc a)).run P w = .ok (enc a) w

/-- Block g is a map that holds m, in the order of its making. -/
def Mp {α : Type} (w : World) (enc : α → Value) (g : Nat) (m : List (α × Value)) : Prop :=
  ∃ es clock, w.heap[g]? = some (.map es clock) ∧ es.toList.map (fun e => (e.key, e.val)) = m.map (fun p => (enc p.1, p.2))

/-- What is at a key. -/
def mget {α : Type} [DecidableEq α] (m : List (α × Value)) (a : α) : Option Value := (m.find? (fun p => decide (p.1 = a))).map (·.2)
/-- The map behind a store. -/
def mput {α : Type} [DecidableEq α] (m : List (α × Value)) (a : α) (v : Value) : List (α × Value) :=
  match m.findIdx? (fun p => decide (p.1 = a)) with
  | some i => m.set i (a, v)
  | none => m ++ [(a, v)]

section
variable {α : Type} {enc : α → Value} {w w' : World} {g : Nat} {m : List (α × Value)}
theorem Mp.lt (h : Mp w enc g m) : g < w.heap.size := by
  obtain ⟨es, clock, hb, _⟩ := h
  by_cases hl : g < w.heap.size
  · exact hl
  · rw [Array.getElem?_eq_none (by omega)] at hb; cases hb
theorem Mp.new (w : World) (enc : α → Value) : Mp (w.alloc (.map #[] 0)) enc w.heap.size [] := ⟨#[], 0, heap_alloc_new w _, rfl⟩
theorem Mp.alloc (h : Mp w enc g m) (o : Obj) : Mp (w.alloc o) enc g m := by
  have hl := h.lt
  obtain ⟨es, clock, hb, he⟩ := h
  exact ⟨es, clock, (Below.heap_alloc w o g hl).trans hb, he⟩
theorem Mp.below {B : Nat} (h : Mp w enc g m) (hb : Below B w w') (hg : g < B) : Mp w' enc g m := by
  obtain ⟨es, clock, hh, he⟩ := h
  exact ⟨es, clock, (hb.block g hg).trans hh, he⟩
theorem Mp.far (h : Mp w enc g m) (p : Addr) (hp : g ≠ p.block) (u : Value) : Mp (w.setCell p u) enc g m := by
  obtain ⟨es, clock, hh, he⟩ := h
  exact ⟨es, clock, (heap_setCell_other w p g u hp).trans hh, he⟩

end
section
variable {P : Program} {k : TypeId} {α : Type} [DecidableEq α] {enc : α → Value} {w : World} {g : Nat} {m : List (α × Value)}
theorem find_some {m : List (α × Value)} {a : α} {i : Nat} (h : m.findIdx? (fun p => decide (p.1 = a)) = some i) : ∃ v, m[i]? = some (a, v) ∧ mget m a = some v := by
  rw [List.findIdx?_eq_some_iff_getElem] at h
  obtain ⟨hi, h1, h2⟩ := h
  have e : m[i].1 = a := by simpa using h1
  refine ⟨m[i].2, by rw [List.getElem?_eq_getElem hi]; exact congrArg some (Prod.ext e rfl), ?_⟩
  have : m.find? (fun p => decide (p.1 = a)) = some m[i] := by
    rw [List.find?_eq_some_iff_getElem]
    exact ⟨h1, i, hi, rfl, fun j hj => by have := h2 j hj; simpa using this⟩
  unfold mget; rw [this]; rfl
theorem find_none {m : List (α × Value)} {a : α} (h : m.findIdx? (fun p => decide (p.1 = a)) = none) : mget m a = none := by
  rw [List.findIdx?_eq_none_iff] at h
  unfold mget
  rw [List.find?_eq_none.2 (by intro x hx; have := h x hx; simp_all)]; rfl

/-- 'm[k]', 'v, ok := m[k]'. -/
theorem run_look (K : Keying P k α enc) {T el : TypeId} (hT : P.underlying T = some (.map k el)) (h : Mp w enc g m) (a : α) {z : Value} (hz : (zeroValue el).run P w = .ok z w) (ok : Bool) :
    (Instr.lookup T (.map (some g)) (enc a) ok).run P w = .ok (if ok then .tuple #[(mget m a).getD z, .bool (mget m a).isSome] else (mget m a).getD z) w := by
  obtain ⟨es, clock, hb, he⟩ := h
  have hf := K.find w a es.toList m he
  cases hi : m.findIdx? (fun p => decide (p.1 = a)) with
  | none =>
    rw [hi] at hf
    simp only [Instr.lookup, Sem.run_bind, run_underlying hT, Result.andThen_ok, MapKept.run_getObj_map hb, K.check, hf, Option.bind_none, hz, Sem.run_pure]
    rw [find_none hi]; cases ok <;> simp
  | some i =>
    obtain ⟨v, hv, hg⟩ := find_some hi
    rw [hi] at hf
    simp only [Instr.lookup, Sem.run_bind, run_underlying hT, Result.andThen_ok, MapKept.run_getObj_map hb, K.check, hf, Option.bind_some, hv, Option.map_some, Sem.run_pure]
    rw [hg]; cases ok <;> simp

/-- 'm[k] = v'. -/
theorem run_put (K : Keying P k α enc) {T el : TypeId} (hT : P.underlying T = some (.map k el)) (h : Mp w enc g m) (a : α) (v : Value) :
    ∃ w', (Instr.mapUpdate T (.map (some g)) (enc a) v).run P w = .ok () w' ∧ Mp w' enc g (mput m a v) ∧ w.grownBy w' (some g) ∧ w'.heap.size = w.heap.size := by
  obtain ⟨es, clock, hb, he⟩ := h
  have hf := K.find w a es.toList m he
  have hlen : es.size = m.length := by have := congrArg List.length he; simpa using this
  have hlt : g < w.heap.size := Mp.lt (enc := enc) ⟨es, clock, hb, he⟩
  have grow : ∀ o : Obj, w.grownBy { w with heap := w.heap.setIfInBounds g o } (some g) := fun o =>
    ⟨rfl, rfl, rfl, by simp, fun j _ hj => by
      have : g ≠ j := fun e => hj (by rw [e])
      simp [this]⟩
  cases hi : m.findIdx? (fun p => decide (p.1 = a)) with
  | none =>
    rw [hi] at hf
    refine ⟨{ w with heap := w.heap.setIfInBounds g (.map (es.push { key := enc a, val := v, born := clock }) (clock + 1)) }, ?_, ⟨es.push { key := enc a, val := v, born := clock }, clock + 1, by simp [hlt], ?_⟩, grow _, by simp⟩
    · simp only [Instr.mapUpdate, Sem.run_bind, run_underlying hT, Result.andThen_ok, MapKept.run_getObj_map hb, K.check, hf, Option.bind_none, MapKept.run_setObj_map _ hb]
    · unfold mput; rw [hi]
      simp [he]
  | some i =>
    obtain ⟨u, hv, hg⟩ := find_some hi
    rw [hi] at hf
    have him : i < m.length := by
      rcases Nat.lt_or_ge i m.length with h1 | h1
      · exact h1
      · rw [List.getElem?_eq_none h1] at hv; cases hv
    have hies : i < es.size := by omega
    have hkey : (es[i]?).map (·.key) = some (enc a) := by
      have h1 : (es.toList.map (fun e => (e.key, e.val)))[i]? = some (enc a, u) := by rw [he, List.getElem?_map, hv]; rfl
      rw [List.getElem?_map, Array.getElem?_toList, Array.getElem?_eq_getElem hies] at h1
      rw [Array.getElem?_eq_getElem hies]
      simp only [Option.map_some, Option.some.injEq, Prod.mk.injEq] at h1 ⊢
      exact h1.1
    refine ⟨{ w with heap := w.heap.setIfInBounds g (.map (es.modify i fun e => { e with key := enc a, val := v }) clock) }, ?_, ⟨es.modify i fun e => { e with key := enc a, val := v }, clock, by simp [hlt], ?_⟩, grow _, by simp⟩
    · simp only [Instr.mapUpdate, Sem.run_bind, run_underlying hT, Result.andThen_ok, MapKept.run_getObj_map hb, K.check, hf, Option.bind_some, hv, Option.map_some, hkey, Option.getD_some, K.stays, MapKept.run_setObj_map _ hb]
    · unfold mput; rw [hi]
      apply List.ext_getElem?
      intro j
      have h1 : (es.toList.map (fun e => (e.key, e.val)))[j]? = (m.map (fun p => (enc p.1, p.2)))[j]? := by rw [he]
      rw [List.getElem?_map, Array.getElem?_toList] at h1
      rw [List.getElem?_map, Array.getElem?_toList, Array.getElem?_modify, List.getElem?_map, List.getElem?_set]
      by_cases e : i = j
      · subst e
        simp [hies, him]
      · simp only [e, if_false]
        rw [h1, List.getElem?_map]
end
/-- How a list of entries is gone through, key by key. -/
theorem findAsking_run {P : Program} {k : TypeId} {α : Type} [DecidableEq α] {enc : α → Value} (heq : ∀ (w : World) (a b : α), (Op.equal k (enc a) (enc b)).run P w = .ok (decide (a = b)) w) (w : World) (a : α) :
    ∀ (es : List MapEntry) (m : List (α × Value)) (n : Nat), es.map (fun e => (e.key, e.val)) = m.map (fun p => (enc p.1, p.2)) →
    (Instr.findAsking k (enc a) es n).run P w = .ok ((m.findIdx? (fun p => decide (p.1 = a))).bind fun i => (m[i]?).map fun p => (n + i, p.2)) w
  | [], [], n, _ => by simp [Instr.findAsking]
  | [], _ :: _, _, h => by cases h
  | _ :: _, [], _, h => by cases h
  | e :: es, p :: m, n, h => by
    simp only [List.map_cons, List.cons.injEq, Prod.mk.injEq] at h
    obtain ⟨⟨h1, h2⟩, h3⟩ := h
    have hq : (Op.equal k (enc a) e.key).run P w = .ok (decide (a = p.1)) w := by rw [h1]; exact heq w a p.1
    have ih := findAsking_run heq w a es m (n + 1) h3
    by_cases ha : a = p.1
    · simp only [Instr.findAsking, Sem.run_bind, hq, Result.andThen_ok, decide_eq_true ha, decide_eq_true ha.symm, if_true, Sem.run_pure, List.findIdx?_cons]
      simp [h2]
    · have ha' : ¬ p.1 = a := fun e => ha e.symm
      simp only [Instr.findAsking, Sem.run_bind, hq, Result.andThen_ok, ha, decide_false, Bool.false_eq_true, if_false, ih, List.findIdx?_cons, ha']
      congr 1
      cases m.findIdx? (fun p => decide (p.1 = a)) with
      | none => rfl
      | some i => simp; congr 1; funext x; simp; omega
end Go.Proofs.YtjlpllnhefafkaaGreatDoor
namespace Go.Proofs.YtjlpllnhefafkaaGreatDoor
open Go Go.RowKit
def Ev.enc (e : Ev) : Value := .agg e.cells
set_option maxRecDepth 100000 in
set_option maxHeartbeats 1000000 in
theorem ev_equal (w : World) (e f : Ev) : (Op.equal 49 e.enc f.enc).run Tryz.prog w = .ok (decide (e = f)) w := by
  obtain ⟨a0, a1, a2, a3, a4, a5, a6, a7, a8, a9, a10, a11, a12, a13⟩ := e
  obtain ⟨b0, b1, b2, b3, b4, b5, b6, b7, b8, b9, b10, b11, b12, b13⟩ := f
  have h := run_evEq w a0 a1 a2 a3 a4 a5 a6 a7 a8 a9 a10 a11 a12 a13 b0 b1 b2 b3 b4 b5 b6 b7 b8 b9 b10 b11 b12 b13
  simp only [binOp, Sem.run_bind] at h
  show (Op.equal 49 (.agg #[.int .i64 a0, .int .i64 a1, .string a2, .string a3, .string a4, .string a5, .string a6, .string a7, .int .i64 a8, .int .i64 a9, .int .i64 a10, .int .i64 a11, .int .i64 a12, .int .i64 a13])
      (.agg #[.int .i64 b0, .int .i64 b1, .string b2, .string b3, .string b4, .string b5, .string b6, .string b7, .int .i64 b8, .int .i64 b9, .int .i64 b10, .int .i64 b11, .int .i64 b12, .int .i64 b13])).run Tryz.prog w = _
  generalize (Op.equal 49 _ _).run Tryz.prog w = r at h ⊢
  cases r with
  | ok x w1 =>
    simp only [Result.andThen_ok, Sem.run_pure, Result.ok.injEq, Value.bool.injEq] at h
    rw [h.1, h.2]; rfl
  | halt x w1 => simp [Result.andThen] at h
theorem ev_check (w : World) (em : Bool) (e : Ev) : (Instr.checkKey em 10000 49 e.enc).run Tryz.prog w = .ok () w := by
  obtain ⟨a0, a1, a2, a3, a4, a5, a6, a7, a8, a9, a10, a11, a12, a13⟩ := e
  kernel_rfl
theorem ev_stays (w : World) (e : Ev) : (Instr.keyThatStays e.enc e.enc).run Tryz.prog w = .ok e.enc w := by
  have h : Instr.sameBits 10000 e.enc e.enc = true := by
    simp [Ev.enc, Ev.cells, Instr.sameBits, beq_toListBytes]
  simp [Instr.keyThatStays, h]
theorem ev_keying : Keying Tryz.prog 49 Ev Ev.enc where
  check := ev_check
  stays := ev_stays
  find w a es m h := by
    have hf := findAsking_run ev_equal w a es m 0 h
    have : (Instr.findKey 49 a.enc es).run Tryz.prog w = (Instr.findAsking 49 a.enc es 0).run Tryz.prog w :=
      run_findKey_eq _ (by rw [Tryz.underlying49]) _ _
    rw [this, hf]
    simp
end Go.Proofs.YtjlpllnhefafkaaGreatDoor
namespace Go.Proofs.YtjlpllnhefafkaaGreatDoor
open Go Go.RowKit
def noEv : Ev := ⟨0, 0, ⟨#[]⟩, ⟨#[]⟩, ⟨#[]⟩, ⟨#[]⟩, ⟨#[]⟩, ⟨#[]⟩, 0, 0, 0, 0, 0, 0⟩
/-- Cells of a list of events. -/
def evF (l : List Ev) (j : Nat) : Value := ((l.getD (j / 14) noEv).cells[j % 14]?).getD undef
theorem evF_at (l : List Ev) (i j : Nat) (hj : j < 14) : evF l (i * 14 + j) = ((l.getD i noEv).cells[j]?).getD undef := by
  unfold evF
  rw [show (i * 14 + j) / 14 = i by omega, show (i * 14 + j) % 14 = j by omega]
/-- Element i of a slice of events lies there. -/
theorem ev_range {w : World} {b o n : Nat} {l : List Ev} (h : ∀ j, j < n * 14 → w.cell? ⟨b, o + j, none⟩ = some (evF l j)) {i : Nat} (hi : i < n) :
    w.rangeAt b (o + i * 14) (l.getD i noEv).cells.toList := by
  intro j v hv
  have hj : j < 14 := by
    rcases Nat.lt_or_ge j 14 with h1 | h1
    · exact h1
    · rw [List.getElem?_eq_none (by simpa [Ev.cells] using h1)] at hv; cases hv
  have := h (i * 14 + j) (by omega)
  rw [evF_at l i j hj] at this
  rw [Nat.add_assoc, this]
  rw [Array.getElem?_toList] at hv
  rw [hv]; rfl

/-- Is a report valid? -/
def repOk (l : List Ev) : Bool := decide (1 ≤ l.length ∧ l.length ≤ 4) && (l.all evOk && decide l.Nodup)
/-- The options that were seen so far. -/
def seenM (l : List Ev) : List (Ev × Value) := l.map fun e => (e, .bool true)
theorem seenM_get (l : List Ev) (e : Ev) : (mget (seenM l) e).getD (.bool false) = .bool (decide (e ∈ l)) := by
  unfold mget seenM
  induction l with
  | nil => rfl
  | cons a l ih =>
    by_cases h : a = e
    · subst h; simp
    · have : ¬ e = a := fun x => h x.symm
      simp only [List.map_cons, List.find?_cons, h, decide_false, List.mem_cons, this, false_or]
      exact ih
theorem seenM_put (l : List Ev) (e : Ev) (h : ¬ e ∈ l) : mput (seenM l) e (.bool true) = seenM (l ++ [e]) := by
  unfold mput
  have : (seenM l).findIdx? (fun p => decide (p.1 = e)) = none := by
    rw [List.findIdx?_eq_none_iff]
    intro x hx
    simp only [seenM, List.mem_map] at hx
    obtain ⟨a, ha, rfl⟩ := hx
    simp only [decide_eq_false_iff_not]
    rintro rfl; exact h ha
  rw [this]
  simp [seenM]

theorem zero_bool (w : World) : (zeroValue 4).run Tryz.prog w = .ok (.bool false) w := by kernel_rfl
theorem getD_mem {α : Type} (l : List α) (k : Nat) (d : α) (h : k < l.length) : l.getD k d ∈ l := by
  rw [List.getD_eq_getElem?_getD, List.getElem?_eq_getElem h]; exact List.getElem_mem h
theorem take_getD {α : Type} (l : List α) (k : Nat) (d : α) (h : k < l.length) : l.take (k + 1) = l.take k ++ [l.getD k d] := by
  rw [List.take_add_one, List.getElem?_eq_getElem h, List.getD_eq_getElem?_getD, List.getElem?_eq_getElem h]; rfl
theorem repOk_bad {l : List Ev} {e : Ev} (he : e ∈ l) (h : evOk e = false) : repOk l = false := by
  have : l.all evOk = false := by rw [List.all_eq_false]; exact ⟨e, he, by rw [h]; decide⟩
  unfold repOk; rw [this]; simp
theorem repOk_twice {l : List Ev} {k : Nat} (hk : k < l.length) (h : l.getD k noEv ∈ l.take k) : repOk l = false := by
  have : ¬ l.Nodup := fun hn => by
    have h1 : l.take (k + 1) = l.take k ++ [l.getD k noEv] := take_getD l k noEv hk
    have h2 : (l.take (k + 1)).Nodup := hn.sublist (List.take_sublist _ _)
    rw [h1, List.nodup_append] at h2
    exact h2.2.2 _ h _ (by simp) rfl
  unfold repOk; simp [this]

set_option maxRecDepth 100000 in
set_option maxHeartbeats 2000000 in
theorem repValid_any (v : Value) (l : List Ev) (d : Bool) (w : World) (hv : Sl w v l.length 14 (evF l)) (hs : ∀ e ∈ l, e.short) (hl : l.length ≤ 1000) :
    Calls Tryz.prog 14 #[.agg #[v, .bool d]] w fun r w' => r = .returned (.bool (repOk l)) ∧ Below w.heap.size w w' := by
  obtain ⟨A, c, rfl, hn, hc⟩ := hv
  by_cases h1 : l.length = 0
  · have hr := Lib.hid (show repOk l = false by simp [repOk, h1])
    go_enter Tryz.func14, Tryz.ntmps14
    go_wp2
    go_ret
    exact ⟨ret_bool (by rw [hr.out]), (Below.refl _ _).alloc (Nat.le_refl _) _⟩
  · have hb0 : ((l.length : Int) == 0) = false := by rw [beq_eq_false_iff_ne]; omega
    by_cases h4 : 4 < l.length
    · have hr := Lib.hid (show repOk l = false by simp [repOk]; omega)
      go_enter Tryz.func14, Tryz.ntmps14
      go_wp2
      go_ret
      exact ⟨ret_bool (by rw [hr.out]), (Below.refl _ _).alloc (Nat.le_refl _) _⟩
    · rcases hc with h0 | ⟨b, o, rfl, hc⟩
      · omega
      have h4' : (l.length : Int) ≤ 4 := by omega
      have hmm := @run_makeMap Tryz.prog
      have HC := Lib.hid hc
      have HS := Lib.hid hs
      clear hc hs
      go_enter Tryz.func14, Tryz.ntmps14
      go_wp2_with fail
      go_loopw [20] (fun i wr => ∃ k : Nat, k ≤ l.length ∧ i = .int .i64 k ∧ Mp wr Ev.enc (w.heap.size + 1) (seenM (l.take k)) ∧ Hid ((l.take k).all evOk = true ∧ (l.take k).Nodup) ∧ Below w.heap.size w wr ∧ w.heap.size + 2 ≤ wr.heap.size) (fun i _ => l.length - (intOf i).toNat)
      case atStart =>
        refine ⟨0, Nat.zero_le _, rfl, ?_, ⟨by simp, by simp⟩, ((Below.refl _ _).alloc (Nat.le_refl _) _).alloc (by simp) _, by simp⟩
        have h := Mp.new (w.alloc (.cells #[.slice (some ⟨b, o, none⟩) l.length c, .bool d] 31)) Ev.enc
        have e : (w.alloc (.cells #[.slice (some ⟨b, o, none⟩) l.length c, .bool d] 31)).heap.size = w.heap.size + 1 := by simp
        rw [e] at h
        exact h
      case round =>
        obtain ⟨k, hk, rfl, hM, hrel, hB, hZ⟩ := hrel
        by_cases hlt : k < l.length
        · have hrg : wr.rangeAt b (o + k * 14) (l.getD k noEv).cells.toList := ev_range (fun j hj => cell_later hB (HC.out j hj)) hlt
          have hshort := HS.out _ (getD_mem l k noEv hlt)
          have htake := Lib.hid (take_getD l k noEv hlt)
          have hbad := Lib.hid (fun h => repOk_bad (getD_mem l k noEv hlt) h)
          have htwice := Lib.hid (fun h => repOk_twice hlt h)
          have hget := Lib.hid (fun e => seenM_get (l.take k) e)
          have hput := Lib.hid (fun e => seenM_put (l.take k) e)
          have HM := Lib.hid hM
          have HB := Lib.hid hB
          clear hM hB
          generalize he : l.getD k noEv = e at *
          clear he
          obtain ⟨op, day, part, kind, into, slot, key, value, kl, kh, cl, ch, ll, lh⟩ := e
          replace hrg : wr.rangeAt b (o + k * 14) [.int .i64 op, .int .i64 day, .string part, .string kind, .string into, .string slot, .string key, .string value, .int .i64 kl, .int .i64 kh, .int .i64 cl, .int .i64 ch, .int .i64 ll, .int .i64 lh] := hrg
          have hM1 : Mp (wr.alloc (.cells #[.int .i64 op, .int .i64 day, .string part, .string kind, .string into, .string slot, .string key, .string value, .int .i64 kl, .int .i64 kh, .int .i64 cl, .int .i64 ch, .int .i64 ll, .int .i64 lh] 49)) Ev.enc (w.heap.size + 1) (seenM (l.take k)) := HM.out.alloc _
          have hL := run_look ev_keying Tryz.underlying56 hM1 ⟨op, day, part, kind, into, slot, key, value, kl, kh, cl, ch, ll, lh⟩ (zero_bool _) false
          rw [hget.out] at hL
          simp only [Ev.enc, Ev.cells, Bool.false_eq_true, if_false] at hL
          have HM1 := Lib.hid hM1
          clear hM1
          have hZ' : ¬ w.heap.size + 1 = wr.heap.size := by omega
          by_cases hmem : (⟨op, day, part, kind, into, slot, key, value, kl, kh, cl, ch, ll, lh⟩ : Ev) ∈ l.take k
          · rw [decide_eq_true hmem] at hL
            go_wp2_with ((with_reducible show wpList _ _ _ (Oper.mk (some 23) _ _ _ _ _ :: _) _ _); refine wpList_load_mid rfl 49 _ rfl b (o + k * 14) rfl _ _ hrg Tryz.underlying49 rfl rfl ?_)
            go_ret
            exact ⟨ret_bool (by rw [htwice.out hmem]), HB.out.alloc (by omega) _⟩
          · rw [decide_eq_false hmem] at hL
            cases hve : evOk ⟨op, day, part, kind, into, slot, key, value, kl, kh, cl, ch, ll, lh⟩
            · have hvv := Lib.hid hve
              clear hve
              go_wp2_with (first | ((with_reducible show wpList _ _ _ (Oper.mk (some 23) _ _ _ _ _ :: _) _ _); refine wpList_load_mid rfl 49 _ rfl b (o + k * 14) rfl _ _ hrg Tryz.underlying49 rfl rfl ?_) | (go_at_call 29; refine (valid_any ⟨op, day, part, kind, into, slot, key, value, kl, kh, cl, ch, ll, lh⟩ _ hshort).mono ?_; rintro e w2 ⟨rfl, hb2⟩; rw [hvv.out]; obtain ⟨hE2, hB2, hz2⟩ := boxed hb2; skip))
              go_ret
              exact ⟨ret_bool (by rw [hbad.out hvv.out]), HB.out.trans (hB2.mono (by omega))⟩
            · have hvv := Lib.hid hve
              clear hve
              go_wp2_with (first | ((with_reducible show wpList _ _ _ (Oper.mk (some 23) _ _ _ _ _ :: _) _ _); refine wpList_load_mid rfl 49 _ rfl b (o + k * 14) rfl _ _ hrg Tryz.underlying49 rfl rfl ?_) | (go_at_call 29; refine (valid_any ⟨op, day, part, kind, into, slot, key, value, kl, kh, cl, ch, ll, lh⟩ _ hshort).mono ?_; rintro e w2 ⟨rfl, hb2⟩; rw [hvv.out]; obtain ⟨hE2, hB2, hz2⟩ := boxed hb2; obtain ⟨hc2, hf2⟩ := hE2.facts; have hM2 := HM1.out.below hb2 (by simp; omega); obtain ⟨w3, hp3, hM3, hG3, hS3⟩ := run_put ev_keying Tryz.underlying56 hM2 ⟨op, day, part, kind, into, slot, key, value, kl, kh, cl, ch, ll, lh⟩ (.bool true); rw [hput.out _ hmem] at hM3; simp only [Ev.enc, Ev.cells] at hp3; have HM3 := Lib.hid hM3; have HG3 := Lib.hid hG3; have HS3 := Lib.hid hS3; have HB2 := Lib.hid hB2; clear hb2 hE2 hM2 hM3 hG3 hS3 hB2))
              go_roundw
              case rel => exact ⟨k + 1, by omega, by go_num, by rw [htake.out]; exact HM3.out, ⟨by rw [htake.out, List.all_append, hrel.out.1]; simp [hvv.out], by rw [htake.out, List.nodup_append]; exact ⟨hrel.out.2, by simp, fun a ha b hb => by simp at hb; subst hb; intro e; subst e; exact hmem ha⟩⟩, (HB.out.trans (HB2.out.mono (by omega))).grown HG3.out (by omega) (fun j hj => by cases hj; omega), by have := HS3.out; omega⟩
              case measure => simp [intOf]; omega
        · obtain rfl : k = l.length := by omega
          go_wp2_with fail
          go_ret
          exact ⟨ret_bool (by
            have := hrel.out
            rw [List.take_length] at this
            simp [repOk, this.1, this.2]; omega), hB⟩
end Go.Proofs.YtjlpllnhefafkaaGreatDoor
namespace Go.Proofs.YtjlpllnhefafkaaGreatDoor
open Go Go.RowKit
/-- How many choices a report has. -/
def numC (l : List Ev) (d : Bool) : Nat := if repOk l then l.length + (if d then 1 else 0) else 0
theorem numC_no {l : List Ev} {d : Bool} (h : repOk l = false) : numC l d = 0 := by simp [numC, h]
theorem numC_yes {l : List Ev} {d : Bool} (h : repOk l = true) : numC l d = l.length + (if d then 1 else 0) := by simp [numC, h]
theorem repOk_le {l : List Ev} (h : repOk l = true) : l.length ≤ 4 := by
  simp only [repOk, Bool.and_eq_true, decide_eq_true_eq] at h; exact h.1.2
theorem sl_len {w : World} {v : Value} {n sz : Nat} {f : Nat → Value} (h : Sl w v n sz f) : ∃ A c, v = .slice A n c ∧ n ≤ c := by
  obtain ⟨A, c, h1, h2, _⟩ := h; exact ⟨A, c, h1, h2⟩

set_option maxHeartbeats 1000000 in
theorem choices_any (v : Value) (l : List Ev) (d : Bool) (w : World) (hv : Sl w v l.length 14 (evF l)) (hs : ∀ e ∈ l, e.short) (hl : l.length ≤ 1000) :
    Calls Tryz.prog 16 #[.agg #[v, .bool d]] w fun r w' => r = .returned (.int .i64 (numC l d)) ∧ Below w.heap.size w w' := by
  have hv1 := fun o => hv.below (((Below.refl w.heap.size w).alloc (Nat.le_refl _) o))
  have HV := Lib.hid hv1
  obtain ⟨A, c, rfl, hn⟩ := sl_len hv
  clear hv hv1
  cases hr : repOk l
  · have hnum := Lib.hid (numC_no (d := d) hr)
    have HR := Lib.hid hr
    clear hr
    go_enter Tryz.func16, Tryz.ntmps16
    go_wp2_with (go_at_call 14; refine (repValid_any _ l d _ (HV.out _) hs hl).mono ?_; rintro e w2 ⟨rfl, hb2⟩; rw [HR.out]; obtain ⟨hE2, hB2, hz2⟩ := boxed hb2; obtain ⟨hc2, hf2⟩ := hE2.facts; have HB2 := Lib.hid hB2; clear hb2 hE2 hB2)
    go_ret
    exact ⟨by rw [hnum.out]; rfl, HB2.out⟩
  · have hnum := Lib.hid (numC_yes (d := d) hr)
    have hle := repOk_le hr
    have HR := Lib.hid hr
    clear hr
    cases d
    all_goals
      go_enter Tryz.func16, Tryz.ntmps16
      go_wp2_with (go_at_call 14; refine (repValid_any _ l _ _ (HV.out _) hs hl).mono ?_; rintro e w2 ⟨rfl, hb2⟩; rw [HR.out]; obtain ⟨hE2, hB2, hz2⟩ := boxed hb2; obtain ⟨hc2, hf2⟩ := hE2.facts; have HB2 := Lib.hid hB2; clear hb2 hE2 hB2)
      go_ret
      exact ⟨ret_int (by rw [hnum.out]; simp), HB2.out⟩

def shortB (e : Ev) : Bool := decide (e.part.size ≤ 300 ∧ e.kind.size ≤ 300 ∧ e.into.size ≤ 300 ∧ e.slot.size ≤ 300 ∧ e.key.size ≤ 300 ∧ e.value.size ≤ 300)
set_option maxHeartbeats 1000000 in
theorem short_any (e : Ev) (w : World) : Calls Tryz.prog 61 #[.agg e.cells] w fun r w' => r = .returned (.bool (shortB e)) ∧ Below w.heap.size w w' := by
  obtain ⟨op, day, part, kind, into, slot, key, value, kl, kh, cl, ch, ll, lh⟩ := e
  show Calls Tryz.prog 61 #[.agg #[.int .i64 op, .int .i64 day, .string part, .string kind, .string into, .string slot, .string key, .string value, .int .i64 kl, .int .i64 kh, .int .i64 cl, .int .i64 ch, .int .i64 ll, .int .i64 lh]] w _
  go_enter Tryz.func61, Tryz.ntmps61
  go_wp2
  all_goals
    go_ret
    refine ⟨ret_bool ?_, (Below.refl _ _).alloc (Nat.le_refl _) _⟩
    unfold shortB
    rw [Bool.eq_iff_iff]
    simp
    try omega
end Go.Proofs.YtjlpllnhefafkaaGreatDoor
namespace Go.Proofs.YtjlpllnhefafkaaGreatDoor
open Go Go.RowKit
def fewE (l : List Ev) (m : Nat) : Bool := (l.take (m + 1)).all shortB && decide (l.length ≤ m)
theorem fewE_bad {l : List Ev} {m k : Nat} (hk : k < l.length) (hm : k ≤ m) (h : shortB (l.getD k noEv) = false) : fewE l m = false := by
  have : (l.take (m + 1)).all shortB = false := by
    rw [List.all_eq_false]
    refine ⟨l.getD k noEv, ?_, by rw [h]; decide⟩
    rw [List.getD_eq_getElem?_getD, List.getElem?_eq_getElem hk]
    exact List.mem_take_iff_getElem.2 ⟨k, by omega, rfl⟩
  unfold fewE; rw [this]; rfl
theorem fewE_end {l : List Ev} {m k : Nat} (hk : l.length ≤ k ∨ m < k) (h : ∀ e ∈ l.take k, shortB e = true) : fewE l m = decide (l.length ≤ m) := by
  have : (l.take (m + 1)).all shortB = true := by
    rw [List.all_eq_true]
    intro e he
    apply h
    rcases hk with hk | hk
    · rw [List.take_of_length_le hk]; exact List.mem_of_mem_take he
    · exact (List.take_subset_take_left l (by omega : m + 1 ≤ k)) he
  unfold fewE; rw [this]; rfl
set_option maxRecDepth 100000 in
set_option maxHeartbeats 1000000 in
theorem fewEv_any (v : Value) (l : List Ev) (m : Nat) (w : World) (hv : Sl w v l.length 14 (evF l)) (hl : l.length ≤ 9223372036854775807) (_hm : m ≤ 1000) :
    Calls Tryz.prog 35 #[v, .int .i64 m] w fun r w' => r = .returned (.bool (fewE l m)) ∧ Below w.heap.size w w' := by
  obtain ⟨A, c, rfl, hn, hc⟩ := hv
  have HC := Lib.hid hc
  clear hc
  go_enter Tryz.func35, Tryz.ntmps35
  go_wp2_with fail
  go_loopw [5] (fun i wr => ∃ k : Nat, k ≤ l.length ∧ k ≤ m + 1 ∧ i = .int .i64 k ∧ Hid (∀ e ∈ l.take k, shortB e = true) ∧ Below w.heap.size w wr) (fun i _ => l.length - (intOf i).toNat)
  case atStart => exact ⟨0, Nat.zero_le _, Nat.zero_le _, rfl, fun e he => by simp at he, Below.refl _ _⟩
  case round =>
    obtain ⟨k, hk, hkm, rfl, hrel, hB⟩ := hrel
    have HB := Lib.hid hB
    clear hB
    by_cases hlt : k < l.length
    · by_cases hkm' : k ≤ m
      · rcases HC.out with h0 | ⟨b, o, rfl, hc⟩
        · omega
        have hrg : wr.rangeAt b (o + k * 14) (l.getD k noEv).cells.toList := ev_range (fun j hj => cell_later HB.out (hc j hj)) hlt
        have hbad := Lib.hid (fun h => fewE_bad hlt hkm' h)
        have htake := Lib.hid (take_getD l k noEv hlt)
        clear hc
        generalize l.getD k noEv = e at *
        cases hsh : shortB e
        · have HS := Lib.hid hsh
          clear hsh
          go_wp2_with (first | ((with_reducible show wpList _ _ _ (Oper.mk (some 20) _ _ _ _ _ :: _) _ _); refine wpList_load_mid rfl 49 _ rfl b (o + k * 14) rfl _ _ hrg Tryz.underlying49 rfl rfl ?_) | (go_at_call 61; refine (short_any e _).mono ?_; rintro r w2 ⟨rfl, hb2⟩; rw [HS.out]; have HB2 := Lib.hid hb2; clear hb2))
          go_ret
          exact ⟨ret_bool (by rw [hbad.out HS.out]), HB.out.trans (HB2.out.mono HB.out.size)⟩
        · have HS := Lib.hid hsh
          clear hsh
          go_wp2_with (first | ((with_reducible show wpList _ _ _ (Oper.mk (some 20) _ _ _ _ _ :: _) _ _); refine wpList_load_mid rfl 49 _ rfl b (o + k * 14) rfl _ _ hrg Tryz.underlying49 rfl rfl ?_) | (go_at_call 61; refine (short_any e _).mono ?_; rintro r w2 ⟨rfl, hb2⟩; rw [HS.out]; have HB2 := Lib.hid hb2; clear hb2))
          go_roundw
          case rel => exact ⟨k + 1, by omega, by omega, by go_num, (by
            intro a ha
            rw [htake.out, List.mem_append, List.mem_singleton] at ha
            rcases ha with ha | rfl
            · exact hrel.out a ha
            · exact HS.out), HB.out.trans (HB2.out.mono HB.out.size)⟩
          case measure => simp [intOf]; omega
      · have hfin := Lib.hid (fewE_end (l := l) (m := m) (.inr (by omega)) hrel.out)
        go_wp2_with fail
        go_ret
        exact ⟨ret_bool (by rw [hfin.out]; try simp), HB.out⟩
    · have hfin := Lib.hid (fewE_end (l := l) (m := m) (.inl (by omega)) hrel.out)
      obtain rfl : k = l.length := by omega
      go_wp2_with fail
      go_ret
      exact ⟨ret_bool (by rw [hfin.out]; try simp), HB.out⟩

/-- A report. -/
structure Rep where
  opts : List Ev
  doubt : Bool
  deriving DecidableEq
def noRep : Rep := ⟨[], false⟩
/-- A slice of reports that reads as L. -/
def Reps (w : World) (v : Value) (L : List Rep) : Prop :=
  ∃ A c, v = .slice A L.length c ∧ L.length ≤ c ∧ (L.length = 0 ∨ ∃ b o, A = some ⟨b, o, none⟩ ∧ ∀ i, i < L.length →
    ∃ sv, w.cell? ⟨b, o + i * 2, none⟩ = some sv ∧ w.cell? ⟨b, o + i * 2 + 1, none⟩ = some (.bool (L.getD i noRep).doubt) ∧ Sl w sv (L.getD i noRep).opts.length 14 (evF (L.getD i noRep).opts))
theorem Reps.below {w w' : World} {v : Value} {L : List Rep} (h : Reps w v L) (hb : Below w.heap.size w w') : Reps w' v L := by
  obtain ⟨A, c, hv, hn, h0 | ⟨b, o, hA, hc⟩⟩ := h
  · exact ⟨A, c, hv, hn, .inl h0⟩
  · refine ⟨A, c, hv, hn, .inr ⟨b, o, hA, fun i hi => ?_⟩⟩
    obtain ⟨sv, h1, h2, h3⟩ := hc i hi
    exact ⟨sv, cell_later hb h1, cell_later hb h2, h3.below hb⟩

def fewR (L : List Rep) (m : Nat) : Bool := decide (L.length ≤ m) && L.all (fun r => fewE r.opts 6)
theorem fewR_bad {L : List Rep} {m k : Nat} (hk : k < L.length) (h : fewE (L.getD k noRep).opts 6 = false) : fewR L m = false := by
  have : L.all (fun r => fewE r.opts 6) = false := by
    rw [List.all_eq_false]; exact ⟨_, getD_mem L k noRep hk, by rw [h]; decide⟩
  unfold fewR; rw [this]; simp
theorem fewR_end {L : List Rep} {m : Nat} (h : ∀ r ∈ L, fewE r.opts 6 = true) : fewR L m = decide (L.length ≤ m) := by
  have : L.all (fun r => fewE r.opts 6) = true := by rw [List.all_eq_true]; exact h
  unfold fewR; rw [this]; simp
set_option maxRecDepth 100000 in
set_option maxHeartbeats 1000000 in
theorem fewRep_any (v : Value) (L : List Rep) (m : Nat) (w : World) (hv : Reps w v L) (hl : L.length ≤ 9223372036854775807) (ho : ∀ r ∈ L, r.opts.length ≤ 9223372036854775807) (hm : m ≤ 1000) :
    Calls Tryz.prog 21 #[v, .int .i64 m] w fun r w' => r = .returned (.bool (fewR L m)) ∧ Below w.heap.size w w' := by
  obtain ⟨A, c, rfl, hn, hc⟩ := hv
  have HC := Lib.hid hc
  have HO := Lib.hid ho
  clear hc ho
  by_cases hlm : L.length ≤ m
  · go_enter Tryz.func21, Tryz.ntmps21
    go_wp2_with fail
    go_loopw [5] (fun i wr => ∃ k : Nat, k ≤ L.length ∧ i = .int .i64 k ∧ Hid (∀ r ∈ L.take k, fewE r.opts 6 = true) ∧ Below w.heap.size w wr) (fun i _ => L.length - (intOf i).toNat)
    case atStart => exact ⟨0, Nat.zero_le _, rfl, fun e he => by simp at he, Below.refl _ _⟩
    case round =>
      obtain ⟨k, hk, rfl, hrel, hB⟩ := hrel
      by_cases hlt : k < L.length
      · rcases HC.out with h0 | ⟨b, o, rfl, hc⟩
        · omega
        obtain ⟨sv, hc1, _, hc3⟩ := hc k hlt
        have hsv := hc3.below hB
        have hcell : wr.cell? ⟨b, o + k * 2, none⟩ = some sv := cell_later hB hc1
        have HSV := Lib.hid hsv
        have hbad := Lib.hid (fun h => fewR_bad (m := m) hlt h)
        have htake := Lib.hid (take_getD L k noRep hlt)
        have hol := HO.out _ (getD_mem L k noRep hlt)
        have HB := Lib.hid hB
        clear hc hc1 hc3 hB hsv
        generalize L.getD k noRep = r at *
        obtain ⟨A', c', rfl, hn'⟩ := sl_len HSV.out
        cases hsh : fewE r.opts 6
        · have HS := Lib.hid hsh
          clear hsh
          go_wp2_with (go_at_call 35; refine (fewEv_any _ r.opts 6 _ HSV.out hol (by omega)).mono ?_; rintro q w2 ⟨rfl, hb2⟩; rw [HS.out]; have HB2 := Lib.hid hb2; clear hb2)
          go_ret
          exact ⟨ret_bool (by rw [hbad.out HS.out]), HB.out.trans (HB2.out.mono HB.out.size)⟩
        · have HS := Lib.hid hsh
          clear hsh
          go_wp2_with (go_at_call 35; refine (fewEv_any _ r.opts 6 _ HSV.out hol (by omega)).mono ?_; rintro q w2 ⟨rfl, hb2⟩; rw [HS.out]; have HB2 := Lib.hid hb2; clear hb2)
          go_roundw
          case rel => exact ⟨k + 1, by omega, by go_num, (by
            intro a ha
            rw [htake.out, List.mem_append, List.mem_singleton] at ha
            rcases ha with ha | rfl
            · exact hrel.out a ha
            · exact HS.out), HB.out.trans (HB2.out.mono HB.out.size)⟩
          case measure => simp [intOf]; omega
      · obtain rfl : k = L.length := by omega
        have hfin := Lib.hid (fewR_end (L := L) (m := m) (by have := hrel.out; rwa [List.take_length] at this))
        have HB := Lib.hid hB
        clear hB
        go_wp2_with fail
        go_ret
        exact ⟨ret_bool (by rw [hfin.out]; simp [hlm]), HB.out⟩
  · have hfin := Lib.hid (show fewR L m = false by simp [fewR, hlm])
    go_enter Tryz.func21, Tryz.ntmps21
    go_wp2_with fail
    refine wp_loop_rounds 1 ?_
    rw [rounds_succ]
    go_wp2_with fail
    go_ret
    exact ⟨ret_bool (by rw [hfin.out]), Below.refl _ _⟩
/-- few: at most 12 reports of a moderate size, at most 30 numbers. -/
def fewB (L : List Rep) (n : Nat) : Bool := fewR L 12 && decide (n ≤ 30)
theorem few_any (v u : Value) (L : List Rep) (n c : Nat) (B : Option Addr) (w : World) (hu : u = .slice B n c) (hv : Reps w v L) (hl : L.length ≤ 9223372036854775807) (ho : ∀ r ∈ L, r.opts.length ≤ 9223372036854775807) :
    Calls Tryz.prog 5 #[v, u] w fun r w' => r = .returned (.bool (fewB L n)) ∧ Below w.heap.size w w' := by
  subst hu
  have HV := Lib.hid hv
  have HO := Lib.hid ho
  clear hv ho
  cases hf : fewR L 12
  · have hr := Lib.hid (show fewB L n = false by simp [fewB, hf])
    have HF := Lib.hid hf
    clear hf
    go_enter Tryz.func5, Tryz.ntmps5
    go_wp2_with (go_at_call 21; refine (fewRep_any _ L 12 _ HV.out hl HO.out (by omega)).mono ?_; rintro q w2 ⟨rfl, hb2⟩; rw [HF.out])
    go_ret
    exact ⟨ret_bool (by rw [hr.out]), hb2⟩
  · have hr := Lib.hid (show fewB L n = decide (n ≤ 30) by simp [fewB, hf])
    have HF := Lib.hid hf
    clear hf
    go_enter Tryz.func5, Tryz.ntmps5
    go_wp2_with (go_at_call 21; refine (fewRep_any _ L 12 _ HV.out hl HO.out (by omega)).mono ?_; rintro q w2 ⟨rfl, hb2⟩; rw [HF.out])
    go_ret
    exact ⟨ret_bool (by rw [hr.out]; simp; try omega), hb2⟩
end Go.Proofs.YtjlpllnhefafkaaGreatDoor
