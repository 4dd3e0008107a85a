/- bogielaw09.EventDays returns true. Condition: the table of powers of ten, the error variables. -/
import Derived.Test.YtjlpllnhefafkaaDoorU08
import Derived.Test.YtjlpllnhefafkaaDoorXF
namespace Go.Proofs.YtjlpllnhefafkaaDoor
open Go Go.RowKit
/-- Whether an event is valid, and its names, do not depend on which day it is. -/
theorem ok_days (op a b : Int) (part kind into slot key value : ByteArray) (kl kh cl ch ll lh : Int) (ha : 0 ≤ a ∧ a ≤ 40000) (hb : 0 ≤ b ∧ b ≤ 40000) : evOk ⟨op, a, part, kind, into, slot, key, value, kl, kh, cl, ch, ll, lh⟩ = evOk ⟨op, b, part, kind, into, slot, key, value, kl, kh, cl, ch, ll, lh⟩ := by
  have h : evRest ⟨op, a, part, kind, into, slot, key, value, kl, kh, cl, ch, ll, lh⟩ = evRest ⟨op, b, part, kind, into, slot, key, value, kl, kh, cl, ch, ll, lh⟩ := rfl
  unfold evOk
  rw [h]
  simp only [decide_eq_true ha, decide_eq_true hb]
theorem names_days (op a b : Int) (part kind into slot key value : ByteArray) (kl kh cl ch ll lh : Int) (ha : 0 ≤ a ∧ a ≤ 40000) (hb : 0 ≤ b ∧ b ≤ 40000) : evNames ⟨op, a, part, kind, into, slot, key, value, kl, kh, cl, ch, ll, lh⟩ = evNames ⟨op, b, part, kind, into, slot, key, value, kl, kh, cl, ch, ll, lh⟩ := by
  unfold evNames
  rw [ok_days op a b part kind into slot key value kl kh cl ch ll lh ha hb]
theorem short_max {e : Ev} (h : shortB e = true) : e.short := by
  have h := of_decide_eq_true h
  unfold Ev.short maxLen
  omega
theorem short_day (op a b : Int) (part kind into slot key value : ByteArray) (kl kh cl ch ll lh : Int) : Ev.short ⟨op, a, part, kind, into, slot, key, value, kl, kh, cl, ch, ll, lh⟩ → Ev.short ⟨op, b, part, kind, into, slot, key, value, kl, kh, cl, ch, ll, lh⟩ := id
theorem share2 {A G : Nat → Nat → World → Prop} {p : Prop} (h1 : (∀ a b V, A a b V → G a b V) → p) (h2 : ∀ a b V, A a b V → G a b V) : p := h1 h2
set_option maxRecDepth 100000 in
set_option maxHeartbeats 8000000 in
theorem days_any (e : Ev) (d1 d2 : Int) (hd1 : 0 ≤ d1 ∧ d1 ≤ 65535) (hd2 : 0 ≤ d2 ∧ d2 ≤ 65535) (w : World) (ht : Tab w) (hv : Evs w) :
    Calls Tryd.prog 3 #[.agg e.cells, .int .u16 d1, .int .u16 d2] w fun r w' => r = .returned (.bool true) ∧ Below w.heap.size w w' := by
  obtain ⟨op, day, part, kind, into, slot, key, value, kl, kh, cl, ch, ll, lh⟩ := e
  show Calls Tryd.prog 3 #[.agg #[.int .i64 op, .int .i64 day, .string part, .string kind, .string into, .string slot, .string key, .string value, .int .i64 kl, .int .i64 kh, .int .i64 cl, .int .i64 ch, .int .i64 ll, .int .i64 lh], .int .u16 d1, .int .u16 d2] w fun r w' => r = .returned (.bool true) ∧ Below w.heap.size w w'
  have HHD := Lib.hid (fun W (hb : Below w.heap.size w W) => head9_any w W ht hv hb)
  have HSH := Lib.hid (fun W => short_any ⟨op, day, part, kind, into, slot, key, value, kl, kh, cl, ch, ll, lh⟩ W)
  clear ht hv
  cases hsh : shortB ⟨op, day, part, kind, into, slot, key, value, kl, kh, cl, ch, ll, lh⟩ with
  | false =>
    rw [hsh] at HSH
    clear hsh
    go_enter Tryd.func3, Tryd.ntmps3
    go_wp2_with (first | (go_at_call 5; refine (HHD.out _ ((Below.refl _ _).alloc (Nat.le_refl _) _)).mono ?_; rintro e w4 ⟨rfl, hb⟩; have HB4 := Lib.hid (((Below.refl w.heap.size w).alloc (Nat.le_refl _) (.cells #[.int .i64 op, .int .i64 day, .string part, .string kind, .string into, .string slot, .string key, .string value, .int .i64 kl, .int .i64 kh, .int .i64 cl, .int .i64 ch, .int .i64 ll, .int .i64 lh] 27)).trans (hb.mono (by simp))); have HX4 := Lib.hid ((Has.new w 27 #[.int .i64 op, .int .i64 day, .string part, .string kind, .string into, .string slot, .string key, .string value, .int .i64 kl, .int .i64 kh, .int .i64 cl, .int .i64 ch, .int .i64 ll, .int .i64 lh]).below hb (by simp)); obtain ⟨x4, y4⟩ := HX4.out.facts; clear hb) | (go_at_call 6; refine (HSH.out _).mono ?_; rintro e w5 ⟨rfl, hb⟩; have HB5 := Lib.hid (HB4.out.trans (hb.mono HB4.out.size)); clear hb))
    refine bodyPost_ret (v := .bool true) (by simp [results, Tryd.results3, go_sem]) rfl ?_
    exact ⟨rfl, HB5.out⟩
  | true =>
    have HSM := Lib.hid (short_max hsh)
    rw [hsh] at HSH
    clear hsh
    go_enter Tryd.func3, Tryd.ntmps3
    go_wp2_with (first | (go_at_call 5; refine (HHD.out _ ((Below.refl _ _).alloc (Nat.le_refl _) _)).mono ?_; rintro e w4 ⟨rfl, hb⟩; have HB4 := Lib.hid (((Below.refl w.heap.size w).alloc (Nat.le_refl _) (.cells #[.int .i64 op, .int .i64 day, .string part, .string kind, .string into, .string slot, .string key, .string value, .int .i64 kl, .int .i64 kh, .int .i64 cl, .int .i64 ch, .int .i64 ll, .int .i64 lh] 27)).trans (hb.mono (by simp))); have HX4 := Lib.hid ((Has.new w 27 #[.int .i64 op, .int .i64 day, .string part, .string kind, .string into, .string slot, .string key, .string value, .int .i64 kl, .int .i64 kh, .int .i64 cl, .int .i64 ch, .int .i64 ll, .int .i64 lh]).below hb (by simp)); obtain ⟨x4, y4⟩ := HX4.out.facts; clear hb) | (go_at_call 6; refine (HSH.out _).mono ?_; rintro e w5 ⟨rfl, hb⟩; have HB5 := Lib.hid (HB4.out.trans (hb.mono HB4.out.size)); have HX := Lib.hid (HX4.out.below hb HX4.out.lt); clear hb x4 y4))
    apply share2 (A := fun a b V => a ≠ b ∧ w.heap.size ≤ a ∧ w.heap.size ≤ b ∧ Hid (Has V a 27 #[.int .i64 op, .int .i64 day, .string part, .string kind, .string into, .string slot, .string key, .string value, .int .i64 kl, .int .i64 kh, .int .i64 cl, .int .i64 ch, .int .i64 ll, .int .i64 lh]) ∧ Hid (Has V b 27 #[.int .i64 op, .int .i64 day, .string part, .string kind, .string into, .string slot, .string key, .string value, .int .i64 kl, .int .i64 kh, .int .i64 cl, .int .i64 ch, .int .i64 ll, .int .i64 lh]) ∧ Hid (Below w.heap.size w V))
    case h1 =>
      intro REST
      refine wp_region_held_drew (S := fun W => W.cell? ⟨w.heap.size, 0, none⟩ = some (.int .i64 op) ∧ W.cell? ⟨w.heap.size, 1, none⟩ = some (.int .i64 day) ∧ W.cell? ⟨w.heap.size, 2, none⟩ = some (.string part) ∧ W.cell? ⟨w.heap.size, 3, none⟩ = some (.string kind) ∧ W.cell? ⟨w.heap.size, 4, none⟩ = some (.string into) ∧ W.cell? ⟨w.heap.size, 5, none⟩ = some (.string slot) ∧ W.cell? ⟨w.heap.size, 6, none⟩ = some (.string key) ∧ W.cell? ⟨w.heap.size, 7, none⟩ = some (.string value) ∧ W.cell? ⟨w.heap.size, 8, none⟩ = some (.int .i64 kl) ∧ W.cell? ⟨w.heap.size, 9, none⟩ = some (.int .i64 kh) ∧ W.cell? ⟨w.heap.size, 10, none⟩ = some (.int .i64 cl) ∧ W.cell? ⟨w.heap.size, 11, none⟩ = some (.int .i64 ch) ∧ W.cell? ⟨w.heap.size, 12, none⟩ = some (.int .i64 ll) ∧ W.cell? ⟨w.heap.size, 13, none⟩ = some (.int .i64 lh)) (by kernel_rfl) (⟨(HX.out.drew).facts.1 0, (HX.out.drew).facts.1 1, (HX.out.drew).facts.1 2, (HX.out.drew).facts.1 3, (HX.out.drew).facts.1 4, (HX.out.drew).facts.1 5, (HX.out.drew).facts.1 6, (HX.out.drew).facts.1 7, (HX.out.drew).facts.1 8, (HX.out.drew).facts.1 9, (HX.out.drew).facts.1 10, (HX.out.drew).facts.1 11, (HX.out.drew).facts.1 12, (HX.out.drew).facts.1 13⟩) (fun hHeld => ?_)
      refine plI [(0, false), (1, false)] ?_
      repeat ((first | ((with_reducible show Plan ((_, true) :: _) _); refine plF ?_) | (refine plR (v := ?_) ?_ ?_; rotate_left; focus (intro W hSW; (try dsimp only at hSW); go_simp; all_goals (with_reducible rfl)))); try simp only [Act.put, List.setIfInBounds_toArray, List.set_cons_zero, List.set_cons_succ])
      refine plE ?_
      refine wpAnyH_ready (rs := [2, 3]) (by kernel_rfl) (by simp) ?_
      refine AllReadyH.cons (o := ⟨_, _, _, _, _, _⟩) rfl (fun K hK => ?_) ?_
      · go_simp
        have HA2 := Lib.hid (show Has (w5.drew.alloc (.cells #[.int .i64 0, .int .i64 0, .string ⟨#[]⟩, .string ⟨#[]⟩, .string ⟨#[]⟩, .string ⟨#[]⟩, .string ⟨#[]⟩, .string ⟨#[]⟩, .int .i64 0, .int .i64 0, .int .i64 0, .int .i64 0, .int .i64 0, .int .i64 0] 27)) w5.heap.size 27 #[.int .i64 0, .int .i64 0, .string ⟨#[]⟩, .string ⟨#[]⟩, .string ⟨#[]⟩, .string ⟨#[]⟩, .string ⟨#[]⟩, .string ⟨#[]⟩, .int .i64 0, .int .i64 0, .int .i64 0, .int .i64 0, .int .i64 0, .int .i64 0] from Has.new w5.drew 27 #[.int .i64 0, .int .i64 0, .string ⟨#[]⟩, .string ⟨#[]⟩, .string ⟨#[]⟩, .string ⟨#[]⟩, .string ⟨#[]⟩, .string ⟨#[]⟩, .int .i64 0, .int .i64 0, .int .i64 0, .int .i64 0, .int .i64 0, .int .i64 0])
        have HX1 := Lib.hid (HX.out.drew.alloc (.cells #[.int .i64 0, .int .i64 0, .string ⟨#[]⟩, .string ⟨#[]⟩, .string ⟨#[]⟩, .string ⟨#[]⟩, .string ⟨#[]⟩, .string ⟨#[]⟩, .int .i64 0, .int .i64 0, .int .i64 0, .int .i64 0, .int .i64 0, .int .i64 0] 27))
        have HC1 := Lib.hid ((Below.refl w5.heap.size w5).drew.alloc (Nat.le_refl _) (.cells #[.int .i64 0, .int .i64 0, .string ⟨#[]⟩, .string ⟨#[]⟩, .string ⟨#[]⟩, .string ⟨#[]⟩, .string ⟨#[]⟩, .string ⟨#[]⟩, .int .i64 0, .int .i64 0, .int .i64 0, .int .i64 0, .int .i64 0, .int .i64 0] 27))
        refine hK.out _ _ (⟨(HX1.out).facts.1 0, (HX1.out).facts.1 1, (HX1.out).facts.1 2, (HX1.out).facts.1 3, (HX1.out).facts.1 4, (HX1.out).facts.1 5, (HX1.out).facts.1 6, (HX1.out).facts.1 7, (HX1.out).facts.1 8, (HX1.out).facts.1 9, (HX1.out).facts.1 10, (HX1.out).facts.1 11, (HX1.out).facts.1 12, (HX1.out).facts.1 13⟩) (fun hHeld => ?_)
        clear hK K
        try simp only [Act.put, List.setIfInBounds_toArray, List.set_cons_zero, List.set_cons_succ]
        refine wpAnyH_ready (rs := [3]) (by kernel_rfl) (by simp) ?_
        refine AllReadyH.cons (o := ⟨_, _, _, _, _, _⟩) rfl (fun K hK => ?_) AllReadyH.nil
        go_simp
        have HA3 := Lib.hid (show Has ((w5.drew.alloc (.cells #[.int .i64 0, .int .i64 0, .string ⟨#[]⟩, .string ⟨#[]⟩, .string ⟨#[]⟩, .string ⟨#[]⟩, .string ⟨#[]⟩, .string ⟨#[]⟩, .int .i64 0, .int .i64 0, .int .i64 0, .int .i64 0, .int .i64 0, .int .i64 0] 27)).alloc (.cells #[.int .i64 0, .int .i64 0, .string ⟨#[]⟩, .string ⟨#[]⟩, .string ⟨#[]⟩, .string ⟨#[]⟩, .string ⟨#[]⟩, .string ⟨#[]⟩, .int .i64 0, .int .i64 0, .int .i64 0, .int .i64 0, .int .i64 0, .int .i64 0] 27)) (w5.heap.size + 1) 27 #[.int .i64 0, .int .i64 0, .string ⟨#[]⟩, .string ⟨#[]⟩, .string ⟨#[]⟩, .string ⟨#[]⟩, .string ⟨#[]⟩, .string ⟨#[]⟩, .int .i64 0, .int .i64 0, .int .i64 0, .int .i64 0, .int .i64 0, .int .i64 0] from by have h := Has.new (w5.drew.alloc (.cells #[.int .i64 0, .int .i64 0, .string ⟨#[]⟩, .string ⟨#[]⟩, .string ⟨#[]⟩, .string ⟨#[]⟩, .string ⟨#[]⟩, .string ⟨#[]⟩, .int .i64 0, .int .i64 0, .int .i64 0, .int .i64 0, .int .i64 0, .int .i64 0] 27)) 27 #[.int .i64 0, .int .i64 0, .string ⟨#[]⟩, .string ⟨#[]⟩, .string ⟨#[]⟩, .string ⟨#[]⟩, .string ⟨#[]⟩, .string ⟨#[]⟩, .int .i64 0, .int .i64 0, .int .i64 0, .int .i64 0, .int .i64 0, .int .i64 0]; rwa [World.size_alloc] at h)
        replace HA2 := Lib.hid (HA2.out.alloc (.cells #[.int .i64 0, .int .i64 0, .string ⟨#[]⟩, .string ⟨#[]⟩, .string ⟨#[]⟩, .string ⟨#[]⟩, .string ⟨#[]⟩, .string ⟨#[]⟩, .int .i64 0, .int .i64 0, .int .i64 0, .int .i64 0, .int .i64 0, .int .i64 0] 27))
        have HX2 := Lib.hid (HX1.out.alloc (.cells #[.int .i64 0, .int .i64 0, .string ⟨#[]⟩, .string ⟨#[]⟩, .string ⟨#[]⟩, .string ⟨#[]⟩, .string ⟨#[]⟩, .string ⟨#[]⟩, .int .i64 0, .int .i64 0, .int .i64 0, .int .i64 0, .int .i64 0, .int .i64 0] 27))
        have HC2 := Lib.hid (HC1.out.alloc HC1.out.size (.cells #[.int .i64 0, .int .i64 0, .string ⟨#[]⟩, .string ⟨#[]⟩, .string ⟨#[]⟩, .string ⟨#[]⟩, .string ⟨#[]⟩, .string ⟨#[]⟩, .int .i64 0, .int .i64 0, .int .i64 0, .int .i64 0, .int .i64 0, .int .i64 0] 27))
        refine hK.out _ _ (⟨(HX2.out).facts.1 0, (HX2.out).facts.1 1, (HX2.out).facts.1 2, (HX2.out).facts.1 3, (HX2.out).facts.1 4, (HX2.out).facts.1 5, (HX2.out).facts.1 6, (HX2.out).facts.1 7, (HX2.out).facts.1 8, (HX2.out).facts.1 9, (HX2.out).facts.1 10, (HX2.out).facts.1 11, (HX2.out).facts.1 12, (HX2.out).facts.1 13⟩) (fun hHeld => ?_)
        clear hK K
        try simp only [Act.put, List.setIfInBounds_toArray, List.set_cons_zero, List.set_cons_succ]
        refine wpAnyH_ready (rs := [4]) (by kernel_rfl) (by simp) ?_
        refine AllReadyH.cons (o := ⟨_, _, _, _, _, _⟩) rfl (fun K hK => ?_) AllReadyH.nil
        obtain ⟨x2, y2⟩ := HA2.out.facts
        go_simp
        have HX3 := Lib.hid (show Has (((w5.alloc (.cells #[.int .i64 op, .int .i64 day, .string part, .string kind, .string into, .string slot, .string key, .string value, .int .i64 kl, .int .i64 kh, .int .i64 cl, .int .i64 ch, .int .i64 ll, .int .i64 lh] 27)).alloc (.cells #[.int .i64 0, .int .i64 0, .string ⟨#[]⟩, .string ⟨#[]⟩, .string ⟨#[]⟩, .string ⟨#[]⟩, .string ⟨#[]⟩, .string ⟨#[]⟩, .int .i64 0, .int .i64 0, .int .i64 0, .int .i64 0, .int .i64 0, .int .i64 0] 27)).drew) w.heap.size 27 #[.int .i64 op, .int .i64 day, .string part, .string kind, .string into, .string slot, .string key, .string value, .int .i64 kl, .int .i64 kh, .int .i64 cl, .int .i64 ch, .int .i64 ll, .int .i64 lh] from (HX.out.alloc _).alloc _)
        have HC3 := Lib.hid (show Has (((w5.alloc (.cells #[.int .i64 op, .int .i64 day, .string part, .string kind, .string into, .string slot, .string key, .string value, .int .i64 kl, .int .i64 kh, .int .i64 cl, .int .i64 ch, .int .i64 ll, .int .i64 lh] 27)).alloc (.cells #[.int .i64 0, .int .i64 0, .string ⟨#[]⟩, .string ⟨#[]⟩, .string ⟨#[]⟩, .string ⟨#[]⟩, .string ⟨#[]⟩, .string ⟨#[]⟩, .int .i64 0, .int .i64 0, .int .i64 0, .int .i64 0, .int .i64 0, .int .i64 0] 27)).drew) (w5.heap.size + 1) 27 #[.int .i64 0, .int .i64 0, .string ⟨#[]⟩, .string ⟨#[]⟩, .string ⟨#[]⟩, .string ⟨#[]⟩, .string ⟨#[]⟩, .string ⟨#[]⟩, .int .i64 0, .int .i64 0, .int .i64 0, .int .i64 0, .int .i64 0, .int .i64 0] from by have h := Has.new (w5.alloc (.cells #[.int .i64 op, .int .i64 day, .string part, .string kind, .string into, .string slot, .string key, .string value, .int .i64 kl, .int .i64 kh, .int .i64 cl, .int .i64 ch, .int .i64 ll, .int .i64 lh] 27)) 27 #[.int .i64 0, .int .i64 0, .string ⟨#[]⟩, .string ⟨#[]⟩, .string ⟨#[]⟩, .string ⟨#[]⟩, .string ⟨#[]⟩, .string ⟨#[]⟩, .int .i64 0, .int .i64 0, .int .i64 0, .int .i64 0, .int .i64 0, .int .i64 0]; rw [World.size_alloc] at h; exact h)
        refine hK.out _ _ (⟨(HX3.out).facts.1 0, (HX3.out).facts.1 1, (HX3.out).facts.1 2, (HX3.out).facts.1 3, (HX3.out).facts.1 4, (HX3.out).facts.1 5, (HX3.out).facts.1 6, (HX3.out).facts.1 7, (HX3.out).facts.1 8, (HX3.out).facts.1 9, (HX3.out).facts.1 10, (HX3.out).facts.1 11, (HX3.out).facts.1 12, (HX3.out).facts.1 13⟩) (fun hHeld => ?_)
        clear hK K
        try simp only [Act.put]
        refine wpAnyH_ready (rs := [5]) (by kernel_rfl) (by simp) ?_
        refine AllReadyH.cons (o := ⟨_, _, _, _, _, _⟩) rfl (fun K hK => ?_) AllReadyH.nil
        clear x2 y2
        obtain ⟨x3, y3⟩ := HC3.out.facts
        go_simp
        have HX5 := Lib.hid (show Has (((w5.alloc (.cells #[.int .i64 op, .int .i64 day, .string part, .string kind, .string into, .string slot, .string key, .string value, .int .i64 kl, .int .i64 kh, .int .i64 cl, .int .i64 ch, .int .i64 ll, .int .i64 lh] 27)).alloc (.cells #[.int .i64 op, .int .i64 day, .string part, .string kind, .string into, .string slot, .string key, .string value, .int .i64 kl, .int .i64 kh, .int .i64 cl, .int .i64 ch, .int .i64 ll, .int .i64 lh] 27)).drew) w.heap.size 27 #[.int .i64 op, .int .i64 day, .string part, .string kind, .string into, .string slot, .string key, .string value, .int .i64 kl, .int .i64 kh, .int .i64 cl, .int .i64 ch, .int .i64 ll, .int .i64 lh] from (HX.out.alloc _).alloc _)
        have HP := Lib.hid (show Has (((w5.alloc (.cells #[.int .i64 op, .int .i64 day, .string part, .string kind, .string into, .string slot, .string key, .string value, .int .i64 kl, .int .i64 kh, .int .i64 cl, .int .i64 ch, .int .i64 ll, .int .i64 lh] 27)).alloc (.cells #[.int .i64 op, .int .i64 day, .string part, .string kind, .string into, .string slot, .string key, .string value, .int .i64 kl, .int .i64 kh, .int .i64 cl, .int .i64 ch, .int .i64 ll, .int .i64 lh] 27)).drew) w5.heap.size 27 #[.int .i64 op, .int .i64 day, .string part, .string kind, .string into, .string slot, .string key, .string value, .int .i64 kl, .int .i64 kh, .int .i64 cl, .int .i64 ch, .int .i64 ll, .int .i64 lh] from (Has.new w5 27 #[.int .i64 op, .int .i64 day, .string part, .string kind, .string into, .string slot, .string key, .string value, .int .i64 kl, .int .i64 kh, .int .i64 cl, .int .i64 ch, .int .i64 ll, .int .i64 lh]).alloc _)
        have HQ := Lib.hid (show Has (((w5.alloc (.cells #[.int .i64 op, .int .i64 day, .string part, .string kind, .string into, .string slot, .string key, .string value, .int .i64 kl, .int .i64 kh, .int .i64 cl, .int .i64 ch, .int .i64 ll, .int .i64 lh] 27)).alloc (.cells #[.int .i64 op, .int .i64 day, .string part, .string kind, .string into, .string slot, .string key, .string value, .int .i64 kl, .int .i64 kh, .int .i64 cl, .int .i64 ch, .int .i64 ll, .int .i64 lh] 27)).drew) (w5.heap.size + 1) 27 #[.int .i64 op, .int .i64 day, .string part, .string kind, .string into, .string slot, .string key, .string value, .int .i64 kl, .int .i64 kh, .int .i64 cl, .int .i64 ch, .int .i64 ll, .int .i64 lh] from by have h := Has.new (w5.alloc (.cells #[.int .i64 op, .int .i64 day, .string part, .string kind, .string into, .string slot, .string key, .string value, .int .i64 kl, .int .i64 kh, .int .i64 cl, .int .i64 ch, .int .i64 ll, .int .i64 lh] 27)) 27 #[.int .i64 op, .int .i64 day, .string part, .string kind, .string into, .string slot, .string key, .string value, .int .i64 kl, .int .i64 kh, .int .i64 cl, .int .i64 ch, .int .i64 ll, .int .i64 lh]; rw [World.size_alloc] at h; exact h)
        have HB := Lib.hid (show Below w.heap.size w (((w5.alloc (.cells #[.int .i64 op, .int .i64 day, .string part, .string kind, .string into, .string slot, .string key, .string value, .int .i64 kl, .int .i64 kh, .int .i64 cl, .int .i64 ch, .int .i64 ll, .int .i64 lh] 27)).alloc (.cells #[.int .i64 op, .int .i64 day, .string part, .string kind, .string into, .string slot, .string key, .string value, .int .i64 kl, .int .i64 kh, .int .i64 cl, .int .i64 ch, .int .i64 ll, .int .i64 lh] 27)).drew) from ((HB5.out.alloc HB5.out.size _).alloc (by have := HB5.out.size; simp; omega) _).drew)
        refine hK.out _ _ (⟨(HX5.out).facts.1 0, (HX5.out).facts.1 1, (HX5.out).facts.1 2, (HX5.out).facts.1 3, (HX5.out).facts.1 4, (HX5.out).facts.1 5, (HX5.out).facts.1 6, (HX5.out).facts.1 7, (HX5.out).facts.1 8, (HX5.out).facts.1 9, (HX5.out).facts.1 10, (HX5.out).facts.1 11, (HX5.out).facts.1 12, (HX5.out).facts.1 13⟩) (fun hHeld => ?_)
        clear hK K
        try simp only [Act.put]
        refine wpAnyH_done (by kernel_rfl) ?_ _
        clear hHeld x3 y3 HX5
        generalize ((w5.alloc (.cells #[.int .i64 op, .int .i64 day, .string part, .string kind, .string into, .string slot, .string key, .string value, .int .i64 kl, .int .i64 kh, .int .i64 cl, .int .i64 ch, .int .i64 ll, .int .i64 lh] 27)).alloc (.cells #[.int .i64 op, .int .i64 day, .string part, .string kind, .string into, .string slot, .string key, .string value, .int .i64 kl, .int .i64 kh, .int .i64 cl, .int .i64 ch, .int .i64 ll, .int .i64 lh] 27)).drew = V at *
        have hz5 := HB5.out.size
        have hne : w5.heap.size ≠ w5.heap.size + 1 := by omega
        have hne2 : w5.heap.size + 1 ≠ w5.heap.size := by omega
        have hz6 : w.heap.size ≤ w5.heap.size + 1 := by omega
        clear hne2
        generalize w5.heap.size + 1 = b9 at HQ hne hz6 ⊢
        generalize w5.heap.size = b8 at HP hne hz5 ⊢
        exact REST b8 b9 V ⟨hne, hz5, hz6, HP, HQ, HB⟩
      refine AllReadyH.cons (o := ⟨_, _, _, _, _, _⟩) rfl (fun K hK => ?_) AllReadyH.nil
      go_simp
      have HA3 := Lib.hid (show Has (w5.drew.alloc (.cells #[.int .i64 0, .int .i64 0, .string ⟨#[]⟩, .string ⟨#[]⟩, .string ⟨#[]⟩, .string ⟨#[]⟩, .string ⟨#[]⟩, .string ⟨#[]⟩, .int .i64 0, .int .i64 0, .int .i64 0, .int .i64 0, .int .i64 0, .int .i64 0] 27)) w5.heap.size 27 #[.int .i64 0, .int .i64 0, .string ⟨#[]⟩, .string ⟨#[]⟩, .string ⟨#[]⟩, .string ⟨#[]⟩, .string ⟨#[]⟩, .string ⟨#[]⟩, .int .i64 0, .int .i64 0, .int .i64 0, .int .i64 0, .int .i64 0, .int .i64 0] from Has.new w5.drew 27 #[.int .i64 0, .int .i64 0, .string ⟨#[]⟩, .string ⟨#[]⟩, .string ⟨#[]⟩, .string ⟨#[]⟩, .string ⟨#[]⟩, .string ⟨#[]⟩, .int .i64 0, .int .i64 0, .int .i64 0, .int .i64 0, .int .i64 0, .int .i64 0])
      have HX1 := Lib.hid (HX.out.drew.alloc (.cells #[.int .i64 0, .int .i64 0, .string ⟨#[]⟩, .string ⟨#[]⟩, .string ⟨#[]⟩, .string ⟨#[]⟩, .string ⟨#[]⟩, .string ⟨#[]⟩, .int .i64 0, .int .i64 0, .int .i64 0, .int .i64 0, .int .i64 0, .int .i64 0] 27))
      have HC1 := Lib.hid ((Below.refl w5.heap.size w5).drew.alloc (Nat.le_refl _) (.cells #[.int .i64 0, .int .i64 0, .string ⟨#[]⟩, .string ⟨#[]⟩, .string ⟨#[]⟩, .string ⟨#[]⟩, .string ⟨#[]⟩, .string ⟨#[]⟩, .int .i64 0, .int .i64 0, .int .i64 0, .int .i64 0, .int .i64 0, .int .i64 0] 27))
      refine hK.out _ _ (⟨(HX1.out).facts.1 0, (HX1.out).facts.1 1, (HX1.out).facts.1 2, (HX1.out).facts.1 3, (HX1.out).facts.1 4, (HX1.out).facts.1 5, (HX1.out).facts.1 6, (HX1.out).facts.1 7, (HX1.out).facts.1 8, (HX1.out).facts.1 9, (HX1.out).facts.1 10, (HX1.out).facts.1 11, (HX1.out).facts.1 12, (HX1.out).facts.1 13⟩) (fun hHeld => ?_)
      clear hK K
      try simp only [Act.put, List.setIfInBounds_toArray, List.set_cons_zero, List.set_cons_succ]
      refine wpAnyH_ready (rs := [2]) (by kernel_rfl) (by simp) ?_
      refine AllReadyH.cons (o := ⟨_, _, _, _, _, _⟩) rfl (fun K hK => ?_) AllReadyH.nil
      go_simp
      have HA2 := Lib.hid (show Has ((w5.drew.alloc (.cells #[.int .i64 0, .int .i64 0, .string ⟨#[]⟩, .string ⟨#[]⟩, .string ⟨#[]⟩, .string ⟨#[]⟩, .string ⟨#[]⟩, .string ⟨#[]⟩, .int .i64 0, .int .i64 0, .int .i64 0, .int .i64 0, .int .i64 0, .int .i64 0] 27)).alloc (.cells #[.int .i64 0, .int .i64 0, .string ⟨#[]⟩, .string ⟨#[]⟩, .string ⟨#[]⟩, .string ⟨#[]⟩, .string ⟨#[]⟩, .string ⟨#[]⟩, .int .i64 0, .int .i64 0, .int .i64 0, .int .i64 0, .int .i64 0, .int .i64 0] 27)) (w5.heap.size + 1) 27 #[.int .i64 0, .int .i64 0, .string ⟨#[]⟩, .string ⟨#[]⟩, .string ⟨#[]⟩, .string ⟨#[]⟩, .string ⟨#[]⟩, .string ⟨#[]⟩, .int .i64 0, .int .i64 0, .int .i64 0, .int .i64 0, .int .i64 0, .int .i64 0] from by have h := Has.new (w5.drew.alloc (.cells #[.int .i64 0, .int .i64 0, .string ⟨#[]⟩, .string ⟨#[]⟩, .string ⟨#[]⟩, .string ⟨#[]⟩, .string ⟨#[]⟩, .string ⟨#[]⟩, .int .i64 0, .int .i64 0, .int .i64 0, .int .i64 0, .int .i64 0, .int .i64 0] 27)) 27 #[.int .i64 0, .int .i64 0, .string ⟨#[]⟩, .string ⟨#[]⟩, .string ⟨#[]⟩, .string ⟨#[]⟩, .string ⟨#[]⟩, .string ⟨#[]⟩, .int .i64 0, .int .i64 0, .int .i64 0, .int .i64 0, .int .i64 0, .int .i64 0]; rwa [World.size_alloc] at h)
      replace HA3 := Lib.hid (HA3.out.alloc (.cells #[.int .i64 0, .int .i64 0, .string ⟨#[]⟩, .string ⟨#[]⟩, .string ⟨#[]⟩, .string ⟨#[]⟩, .string ⟨#[]⟩, .string ⟨#[]⟩, .int .i64 0, .int .i64 0, .int .i64 0, .int .i64 0, .int .i64 0, .int .i64 0] 27))
      have HX2 := Lib.hid (HX1.out.alloc (.cells #[.int .i64 0, .int .i64 0, .string ⟨#[]⟩, .string ⟨#[]⟩, .string ⟨#[]⟩, .string ⟨#[]⟩, .string ⟨#[]⟩, .string ⟨#[]⟩, .int .i64 0, .int .i64 0, .int .i64 0, .int .i64 0, .int .i64 0, .int .i64 0] 27))
      have HC2 := Lib.hid (HC1.out.alloc HC1.out.size (.cells #[.int .i64 0, .int .i64 0, .string ⟨#[]⟩, .string ⟨#[]⟩, .string ⟨#[]⟩, .string ⟨#[]⟩, .string ⟨#[]⟩, .string ⟨#[]⟩, .int .i64 0, .int .i64 0, .int .i64 0, .int .i64 0, .int .i64 0, .int .i64 0] 27))
      refine hK.out _ _ (⟨(HX2.out).facts.1 0, (HX2.out).facts.1 1, (HX2.out).facts.1 2, (HX2.out).facts.1 3, (HX2.out).facts.1 4, (HX2.out).facts.1 5, (HX2.out).facts.1 6, (HX2.out).facts.1 7, (HX2.out).facts.1 8, (HX2.out).facts.1 9, (HX2.out).facts.1 10, (HX2.out).facts.1 11, (HX2.out).facts.1 12, (HX2.out).facts.1 13⟩) (fun hHeld => ?_)
      clear hK K
      try simp only [Act.put, List.setIfInBounds_toArray, List.set_cons_zero, List.set_cons_succ]
      refine wpAnyH_ready (rs := [4]) (by kernel_rfl) (by simp) ?_
      refine AllReadyH.cons (o := ⟨_, _, _, _, _, _⟩) rfl (fun K hK => ?_) AllReadyH.nil
      obtain ⟨x2, y2⟩ := HA2.out.facts
      go_simp
      have HX3 := Lib.hid (show Has (((w5.alloc (.cells #[.int .i64 0, .int .i64 0, .string ⟨#[]⟩, .string ⟨#[]⟩, .string ⟨#[]⟩, .string ⟨#[]⟩, .string ⟨#[]⟩, .string ⟨#[]⟩, .int .i64 0, .int .i64 0, .int .i64 0, .int .i64 0, .int .i64 0, .int .i64 0] 27)).alloc (.cells #[.int .i64 op, .int .i64 day, .string part, .string kind, .string into, .string slot, .string key, .string value, .int .i64 kl, .int .i64 kh, .int .i64 cl, .int .i64 ch, .int .i64 ll, .int .i64 lh] 27)).drew) w.heap.size 27 #[.int .i64 op, .int .i64 day, .string part, .string kind, .string into, .string slot, .string key, .string value, .int .i64 kl, .int .i64 kh, .int .i64 cl, .int .i64 ch, .int .i64 ll, .int .i64 lh] from (HX.out.alloc _).alloc _)
      have HC3 := Lib.hid (show Has (((w5.alloc (.cells #[.int .i64 0, .int .i64 0, .string ⟨#[]⟩, .string ⟨#[]⟩, .string ⟨#[]⟩, .string ⟨#[]⟩, .string ⟨#[]⟩, .string ⟨#[]⟩, .int .i64 0, .int .i64 0, .int .i64 0, .int .i64 0, .int .i64 0, .int .i64 0] 27)).alloc (.cells #[.int .i64 op, .int .i64 day, .string part, .string kind, .string into, .string slot, .string key, .string value, .int .i64 kl, .int .i64 kh, .int .i64 cl, .int .i64 ch, .int .i64 ll, .int .i64 lh] 27)).drew) w5.heap.size 27 #[.int .i64 0, .int .i64 0, .string ⟨#[]⟩, .string ⟨#[]⟩, .string ⟨#[]⟩, .string ⟨#[]⟩, .string ⟨#[]⟩, .string ⟨#[]⟩, .int .i64 0, .int .i64 0, .int .i64 0, .int .i64 0, .int .i64 0, .int .i64 0] from (Has.new w5 27 #[.int .i64 0, .int .i64 0, .string ⟨#[]⟩, .string ⟨#[]⟩, .string ⟨#[]⟩, .string ⟨#[]⟩, .string ⟨#[]⟩, .string ⟨#[]⟩, .int .i64 0, .int .i64 0, .int .i64 0, .int .i64 0, .int .i64 0, .int .i64 0]).alloc _)
      refine hK.out _ _ (⟨(HX3.out).facts.1 0, (HX3.out).facts.1 1, (HX3.out).facts.1 2, (HX3.out).facts.1 3, (HX3.out).facts.1 4, (HX3.out).facts.1 5, (HX3.out).facts.1 6, (HX3.out).facts.1 7, (HX3.out).facts.1 8, (HX3.out).facts.1 9, (HX3.out).facts.1 10, (HX3.out).facts.1 11, (HX3.out).facts.1 12, (HX3.out).facts.1 13⟩) (fun hHeld => ?_)
      clear hK K
      try simp only [Act.put]
      refine wpAnyH_ready (rs := [5]) (by kernel_rfl) (by simp) ?_
      refine AllReadyH.cons (o := ⟨_, _, _, _, _, _⟩) rfl (fun K hK => ?_) AllReadyH.nil
      clear x2 y2
      obtain ⟨x3, y3⟩ := HC3.out.facts
      go_simp
      have HX5 := Lib.hid (show Has (((w5.alloc (.cells #[.int .i64 op, .int .i64 day, .string part, .string kind, .string into, .string slot, .string key, .string value, .int .i64 kl, .int .i64 kh, .int .i64 cl, .int .i64 ch, .int .i64 ll, .int .i64 lh] 27)).alloc (.cells #[.int .i64 op, .int .i64 day, .string part, .string kind, .string into, .string slot, .string key, .string value, .int .i64 kl, .int .i64 kh, .int .i64 cl, .int .i64 ch, .int .i64 ll, .int .i64 lh] 27)).drew) w.heap.size 27 #[.int .i64 op, .int .i64 day, .string part, .string kind, .string into, .string slot, .string key, .string value, .int .i64 kl, .int .i64 kh, .int .i64 cl, .int .i64 ch, .int .i64 ll, .int .i64 lh] from (HX.out.alloc _).alloc _)
      have HP := Lib.hid (show Has (((w5.alloc (.cells #[.int .i64 op, .int .i64 day, .string part, .string kind, .string into, .string slot, .string key, .string value, .int .i64 kl, .int .i64 kh, .int .i64 cl, .int .i64 ch, .int .i64 ll, .int .i64 lh] 27)).alloc (.cells #[.int .i64 op, .int .i64 day, .string part, .string kind, .string into, .string slot, .string key, .string value, .int .i64 kl, .int .i64 kh, .int .i64 cl, .int .i64 ch, .int .i64 ll, .int .i64 lh] 27)).drew) w5.heap.size 27 #[.int .i64 op, .int .i64 day, .string part, .string kind, .string into, .string slot, .string key, .string value, .int .i64 kl, .int .i64 kh, .int .i64 cl, .int .i64 ch, .int .i64 ll, .int .i64 lh] from (Has.new w5 27 #[.int .i64 op, .int .i64 day, .string part, .string kind, .string into, .string slot, .string key, .string value, .int .i64 kl, .int .i64 kh, .int .i64 cl, .int .i64 ch, .int .i64 ll, .int .i64 lh]).alloc _)
      have HQ := Lib.hid (show Has (((w5.alloc (.cells #[.int .i64 op, .int .i64 day, .string part, .string kind, .string into, .string slot, .string key, .string value, .int .i64 kl, .int .i64 kh, .int .i64 cl, .int .i64 ch, .int .i64 ll, .int .i64 lh] 27)).alloc (.cells #[.int .i64 op, .int .i64 day, .string part, .string kind, .string into, .string slot, .string key, .string value, .int .i64 kl, .int .i64 kh, .int .i64 cl, .int .i64 ch, .int .i64 ll, .int .i64 lh] 27)).drew) (w5.heap.size + 1) 27 #[.int .i64 op, .int .i64 day, .string part, .string kind, .string into, .string slot, .string key, .string value, .int .i64 kl, .int .i64 kh, .int .i64 cl, .int .i64 ch, .int .i64 ll, .int .i64 lh] from by have h := Has.new (w5.alloc (.cells #[.int .i64 op, .int .i64 day, .string part, .string kind, .string into, .string slot, .string key, .string value, .int .i64 kl, .int .i64 kh, .int .i64 cl, .int .i64 ch, .int .i64 ll, .int .i64 lh] 27)) 27 #[.int .i64 op, .int .i64 day, .string part, .string kind, .string into, .string slot, .string key, .string value, .int .i64 kl, .int .i64 kh, .int .i64 cl, .int .i64 ch, .int .i64 ll, .int .i64 lh]; rw [World.size_alloc] at h; exact h)
      have HB := Lib.hid (show Below w.heap.size w (((w5.alloc (.cells #[.int .i64 op, .int .i64 day, .string part, .string kind, .string into, .string slot, .string key, .string value, .int .i64 kl, .int .i64 kh, .int .i64 cl, .int .i64 ch, .int .i64 ll, .int .i64 lh] 27)).alloc (.cells #[.int .i64 op, .int .i64 day, .string part, .string kind, .string into, .string slot, .string key, .string value, .int .i64 kl, .int .i64 kh, .int .i64 cl, .int .i64 ch, .int .i64 ll, .int .i64 lh] 27)).drew) from ((HB5.out.alloc HB5.out.size _).alloc (by have := HB5.out.size; simp; omega) _).drew)
      refine hK.out _ _ (⟨(HX5.out).facts.1 0, (HX5.out).facts.1 1, (HX5.out).facts.1 2, (HX5.out).facts.1 3, (HX5.out).facts.1 4, (HX5.out).facts.1 5, (HX5.out).facts.1 6, (HX5.out).facts.1 7, (HX5.out).facts.1 8, (HX5.out).facts.1 9, (HX5.out).facts.1 10, (HX5.out).facts.1 11, (HX5.out).facts.1 12, (HX5.out).facts.1 13⟩) (fun hHeld => ?_)
      clear hK K
      try simp only [Act.put]
      refine wpAnyH_done (by kernel_rfl) ?_ _
      clear hHeld x3 y3 HX5
      generalize ((w5.alloc (.cells #[.int .i64 op, .int .i64 day, .string part, .string kind, .string into, .string slot, .string key, .string value, .int .i64 kl, .int .i64 kh, .int .i64 cl, .int .i64 ch, .int .i64 ll, .int .i64 lh] 27)).alloc (.cells #[.int .i64 op, .int .i64 day, .string part, .string kind, .string into, .string slot, .string key, .string value, .int .i64 kl, .int .i64 kh, .int .i64 cl, .int .i64 ch, .int .i64 ll, .int .i64 lh] 27)).drew = V at *
      have hz5 := HB5.out.size
      have hne : w5.heap.size ≠ w5.heap.size + 1 := by omega
      have hne2 : w5.heap.size + 1 ≠ w5.heap.size := by omega
      have hz6 : w.heap.size ≤ w5.heap.size + 1 := by omega
      exact REST (w5.heap.size + 1) w5.heap.size V ⟨hne2, hz6, hz5, HQ, HP, HB⟩
    case h2 =>
      intro a b V hAll
      obtain ⟨hne, hza, hzb, HP, HQ, HB⟩ := hAll
      obtain ⟨xp, yp⟩ := HP.out.facts
      obtain ⟨xq, yq⟩ := HQ.out.facts
      go_wp2_with fail
      clear xp yp xq yq
      have HP2 := Lib.hid (show Has ((V.setCell ⟨a, 1, none⟩ (.int .i64 (d1 % 40001))).setCell ⟨b, 1, none⟩ (.int .i64 (d2 % 40001))) a 27 #[.int .i64 op, .int .i64 (d1 % 40001), .string part, .string kind, .string into, .string slot, .string key, .string value, .int .i64 kl, .int .i64 kh, .int .i64 cl, .int .i64 ch, .int .i64 ll, .int .i64 lh] from by have h := (HP.out.put 1 (.int .i64 (d1 % 40001))).far ⟨b, 1, none⟩ hne (.int .i64 (d2 % 40001)); simpa using h)
      have HQ2 := Lib.hid (show Has ((V.setCell ⟨a, 1, none⟩ (.int .i64 (d1 % 40001))).setCell ⟨b, 1, none⟩ (.int .i64 (d2 % 40001))) b 27 #[.int .i64 op, .int .i64 (d2 % 40001), .string part, .string kind, .string into, .string slot, .string key, .string value, .int .i64 kl, .int .i64 kh, .int .i64 cl, .int .i64 ch, .int .i64 ll, .int .i64 lh] from by have h := (HQ.out.far ⟨a, 1, none⟩ (Ne.symm hne) (.int .i64 (d1 % 40001))).put 1 (.int .i64 (d2 % 40001)); simpa using h)
      have HB2 := Lib.hid ((HB.out.setCell (p := ⟨a, 1, none⟩) hza (.int .i64 (d1 % 40001))).setCell (p := ⟨b, 1, none⟩) hzb (.int .i64 (d2 % 40001)))
      generalize (V.setCell ⟨a, 1, none⟩ (.int .i64 (d1 % 40001))).setCell ⟨b, 1, none⟩ (.int .i64 (d2 % 40001)) = V2 at *
      have hm1 : 0 ≤ d1 % 40001 ∧ d1 % 40001 ≤ 40000 := by omega
      have hm2 : 0 ≤ d2 % 40001 ∧ d2 % 40001 ≤ 40000 := by omega
      generalize d1 % 40001 = m1 at *
      generalize d2 % 40001 = m2 at *
      have hok := ok_days op m1 m2 part kind into slot key value kl kh cl ch ll lh hm1 hm2
      have hnm := names_days op m1 m2 part kind into slot key value kl kh cl ch ll lh hm1 hm2
      have hv1 := fun W => valid_any ⟨op, m1, part, kind, into, slot, key, value, kl, kh, cl, ch, ll, lh⟩ W (short_day op day m1 part kind into slot key value kl kh cl ch ll lh HSM.out)
      have hv2 := fun W => valid_any ⟨op, m2, part, kind, into, slot, key, value, kl, kh, cl, ch, ll, lh⟩ W (short_day op day m2 part kind into slot key value kl kh cl ch ll lh HSM.out)
      have hn1 := fun W => names_any ⟨op, m1, part, kind, into, slot, key, value, kl, kh, cl, ch, ll, lh⟩ W (short_day op day m1 part kind into slot key value kl kh cl ch ll lh HSM.out)
      have hn2 := fun W => names_any ⟨op, m2, part, kind, into, slot, key, value, kl, kh, cl, ch, ll, lh⟩ W (short_day op day m2 part kind into slot key value kl kh cl ch ll lh HSM.out)
      have hnl : (evNames ⟨op, m1, part, kind, into, slot, key, value, kl, kh, cl, ch, ll, lh⟩).length ≤ 1000000 := by unfold evNames; split <;> (try split) <;> simp
      rw [← hok] at hv2
      rw [← hnm] at hn2
      clear hok hnm
      generalize evOk ⟨op, m1, part, kind, into, slot, key, value, kl, kh, cl, ch, ll, lh⟩ = g at hv1 hv2
      generalize evNames ⟨op, m1, part, kind, into, slot, key, value, kl, kh, cl, ch, ll, lh⟩ = l at hn1 hn2 hnl
      have HV1 := Lib.hid hv1
      have HV2 := Lib.hid hv2
      have HN1 := Lib.hid hn1
      have HN2 := Lib.hid hn2
      have HNL := Lib.hid hnl
      clear hv1 hv2 hn1 hn2 hnl hm1 hm2
      refine wp_region_held_drew (S := fun W => W.cell? ⟨a, 0, none⟩ = some (.int .i64 op) ∧ W.cell? ⟨a, 1, none⟩ = some (.int .i64 m1) ∧ W.cell? ⟨a, 2, none⟩ = some (.string part) ∧ W.cell? ⟨a, 3, none⟩ = some (.string kind) ∧ W.cell? ⟨a, 4, none⟩ = some (.string into) ∧ W.cell? ⟨a, 5, none⟩ = some (.string slot) ∧ W.cell? ⟨a, 6, none⟩ = some (.string key) ∧ W.cell? ⟨a, 7, none⟩ = some (.string value) ∧ W.cell? ⟨a, 8, none⟩ = some (.int .i64 kl) ∧ W.cell? ⟨a, 9, none⟩ = some (.int .i64 kh) ∧ W.cell? ⟨a, 10, none⟩ = some (.int .i64 cl) ∧ W.cell? ⟨a, 11, none⟩ = some (.int .i64 ch) ∧ W.cell? ⟨a, 12, none⟩ = some (.int .i64 ll) ∧ W.cell? ⟨a, 13, none⟩ = some (.int .i64 lh) ∧ W.cell? ⟨b, 0, none⟩ = some (.int .i64 op) ∧ W.cell? ⟨b, 1, none⟩ = some (.int .i64 m2) ∧ W.cell? ⟨b, 2, none⟩ = some (.string part) ∧ W.cell? ⟨b, 3, none⟩ = some (.string kind) ∧ W.cell? ⟨b, 4, none⟩ = some (.string into) ∧ W.cell? ⟨b, 5, none⟩ = some (.string slot) ∧ W.cell? ⟨b, 6, none⟩ = some (.string key) ∧ W.cell? ⟨b, 7, none⟩ = some (.string value) ∧ W.cell? ⟨b, 8, none⟩ = some (.int .i64 kl) ∧ W.cell? ⟨b, 9, none⟩ = some (.int .i64 kh) ∧ W.cell? ⟨b, 10, none⟩ = some (.int .i64 cl) ∧ W.cell? ⟨b, 11, none⟩ = some (.int .i64 ch) ∧ W.cell? ⟨b, 12, none⟩ = some (.int .i64 ll) ∧ W.cell? ⟨b, 13, none⟩ = some (.int .i64 lh)) (by kernel_rfl) (⟨(HP2.out.drew).facts.1 0, (HP2.out.drew).facts.1 1, (HP2.out.drew).facts.1 2, (HP2.out.drew).facts.1 3, (HP2.out.drew).facts.1 4, (HP2.out.drew).facts.1 5, (HP2.out.drew).facts.1 6, (HP2.out.drew).facts.1 7, (HP2.out.drew).facts.1 8, (HP2.out.drew).facts.1 9, (HP2.out.drew).facts.1 10, (HP2.out.drew).facts.1 11, (HP2.out.drew).facts.1 12, (HP2.out.drew).facts.1 13, (HQ2.out.drew).facts.1 0, (HQ2.out.drew).facts.1 1, (HQ2.out.drew).facts.1 2, (HQ2.out.drew).facts.1 3, (HQ2.out.drew).facts.1 4, (HQ2.out.drew).facts.1 5, (HQ2.out.drew).facts.1 6, (HQ2.out.drew).facts.1 7, (HQ2.out.drew).facts.1 8, (HQ2.out.drew).facts.1 9, (HQ2.out.drew).facts.1 10, (HQ2.out.drew).facts.1 11, (HQ2.out.drew).facts.1 12, (HQ2.out.drew).facts.1 13⟩) (fun hHeld => ?_)
      refine plI [(0, false), (1, false), (2, false), (4, false)] ?_
      repeat ((first | ((with_reducible show Plan ((_, true) :: _) _); refine plF ?_) | (refine plR (v := ?_) ?_ ?_; rotate_left; focus (intro W hSW; (try dsimp only at hSW); go_simp; all_goals (with_reducible rfl)))); try simp only [Act.put, List.setIfInBounds_toArray, List.set_cons_zero, List.set_cons_succ])
      refine plE ?_
      refine wpAnyH_ready (rs := [3]) (by kernel_rfl) (by simp) ?_
      refine AllReadyH.cons (o := ⟨_, _, _, _, _, _⟩) rfl (fun K hK => ?_) AllReadyH.nil
      go_simp
      go_at_call 7; refine (HV1.out _).mono ?_; rintro e v3 ⟨rfl, hb⟩; have HP3s := Lib.hid ((HP2.out.drew).below hb (HP2.out.drew).lt); have HQ3s := Lib.hid ((HQ2.out.drew).below hb (HQ2.out.drew).lt); have HB3s := Lib.hid ((HB2.out.drew).trans (hb.mono (HB2.out.drew).size)); clear hb
      refine hK.out _ _ (⟨(HP3s.out).facts.1 0, (HP3s.out).facts.1 1, (HP3s.out).facts.1 2, (HP3s.out).facts.1 3, (HP3s.out).facts.1 4, (HP3s.out).facts.1 5, (HP3s.out).facts.1 6, (HP3s.out).facts.1 7, (HP3s.out).facts.1 8, (HP3s.out).facts.1 9, (HP3s.out).facts.1 10, (HP3s.out).facts.1 11, (HP3s.out).facts.1 12, (HP3s.out).facts.1 13, (HQ3s.out).facts.1 0, (HQ3s.out).facts.1 1, (HQ3s.out).facts.1 2, (HQ3s.out).facts.1 3, (HQ3s.out).facts.1 4, (HQ3s.out).facts.1 5, (HQ3s.out).facts.1 6, (HQ3s.out).facts.1 7, (HQ3s.out).facts.1 8, (HQ3s.out).facts.1 9, (HQ3s.out).facts.1 10, (HQ3s.out).facts.1 11, (HQ3s.out).facts.1 12, (HQ3s.out).facts.1 13⟩) (fun hHeld => ?_)
      clear hK K
      try simp only [Act.put, List.setIfInBounds_toArray, List.set_cons_zero, List.set_cons_succ]
      refine wpAnyH_ready (rs := [5]) (by kernel_rfl) (by simp) ?_
      refine AllReadyH.cons (o := ⟨_, _, _, _, _, _⟩) rfl (fun K hK => ?_) AllReadyH.nil
      go_simp
      go_at_call 7; refine (HV2.out _).mono ?_; rintro e v5 ⟨rfl, hb⟩; have HP5s := Lib.hid ((HP3s.out).below hb (HP3s.out).lt); have HQ5s := Lib.hid ((HQ3s.out).below hb (HQ3s.out).lt); have HB5s := Lib.hid ((HB3s.out).trans (hb.mono (HB3s.out).size)); clear hb
      refine hK.out _ _ (⟨(HP5s.out).facts.1 0, (HP5s.out).facts.1 1, (HP5s.out).facts.1 2, (HP5s.out).facts.1 3, (HP5s.out).facts.1 4, (HP5s.out).facts.1 5, (HP5s.out).facts.1 6, (HP5s.out).facts.1 7, (HP5s.out).facts.1 8, (HP5s.out).facts.1 9, (HP5s.out).facts.1 10, (HP5s.out).facts.1 11, (HP5s.out).facts.1 12, (HP5s.out).facts.1 13, (HQ5s.out).facts.1 0, (HQ5s.out).facts.1 1, (HQ5s.out).facts.1 2, (HQ5s.out).facts.1 3, (HQ5s.out).facts.1 4, (HQ5s.out).facts.1 5, (HQ5s.out).facts.1 6, (HQ5s.out).facts.1 7, (HQ5s.out).facts.1 8, (HQ5s.out).facts.1 9, (HQ5s.out).facts.1 10, (HQ5s.out).facts.1 11, (HQ5s.out).facts.1 12, (HQ5s.out).facts.1 13⟩) (fun hHeld => ?_)
      clear hK K
      try simp only [Act.put, List.setIfInBounds_toArray, List.set_cons_zero, List.set_cons_succ]
      refine plI [(6, false), (7, false), (8, false), (9, false), (11, false)] ?_
      repeat ((first | ((with_reducible show Plan ((_, true) :: _) _); refine plF ?_) | (refine plR (v := ?_) ?_ ?_; rotate_left; focus (intro W hSW; (try dsimp only at hSW); go_simp; all_goals (with_reducible rfl)))); try simp only [Act.put, List.setIfInBounds_toArray, List.set_cons_zero, List.set_cons_succ])
      refine plE ?_
      refine wpAnyH_ready (rs := [10]) (by kernel_rfl) (by simp) ?_
      refine AllReadyH.cons (o := ⟨_, _, _, _, _, _⟩) rfl (fun K hK => ?_) AllReadyH.nil
      go_simp
      go_at_call 9; refine (HN1.out _).mono ?_; rintro e v10 ⟨n10, rfl, ho, hb⟩; have HP10s := Lib.hid ((HP5s.out).below hb (HP5s.out).lt); have HQ10s := Lib.hid ((HQ5s.out).below hb (HQ5s.out).lt); have HB10s := Lib.hid ((HB5s.out).trans (hb.mono (HB5s.out).size)); have HS10 := Lib.hid (str_own ho); clear hb ho
      refine hK.out _ _ (⟨(HP10s.out).facts.1 0, (HP10s.out).facts.1 1, (HP10s.out).facts.1 2, (HP10s.out).facts.1 3, (HP10s.out).facts.1 4, (HP10s.out).facts.1 5, (HP10s.out).facts.1 6, (HP10s.out).facts.1 7, (HP10s.out).facts.1 8, (HP10s.out).facts.1 9, (HP10s.out).facts.1 10, (HP10s.out).facts.1 11, (HP10s.out).facts.1 12, (HP10s.out).facts.1 13, (HQ10s.out).facts.1 0, (HQ10s.out).facts.1 1, (HQ10s.out).facts.1 2, (HQ10s.out).facts.1 3, (HQ10s.out).facts.1 4, (HQ10s.out).facts.1 5, (HQ10s.out).facts.1 6, (HQ10s.out).facts.1 7, (HQ10s.out).facts.1 8, (HQ10s.out).facts.1 9, (HQ10s.out).facts.1 10, (HQ10s.out).facts.1 11, (HQ10s.out).facts.1 12, (HQ10s.out).facts.1 13⟩) (fun hHeld => ?_)
      clear hK K
      try simp only [Act.put, List.setIfInBounds_toArray, List.set_cons_zero, List.set_cons_succ]
      refine wpAnyH_ready (rs := [12]) (by kernel_rfl) (by simp) ?_
      refine AllReadyH.cons (o := ⟨_, _, _, _, _, _⟩) rfl (fun K hK => ?_) AllReadyH.nil
      go_simp
      go_at_call 9; refine (HN2.out _).mono ?_; rintro e v12 ⟨n12, rfl, ho, hb⟩; have HP12s := Lib.hid ((HP10s.out).below hb (HP10s.out).lt); have HQ12s := Lib.hid ((HQ10s.out).below hb (HQ10s.out).lt); have HB12s := Lib.hid ((HB10s.out).trans (hb.mono (HB10s.out).size)); have HS12 := Lib.hid (str_own ho); have HS10b := Lib.hid (HS10.out.below hb); clear hb ho
      refine hK.out _ _ (⟨(HP12s.out).facts.1 0, (HP12s.out).facts.1 1, (HP12s.out).facts.1 2, (HP12s.out).facts.1 3, (HP12s.out).facts.1 4, (HP12s.out).facts.1 5, (HP12s.out).facts.1 6, (HP12s.out).facts.1 7, (HP12s.out).facts.1 8, (HP12s.out).facts.1 9, (HP12s.out).facts.1 10, (HP12s.out).facts.1 11, (HP12s.out).facts.1 12, (HP12s.out).facts.1 13, (HQ12s.out).facts.1 0, (HQ12s.out).facts.1 1, (HQ12s.out).facts.1 2, (HQ12s.out).facts.1 3, (HQ12s.out).facts.1 4, (HQ12s.out).facts.1 5, (HQ12s.out).facts.1 6, (HQ12s.out).facts.1 7, (HQ12s.out).facts.1 8, (HQ12s.out).facts.1 9, (HQ12s.out).facts.1 10, (HQ12s.out).facts.1 11, (HQ12s.out).facts.1 12, (HQ12s.out).facts.1 13⟩) (fun hHeld => ?_)
      clear hK K
      try simp only [Act.put, List.setIfInBounds_toArray, List.set_cons_zero, List.set_cons_succ]
      refine wpAnyH_ready (rs := [13]) (by kernel_rfl) (by simp) ?_
      refine AllReadyH.cons (o := ⟨_, _, _, _, _, _⟩) rfl (fun K hK => ?_) AllReadyH.nil
      go_simp
      go_at_call 8; refine (strings_any n10 n12 l l _ HS10b.out HS12.out HNL.out).mono ?_; rintro e v13 ⟨rfl, hb⟩; have HP13s := Lib.hid ((HP12s.out).below hb (HP12s.out).lt); have HQ13s := Lib.hid ((HQ12s.out).below hb (HQ12s.out).lt); have HB13s := Lib.hid ((HB12s.out).trans (hb.mono (HB12s.out).size)); clear hb
      refine hK.out _ _ (⟨(HP13s.out).facts.1 0, (HP13s.out).facts.1 1, (HP13s.out).facts.1 2, (HP13s.out).facts.1 3, (HP13s.out).facts.1 4, (HP13s.out).facts.1 5, (HP13s.out).facts.1 6, (HP13s.out).facts.1 7, (HP13s.out).facts.1 8, (HP13s.out).facts.1 9, (HP13s.out).facts.1 10, (HP13s.out).facts.1 11, (HP13s.out).facts.1 12, (HP13s.out).facts.1 13, (HQ13s.out).facts.1 0, (HQ13s.out).facts.1 1, (HQ13s.out).facts.1 2, (HQ13s.out).facts.1 3, (HQ13s.out).facts.1 4, (HQ13s.out).facts.1 5, (HQ13s.out).facts.1 6, (HQ13s.out).facts.1 7, (HQ13s.out).facts.1 8, (HQ13s.out).facts.1 9, (HQ13s.out).facts.1 10, (HQ13s.out).facts.1 11, (HQ13s.out).facts.1 12, (HQ13s.out).facts.1 13⟩) (fun hHeld => ?_)
      clear hK K
      refine plI [(14, false), (15, false)] ?_
      repeat ((first | ((with_reducible show Plan ((_, true) :: _) _); refine plF ?_) | (refine plR (v := ?_) ?_ ?_; rotate_left; focus (intro W hSW; (try dsimp only at hSW); go_simp; all_goals (with_reducible rfl)))); try simp only [Act.put, List.setIfInBounds_toArray, List.set_cons_zero, List.set_cons_succ])
      refine plE ?_
      refine wpAnyH_done (by kernel_rfl) ?_ _
      clear hHeld
      go_wp2_with fail
      refine bodyPost_ret (v := .bool true) (by simp [results, Tryd.results3, go_sem]) rfl ?_
      exact ⟨rfl, HB13s.out⟩
end Go.Proofs.YtjlpllnhefafkaaDoor
