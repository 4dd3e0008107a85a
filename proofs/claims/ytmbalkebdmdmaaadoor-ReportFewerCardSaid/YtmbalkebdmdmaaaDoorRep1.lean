/- report.Valid. -/
import Derived.Test.YtmbalkebdmdmaaaDoorEv3
import Derived.Test.YtmbalkebdmdmaaaDoorEvKey
namespace Go.Proofs.YtmbalkebdmdmaaaDoor
open Go Go.RowKit
def noEv : Ev := ⟨0, 0, ⟨#[]⟩, ⟨#[]⟩, ⟨#[]⟩, ⟨#[]⟩, ⟨#[]⟩, ⟨#[]⟩, 0, 0, 0, 0, 0, 0⟩
/-- Cells of a list of events. -/
def evF (l : List Ev) (j : Nat) : Value := ((l.getD (j / 14) noEv).cells[j % 14]?).getD undef
theorem evF_at (l : List Ev) (i j : Nat) (hj : j < 14) : evF l (i * 14 + j) = ((l.getD i noEv).cells[j]?).getD undef := by
  unfold evF
  rw [show (i * 14 + j) / 14 = i by omega, show (i * 14 + j) % 14 = j by omega]
/-- Element i of a slice of events lies there. -/
theorem ev_range {w : World} {b o n : Nat} {l : List Ev} (h : ∀ j, j < n * 14 → w.cell? ⟨b, o + j, none⟩ = some (evF l j)) {i : Nat} (hi : i < n) :
    w.rangeAt b (o + i * 14) (l.getD i noEv).cells.toList := by
  intro j v hv
  have hj : j < 14 := by
    rcases Nat.lt_or_ge j 14 with h1 | h1
    · exact h1
    · rw [List.getElem?_eq_none (by simpa [Ev.cells] using h1)] at hv; cases hv
  have := h (i * 14 + j) (by omega)
  rw [evF_at l i j hj] at this
  rw [Nat.add_assoc, this]
  rw [Array.getElem?_toList] at hv
  rw [hv]; rfl

/-- Is a report valid? -/
def repOk (l : List Ev) : Bool := decide (1 ≤ l.length ∧ l.length ≤ 4) && (l.all evOk && decide l.Nodup)
/-- The options that were seen so far. -/
def seenM (l : List Ev) : List (Ev × Value) := l.map fun e => (e, .bool true)
theorem seenM_get (l : List Ev) (e : Ev) : (mget (seenM l) e).getD (.bool false) = .bool (decide (e ∈ l)) := by
  unfold mget seenM
  induction l with
  | nil => rfl
  | cons a l ih =>
    by_cases h : a = e
    · subst h; simp
    · have : ¬ e = a := fun x => h x.symm
      simp only [List.map_cons, List.find?_cons, h, decide_false, List.mem_cons, this, false_or]
      exact ih
theorem seenM_put (l : List Ev) (e : Ev) (h : ¬ e ∈ l) : mput (seenM l) e (.bool true) = seenM (l ++ [e]) := by
  unfold mput
  have : (seenM l).findIdx? (fun p => decide (p.1 = e)) = none := by
    rw [List.findIdx?_eq_none_iff]
    intro x hx
    simp only [seenM, List.mem_map] at hx
    obtain ⟨a, ha, rfl⟩ := hx
    simp only [decide_eq_false_iff_not]
    rintro rfl; exact h ha
  rw [this]
  simp [seenM]

theorem zero_bool (w : World) : (zeroValue 4).run Tryd.prog w = .ok (.bool false) w := by kernel_rfl
theorem getD_mem {α : Type} (l : List α) (k : Nat) (d : α) (h : k < l.length) : l.getD k d ∈ l := by
  rw [List.getD_eq_getElem?_getD, List.getElem?_eq_getElem h]; exact List.getElem_mem h
theorem take_getD {α : Type} (l : List α) (k : Nat) (d : α) (h : k < l.length) : l.take (k + 1) = l.take k ++ [l.getD k d] := by
  rw [List.take_add_one, List.getElem?_eq_getElem h, List.getD_eq_getElem?_getD, List.getElem?_eq_getElem h]; rfl
theorem repOk_bad {l : List Ev} {e : Ev} (he : e ∈ l) (h : evOk e = false) : repOk l = false := by
  have : l.all evOk = false := by rw [List.all_eq_false]; exact ⟨e, he, by rw [h]; decide⟩
  unfold repOk; rw [this]; simp
theorem repOk_twice {l : List Ev} {k : Nat} (hk : k < l.length) (h : l.getD k noEv ∈ l.take k) : repOk l = false := by
  have : ¬ l.Nodup := fun hn => by
    have h1 : l.take (k + 1) = l.take k ++ [l.getD k noEv] := take_getD l k noEv hk
    have h2 : (l.take (k + 1)).Nodup := hn.sublist (List.take_sublist _ _)
    rw [h1, List.nodup_append] at h2
    exact h2.2.2 _ h _ (by simp) rfl
  unfold repOk; simp [this]

set_option maxRecDepth 100000 in
set_option maxHeartbeats 2000000 in
theorem repValid_any (v : Value) (l : List Ev) (d : Bool) (w : World) (hv : Sl w v l.length 14 (evF l)) (hs : ∀ e ∈ l, e.short) (hl : l.length ≤ 1000) :
    Calls Tryd.prog 12 #[.agg #[v, .bool d]] w fun r w' => r = .returned (.bool (repOk l)) ∧ Below w.heap.size w w' := by
  obtain ⟨A, c, rfl, hn, hc⟩ := hv
  by_cases h1 : l.length = 0
  · have hr := Lib.hid (show repOk l = false by simp [repOk, h1])
    go_enter Tryd.func12, Tryd.ntmps12
    go_wp2
    go_ret
    exact ⟨ret_bool (by rw [hr.out]), (Below.refl _ _).alloc (Nat.le_refl _) _⟩
  · have hb0 : ((l.length : Int) == 0) = false := by rw [beq_eq_false_iff_ne]; omega
    by_cases h4 : 4 < l.length
    · have hr := Lib.hid (show repOk l = false by simp [repOk]; omega)
      go_enter Tryd.func12, Tryd.ntmps12
      go_wp2
      go_ret
      exact ⟨ret_bool (by rw [hr.out]), (Below.refl _ _).alloc (Nat.le_refl _) _⟩
    · rcases hc with h0 | ⟨b, o, rfl, hc⟩
      · omega
      have h4' : (l.length : Int) ≤ 4 := by omega
      have hmm := @run_makeMap Tryd.prog
      have HC := Lib.hid hc
      have HS := Lib.hid hs
      clear hc hs
      go_enter Tryd.func12, Tryd.ntmps12
      go_wp2_with fail
      go_loopw [20] (fun i wr => ∃ k : Nat, k ≤ l.length ∧ i = .int .i64 k ∧ Mp wr Ev.enc (w.heap.size + 1) (seenM (l.take k)) ∧ Hid ((l.take k).all evOk = true ∧ (l.take k).Nodup) ∧ Below w.heap.size w wr ∧ w.heap.size + 2 ≤ wr.heap.size) (fun i _ => l.length - (intOf i).toNat)
      case atStart =>
        refine ⟨0, Nat.zero_le _, rfl, ?_, ⟨by simp, by simp⟩, ((Below.refl _ _).alloc (Nat.le_refl _) _).alloc (by simp) _, by simp⟩
        have h := Mp.new (w.alloc (.cells #[.slice (some ⟨b, o, none⟩) l.length c, .bool d] 29)) Ev.enc
        have e : (w.alloc (.cells #[.slice (some ⟨b, o, none⟩) l.length c, .bool d] 29)).heap.size = w.heap.size + 1 := by simp
        rw [e] at h
        exact h
      case round =>
        obtain ⟨k, hk, rfl, hM, hrel, hB, hZ⟩ := hrel
        by_cases hlt : k < l.length
        · have hrg : wr.rangeAt b (o + k * 14) (l.getD k noEv).cells.toList := ev_range (fun j hj => cell_later hB (HC.out j hj)) hlt
          have hshort := HS.out _ (getD_mem l k noEv hlt)
          have htake := Lib.hid (take_getD l k noEv hlt)
          have hbad := Lib.hid (fun h => repOk_bad (getD_mem l k noEv hlt) h)
          have htwice := Lib.hid (fun h => repOk_twice hlt h)
          have hget := Lib.hid (fun e => seenM_get (l.take k) e)
          have hput := Lib.hid (fun e => seenM_put (l.take k) e)
          have HM := Lib.hid hM
          have HB := Lib.hid hB
          clear hM hB
          generalize he : l.getD k noEv = e at *
          clear he
          obtain ⟨op, day, part, kind, into, slot, key, value, kl, kh, cl, ch, ll, lh⟩ := e
          replace hrg : wr.rangeAt b (o + k * 14) [.int .i64 op, .int .i64 day, .string part, .string kind, .string into, .string slot, .string key, .string value, .int .i64 kl, .int .i64 kh, .int .i64 cl, .int .i64 ch, .int .i64 ll, .int .i64 lh] := hrg
          have hM1 : Mp (wr.alloc (.cells #[.int .i64 op, .int .i64 day, .string part, .string kind, .string into, .string slot, .string key, .string value, .int .i64 kl, .int .i64 kh, .int .i64 cl, .int .i64 ch, .int .i64 ll, .int .i64 lh] 39)) Ev.enc (w.heap.size + 1) (seenM (l.take k)) := HM.out.alloc _
          have hL := run_look ev_keying Tryd.underlying59 hM1 ⟨op, day, part, kind, into, slot, key, value, kl, kh, cl, ch, ll, lh⟩ (zero_bool _) false
          rw [hget.out] at hL
          simp only [Ev.enc, Ev.cells, Bool.false_eq_true, if_false] at hL
          have HM1 := Lib.hid hM1
          clear hM1
          have hZ' : ¬ w.heap.size + 1 = wr.heap.size := by omega
          by_cases hmem : (⟨op, day, part, kind, into, slot, key, value, kl, kh, cl, ch, ll, lh⟩ : Ev) ∈ l.take k
          · rw [decide_eq_true hmem] at hL
            go_wp2_with ((with_reducible show wpList _ _ _ (Oper.mk (some 23) _ _ _ _ _ :: _) _ _); refine wpList_load_mid rfl 39 _ rfl b (o + k * 14) rfl _ _ hrg Tryd.underlying39 rfl rfl ?_)
            go_ret
            exact ⟨ret_bool (by rw [htwice.out hmem]), HB.out.alloc (by omega) _⟩
          · rw [decide_eq_false hmem] at hL
            cases hve : evOk ⟨op, day, part, kind, into, slot, key, value, kl, kh, cl, ch, ll, lh⟩
            · have hvv := Lib.hid hve
              clear hve
              go_wp2_with (first | ((with_reducible show wpList _ _ _ (Oper.mk (some 23) _ _ _ _ _ :: _) _ _); refine wpList_load_mid rfl 39 _ rfl b (o + k * 14) rfl _ _ hrg Tryd.underlying39 rfl rfl ?_) | (go_at_call 17; refine (valid_any ⟨op, day, part, kind, into, slot, key, value, kl, kh, cl, ch, ll, lh⟩ _ hshort).mono ?_; rintro e w2 ⟨rfl, hb2⟩; rw [hvv.out]; obtain ⟨hE2, hB2, hz2⟩ := boxed hb2; skip))
              go_ret
              exact ⟨ret_bool (by rw [hbad.out hvv.out]), HB.out.trans (hB2.mono (by omega))⟩
            · have hvv := Lib.hid hve
              clear hve
              go_wp2_with (first | ((with_reducible show wpList _ _ _ (Oper.mk (some 23) _ _ _ _ _ :: _) _ _); refine wpList_load_mid rfl 39 _ rfl b (o + k * 14) rfl _ _ hrg Tryd.underlying39 rfl rfl ?_) | (go_at_call 17; refine (valid_any ⟨op, day, part, kind, into, slot, key, value, kl, kh, cl, ch, ll, lh⟩ _ hshort).mono ?_; rintro e w2 ⟨rfl, hb2⟩; rw [hvv.out]; obtain ⟨hE2, hB2, hz2⟩ := boxed hb2; obtain ⟨hc2, hf2⟩ := hE2.facts; have hM2 := HM1.out.below hb2 (by simp; omega); obtain ⟨w3, hp3, hM3, hG3, hS3⟩ := run_put ev_keying Tryd.underlying59 hM2 ⟨op, day, part, kind, into, slot, key, value, kl, kh, cl, ch, ll, lh⟩ (.bool true); rw [hput.out _ hmem] at hM3; simp only [Ev.enc, Ev.cells] at hp3; have HM3 := Lib.hid hM3; have HG3 := Lib.hid hG3; have HS3 := Lib.hid hS3; have HB2 := Lib.hid hB2; clear hb2 hE2 hM2 hM3 hG3 hS3 hB2))
              go_roundw
              case rel => exact ⟨k + 1, by omega, by go_num, by rw [htake.out]; exact HM3.out, ⟨by rw [htake.out, List.all_append, hrel.out.1]; simp [hvv.out], by rw [htake.out, List.nodup_append]; exact ⟨hrel.out.2, by simp, fun a ha b hb => by simp at hb; subst hb; intro e; subst e; exact hmem ha⟩⟩, (HB.out.trans (HB2.out.mono (by omega))).grown HG3.out (by omega) (fun j hj => by cases hj; omega), by have := HS3.out; omega⟩
              case measure => simp [intOf]; omega
        · obtain rfl : k = l.length := by omega
          go_wp2_with fail
          go_ret
          exact ⟨ret_bool (by
            have := hrel.out
            rw [List.take_length] at this
            simp [repOk, this.1, this.2]; omega), hB⟩
end Go.Proofs.YtmbalkebdmdmaaaDoor
