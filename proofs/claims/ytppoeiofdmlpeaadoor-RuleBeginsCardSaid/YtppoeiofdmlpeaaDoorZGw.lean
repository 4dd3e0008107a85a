/- bogielaw20.written: tokens as a text, with a line feed after each. Condition: the tokens lie in memory; the text is short. -/
import Derived.IntWalk
import Derived.Test.YtppoeiofdmlpeaaDoorU10
import Derived.Test.YtppoeiofdmlpeaaDoorU12
import Derived.Test.YtppoeiofdmlpeaaDoorZGa
namespace Go.Proofs.YtppoeiofdmlpeaaDoor
open Go Go.RowKit
/-- A slice that reads as tokens. -/
def TokS (w : World) (v : Value) (l : List Fnd) : Prop :=
  ∃ A c, v = .slice A l.length c ∧ l.length ≤ c ∧ (l = [] ∨ ∃ b o, A = some ⟨b, o, none⟩ ∧ ∀ i (hi : i < l.length),
    w.cell? ⟨b, o + i * 3, none⟩ = some (.int .i64 (l[i]).kind) ∧ w.cell? ⟨b, o + i * 3 + 1, none⟩ = some (.string (l[i]).text) ∧ w.cell? ⟨b, o + i * 3 + 2, none⟩ = some (.int .i64 (l[i]).pos))
theorem TokS.later {w w' : World} {v : Value} {l : List Fnd} (h : TokS w v l) (hb : Below w.heap.size w w') : TokS w' v l := by
  obtain ⟨A, c, e, h1, h2⟩ := h
  exact ⟨A, c, e, h1, h2.imp id fun ⟨b, o, ea, hh⟩ => ⟨b, o, ea, fun i hi => ⟨cell_later hb (hh i hi).1, cell_later hb (hh i hi).2.1, cell_later hb (hh i hi).2.2⟩⟩⟩
theorem TokS.of {g : Nat} {w : World} {v : Value} {l : List Fnd} (h : Tl g w v l) : TokS w v l := by
  obtain ⟨_, A, c, e, h1, _, h2⟩ := h
  refine ⟨A, c, e, h1, h2.imp id fun ⟨b, o, ea, _, hh⟩ => ⟨b, o, ea, fun i hi => ?_⟩⟩
  have he : tokAt l i = l[i] := by unfold tokAt; rw [List.getD_eq_getElem?_getD, List.getElem?_eq_getElem hi]; rfl
  rw [← he]
  exact hh i hi
/-- A part of a slice of tokens. -/
theorem TokS.part {w : World} {b o n c c' : Nat} {l : List Fnd} (h : TokS w (.slice (some ⟨b, o, none⟩) n c) l) (i j : Nat) (hij : i ≤ j) (hj : j ≤ l.length) (hc : j - i ≤ c') : TokS w (.slice (some ⟨b, o + i * 3, none⟩) (j - i) c') ((l.take j).drop i) := by
  obtain ⟨A, d, e, h1, h2⟩ := h
  injection e with e1 e2 e3
  have hlen : ((l.take j).drop i).length = j - i := by rw [List.length_drop, List.length_take]; omega
  refine ⟨some ⟨b, o + i * 3, none⟩, c', by rw [hlen], by rw [hlen]; exact hc, ?_⟩
  rcases h2 with h2 | ⟨b', o', ea, hh⟩
  · left
    rw [h2]
    simp
  · right
    rw [← e1] at ea
    injection ea with ea
    injection ea with eb eo _
    subst eb
    subst eo
    refine ⟨b, o + i * 3, rfl, fun k hk => ?_⟩
    rw [hlen] at hk
    have hg : ((l.take j).drop i)[k]'(by rw [hlen]; exact hk) = l[i + k]'(by omega) := by rw [List.getElem_drop, List.getElem_take]
    have h4 := hh (i + k) (by omega)
    rw [hg, show o + i * 3 + k * 3 = o + (i + k) * 3 by omega]
    exact h4
theorem gapT_size (l : List Fnd) : (gapT l).size = (wrL l).length := List.size_toArray
theorem gapT_take_le {l : List Fnd} (k : Nat) : (gapT (l.take k)).size ≤ (gapT l).size := by
  rw [gapT_size, gapT_size]
  have h := congrArg List.length (wrL_app (l.take k) (l.drop k))
  rw [List.take_append_drop, List.length_append] at h
  omega
theorem gapT_take {l : List Fnd} {k : Nat} (hk : k < l.length) : gapT (l.take (k + 1)) = gapT (l.take k) ++ wr l[k] ++ ⟨#[10]⟩ := by
  rw [List.take_add_one, List.getElem?_eq_getElem hk]
  exact gapT_cons _ _
set_option maxRecDepth 100000 in
set_option maxHeartbeats 8000000 in
theorem written_any (v : Value) (l : List Fnd) (w : World) (h : TokS w v l) (hl : l.length ≤ 100000) (hs : (gapT l).size ≤ 100000) (ht : ∀ t ∈ l, t.text.size ≤ 20000) :
    Calls Tryd.prog 8 #[v] w fun e w' => e = .returned (.string (gapT l)) ∧ Below w.heap.size w w' := by
  have HH := Lib.hid h
  have HTT := Lib.hid ht
  have HSZ := Lib.hid (fun k => Nat.le_trans (gapT_take_le (l := l) k) hs)
  obtain ⟨A, c, rfl, hc, _⟩ := h
  have hz0 : Below w.heap.size w w := Below.refl _ _
  go_enter Tryd.func8, Tryd.ntmps8
  go_wp2_with fail
  go_loopw [3, 4] (fun s i wq => ∃ k : Nat, i = .int .i64 k ∧ k ≤ l.length ∧ s = .string (gapT (l.take k)) ∧ Hid (Below w.heap.size w wq)) (fun _ i _ => l.length - (intOf i).toNat)
  case atStart => exact ⟨0, rfl, Nat.zero_le _, by rw [List.take_zero]; rfl, hz0⟩
  case round =>
    obtain ⟨k, rfl, hk, rfl, HW⟩ := hrel
    by_cases hlt : k < l.length
    · have hki : (k : Int) < (l.length : Int) := by omega
      have hs3 : IntKind.i64.wrap ((k : Int) + 1) = (k : Int) + 1 := IntWalk.i64_in _ (by omega)
      obtain ⟨A2, c2, e2, _, h3⟩ := HH.out.later HW.out
      injection e2 with e2 _ e3
      subst e2
      subst e3
      rcases h3 with h3 | ⟨b, o, rfl, h3⟩
      · rw [h3] at hlt; exact absurd hlt (Nat.not_lt_zero _)
      obtain ⟨hc0, hc1, _⟩ := h3 k hlt
      have HG := Lib.hid (gapT_take hlt)
      have hg1 := HSZ.out (k + 1)
      have hg0 := HSZ.out k
      have htx := HTT.out l[k] (List.getElem_mem hlt)
      rw [HG.out, size_app, size_app] at hg1
      clear h3
      generalize l[k] = t at *
      obtain ⟨kd, tx, ps, er⟩ := t
      dsimp only at hc0 hc1 htx
      generalize gapT (l.take k) = gk at *
      by_cases h3k : kd = 3
      · subst h3k
        have HQ := Lib.hid (fun W => quote_any tx W (by omega))
        have HE := Lib.hid (show Go.Proofs.YtppoeiofdmlpeaaDoor.wr ⟨3, tx, ps, er⟩ = quoteB tx from if_pos rfl)
        rw [HE.out] at HG hg1
        generalize quoteB tx = qt at *
        have m1 : ¬ 9223372036854775807 < gk.size + qt.size := by omega
        have m2 : ¬ 9223372036854775807 < gk.size + qt.size + 1 := by omega
        go_wp2_with (go_at_call 16; refine (HQ.out _).mono ?_; rintro e w2 ⟨rfl, hb⟩; have HW2 := Lib.hid (HW.out.trans (hb.mono HW.out.size)); clear hb)
        go_roundw
        case rel => exact ⟨k + 1, by go_num, hlt, by rw [HG.out], HW2⟩
        case measure => simp [intOf]; omega
      · have h3b : (kd == 3) = false := by simpa using h3k
        have HE := Lib.hid (show Go.Proofs.YtppoeiofdmlpeaaDoor.wr ⟨kd, tx, ps, er⟩ = tx from if_neg h3k)
        rw [HE.out] at HG hg1
        have m1 : ¬ 9223372036854775807 < gk.size + tx.size := by omega
        have m2 : ¬ 9223372036854775807 < gk.size + tx.size + 1 := by omega
        go_wp2_with fail
        go_roundw
        case rel => exact ⟨k + 1, by go_num, hlt, by rw [HG.out], HW⟩
        case measure => simp [intOf]; omega
    · have hki : ¬ (k : Int) < (l.length : Int) := by omega
      have HE := Lib.hid (show gapT (l.take k) = gapT l by rw [List.take_of_length_le (by omega)])
      go_wp2_with fail
      go_ret
      exact ⟨by rw [HE.out]; rfl, HW.out⟩
end Go.Proofs.YtppoeiofdmlpeaaDoor
