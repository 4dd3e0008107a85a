/- bogielaw13.in: is a text in a list? Rows of different element types share no block. -/
import Derived.Test.YtmbalkebdmdmaaaDoorEvEq
import Derived.Test.YtmbalkebdmdmaaaDoorApp
namespace Go.Proofs.YtmbalkebdmdmaaaDoor
open Go Go.RowKit
theorem own_apart {w : World} {b b' t t' sz sz' n n' : Nat} {v v' : Value} {xs xs' : List Value} (h : w.ownsRow b t sz v n xs) (h' : w.ownsRow b' t' sz' v' n' xs') (ht : t ≠ t') : v.ownBlock = none ∨ v.ownBlock ≠ v'.ownBlock := by
  rcases h.2 with ⟨rfl, _⟩ | ⟨g, cap, cur, rfl, _, hh, _⟩
  · exact .inl rfl
  · right
    rcases h'.2 with ⟨rfl, _⟩ | ⟨g', cap', cur', rfl, _, hh', _⟩
    · intro he; cases he
    · intro he
      have e : g = g' := Option.some.inj he
      subst e
      rw [hh] at hh'
      injection hh' with hh'
      injection hh' with _ e2
      exact ht e2
def inB (l : List ByteArray) (s : ByteArray) : Bool := l.any fun x => decide (x = s)
theorem inB_iff (l : List ByteArray) (s : ByteArray) : inB l s = true ↔ s ∈ l := by
  unfold inB; rw [List.any_eq_true]
  exact ⟨fun ⟨x, h1, h2⟩ => by rw [← of_decide_eq_true h2]; exact h1, fun h => ⟨s, h, decide_eq_true rfl⟩⟩
theorem inB_yes {l : List ByteArray} {s : ByteArray} {k : Nat} (hk : k < l.length) (h : ((l.getD k ByteArray.empty).toList == s.toList) = true) : inB l s = true := by
  rw [bytes_beq, decide_eq_true_iff] at h
  rw [inB_iff, ← h, List.getD_eq_getElem?_getD, List.getElem?_eq_getElem hk]
  exact List.getElem_mem _
theorem inB_no {l : List ByteArray} {s : ByteArray} (h : ∀ j, j < l.length → ((l.getD j ByteArray.empty).toList == s.toList) = false) : inB l s = false := by
  cases hb : inB l s with
  | false => rfl
  | true =>
  have hm := (inB_iff l s).1 hb
  obtain ⟨j, hj, he⟩ := List.getElem_of_mem hm
  have := h j hj
  rw [List.getD_eq_getElem?_getD, List.getElem?_eq_getElem hj, Option.getD_some, he, bytes_beq] at this
  simp at this

set_option maxRecDepth 100000 in
set_option maxHeartbeats 1000000 in
theorem in_any (v : Value) (l : List ByteArray) (s : ByteArray) (w : World) (hv : Sl w v l.length 1 (strF l)) (hl : l.length ≤ 1000000) :
    Calls Tryd.prog 21 #[v, .string s] w fun r w' => r = .returned (.bool (inB l s)) ∧ w' = w := by
  obtain ⟨A, c, rfl, hn, hc⟩ := hv
  have HC := Lib.hid hc
  clear hc
  go_enter Tryd.func21, Tryd.ntmps21
  go_wp2_with fail
  go_loop [5] (fun i => ∃ k : Nat, k ≤ l.length ∧ i = .int .i64 k ∧ Hid (∀ j, j < k → ((l.getD j ByteArray.empty).toList == s.toList) = false)) (fun i => l.length - (intOf i).toNat)
  case atStart => exact ⟨0, Nat.zero_le _, rfl, fun j hj => absurd hj (by omega)⟩
  case round =>
    obtain ⟨k, hk, rfl, hrel⟩ := hrel
    by_cases hlt : k < l.length
    · rcases HC.out with h0 | ⟨b, o, rfl, hc⟩
      · omega
      have hcell : w.cell? ⟨b, o + k, none⟩ = some (.string (l.getD k ByteArray.empty)) := hc k (by omega)
      have hyes := Lib.hid (fun h => inB_yes (s := s) hlt h)
      have hno : Hid (((l.getD k ByteArray.empty).toList == s.toList) = false → ∀ j, j < k + 1 → ((l.getD j ByteArray.empty).toList == s.toList) = false) := fun h j hj => by
        rcases Nat.lt_or_ge j k with h1 | h1
        · exact hrel.out j h1
        · obtain rfl : j = k := by omega
          exact h
      clear hc
      generalize l.getD k ByteArray.empty = x at *
      cases hb : (x.toList == s.toList)
      · have hN := Lib.hid (hno.out hb)
        go_wp2_with fail
        go_round
        case rel => exact ⟨k + 1, by omega, by go_num, hN.out⟩
        case measure => simp [intOf]; omega
      · have hY := Lib.hid (hyes.out hb)
        go_wp2_with fail
        go_ret
        exact ⟨ret_bool (by rw [hY.out]), rfl⟩
    · obtain rfl : k = l.length := by omega
      have hfin := Lib.hid (inB_no hrel.out)
      go_wp2_with fail
      go_ret
      exact ⟨ret_bool (by rw [hfin.out]), rfl⟩
end Go.Proofs.YtmbalkebdmdmaaaDoor
