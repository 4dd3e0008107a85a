/- Events: their fields as a record; the words of operations; what slices.ContainsFunc says of a few strings. -/
import Derived.Test.YtmbalkebdmdmaaaDoorName
import Derived.RegionTactic
namespace Go.Proofs.YtmbalkebdmdmaaaDoor
open Go Go.RowKit
/-- An event, field by field. -/
structure Ev where
  op : Int
  day : Int
  part : ByteArray
  kind : ByteArray
  into : ByteArray
  slot : ByteArray
  key : ByteArray
  value : ByteArray
  kl : Int
  kh : Int
  cl : Int
  ch : Int
  ll : Int
  lh : Int
  deriving DecidableEq
def Ev.cells (e : Ev) : Array Value := #[.int .i64 e.op, .int .i64 e.day, .string e.part, .string e.kind, .string e.into, .string e.slot, .string e.key, .string e.value, .int .i64 e.kl, .int .i64 e.kh, .int .i64 e.cl, .int .i64 e.ch, .int .i64 e.ll, .int .i64 e.lh]

def wordS (op : Int) : ByteArray :=
  if op = 1 then ⟨#[109, 97, 107, 101]⟩ else if op = 2 then ⟨#[102, 105, 116]⟩ else if op = 3 then ⟨#[114, 101, 109, 111, 118, 101]⟩ else if op = 4 then ⟨#[114, 117, 110]⟩
  else if op = 5 then ⟨#[111, 118, 101, 114, 104, 97, 117, 108]⟩ else if op = 6 then ⟨#[110, 111, 116, 101]⟩ else if op = 7 then ⟨#[115, 99, 114, 97, 112]⟩ else ⟨#[]⟩
theorem wordS_none {op : Int} (h : op < 1 ∨ 7 < op) : wordS op = ⟨#[]⟩ := by
  unfold wordS
  rw [if_neg (by omega), if_neg (by omega), if_neg (by omega), if_neg (by omega), if_neg (by omega), if_neg (by omega), if_neg (by omega)]

set_option maxHeartbeats 1000000 in
theorem word_any (op : Int) (w : World) :
    Calls Tryd.prog 27 #[.int .i64 op] w fun e w' => e = .returned (.string (wordS op)) ∧ Below w.heap.size w w' := by
  by_cases h0 : op < 0
  · have HW := Lib.hid (wordS_none (op := op) (by omega))
    go_enter Tryd.func27, Tryd.ntmps27
    go_wp2
    go_ret
    exact ⟨by rw [HW.out]; rfl, (Below.refl _ _).alloc (Nat.le_refl _) _⟩
  · by_cases h8 : 8 ≤ op
    · have HW := Lib.hid (wordS_none (op := op) (by omega))
      go_enter Tryd.func27, Tryd.ntmps27
      go_wp2
      go_ret
      exact ⟨by rw [HW.out]; rfl, (Below.refl _ _).alloc (Nat.le_refl _) _⟩
    · have hc : op = 0 ∨ op = 1 ∨ op = 2 ∨ op = 3 ∨ op = 4 ∨ op = 5 ∨ op = 6 ∨ op = 7 := by omega
      clear h0 h8
      rcases hc with rfl | rfl | rfl | rfl | rfl | rfl | rfl | rfl
      all_goals
        go_enter Tryd.func27, Tryd.ntmps27
        go_wp2
        go_ret
        exact ⟨rfl, (Below.refl _ _).alloc (Nat.le_refl _) _⟩

/-- The three intervals of a use that lies in a block. -/
theorem intervals_any (g o : Nat) (w : World) :
    Calls Tryd.prog 29 #[.pointer (some ⟨g, o, none⟩)] w fun e w' =>
      e = .returned (.agg #[.pointer (some ⟨g, o, none⟩), .pointer (some ⟨g, o + 2, none⟩), .pointer (some ⟨g, o + 4, none⟩)]) ∧ Below w.heap.size w w' := by
  go_enter Tryd.func29, Tryd.ntmps29
  go_wp2
  go_region
  all_goals
    go_wp2
    refine bodyPost_ret (v := .agg #[.pointer (some ⟨g, o, none⟩), .pointer (some ⟨g, o + 2, none⟩), .pointer (some ⟨g, o + 4, none⟩)]) (by simp [results, Tryd.results29, go_sem]) rfl ⟨rfl, ((Below.refl _ _).alloc (Nat.le_refl _) _).drew⟩

theorem notName_any (s : ByteArray) (w : World) (hs : s.size ≤ maxLen) :
    Calls Tryd.prog 31 #[.string s] w fun e w' => e = .returned (.bool (!nameB s)) ∧ Below w.heap.size w w' := by
  go_enter Tryd.func31, Tryd.ntmps31
  go_wp2_with (go_at_call 28; refine (name_any _ _ hs).mono ?_; rintro e w1 ⟨rfl, hb1⟩)
  go_ret
  exact ⟨rfl, hb1⟩

set_option maxHeartbeats 1000000 in
theorem indexBad_any (v : Value) (l : List ByteArray) (w : World) (hv : Sl w v l.length 1 (strF l)) (hl : l.length ≤ 60000) (hs : ∀ s ∈ l, s.size ≤ maxLen) :
    Calls Tryd.prog 40 #[v, .func (.func 31) #[] #[]] w fun e w' => ∃ r : Int, e = .returned (.int .i64 r) ∧ (r = -1 ∧ l.all nameB = true ∨ 0 ≤ r ∧ l.all nameB = false) ∧ Below w.heap.size w w' := by
  obtain ⟨A, c, rfl, hn, hc⟩ := hv
  go_enter Tryd.func40, Tryd.ntmps40
  go_wp2_with fail
  go_loopw [8] (fun i wr => ∃ k : Nat, k ≤ l.length ∧ i = .int .i64 k ∧ Hid (∀ s, s ∈ l.take k → nameB s = true) ∧ Below w.heap.size w wr) (fun i _ => l.length - (intOf i).toNat)
  case atStart => exact ⟨0, Nat.zero_le _, rfl, fun s hs => by simp at hs, Below.refl _ _⟩
  case round =>
    obtain ⟨k, hk, rfl, hrel, hb⟩ := hrel
    by_cases hlt : k < l.length
    · rcases hc with h0 | ⟨b, o, rfl, hc⟩
      · omega
      have hck : wr.cell? ⟨b, o + k, none⟩ = some (.string (l.getD k ByteArray.empty)) := cell_later hb (hc k (by omega))
      have hmem : l.getD k ByteArray.empty ∈ l := by
        rw [List.getD_eq_getElem?_getD, List.getElem?_eq_getElem hlt]; exact List.getElem_mem hlt
      have hsz := hs _ hmem
      have htake : l.take (k + 1) = l.take k ++ [l.getD k ByteArray.empty] := by
        rw [List.take_add_one, List.getElem?_eq_getElem hlt, List.getD_eq_getElem?_getD, List.getElem?_eq_getElem hlt]; rfl
      have yes : nameB (l.getD k ByteArray.empty) = true → Hid (∀ s, s ∈ l.take (k + 1) → nameB s = true) := fun h s hs => by
        rw [htake, List.mem_append, List.mem_singleton] at hs
        rcases hs with hs | rfl
        · exact hrel.out s hs
        · exact h
      have no : nameB (l.getD k ByteArray.empty) = false → l.all nameB = false := fun h => by
        rw [List.all_eq_false]; exact ⟨_, hmem, by rw [h]; decide⟩
      have YES := Lib.hid yes
      have NO := Lib.hid no
      clear yes no htake hmem hc hs
      generalize l.getD k ByteArray.empty = s at *
      cases hN : nameB s
      · have HN := Lib.hid hN
        go_wp2_with (go_at_call 31; refine (notName_any _ _ hsz).mono ?_; rintro e w1 ⟨rfl, hb1⟩)
        go_ret
        exact ⟨_, rfl, .inr ⟨by omega, NO.out HN.out⟩, hb.trans (hb1.mono hb.size)⟩
      · have HN := Lib.hid hN
        go_wp2_with (go_at_call 31; refine (notName_any _ _ hsz).mono ?_; rintro e w1 ⟨rfl, hb1⟩)
        go_roundw
        case rel => exact ⟨k + 1, by omega, by go_num, YES.out HN.out, hb.trans (hb1.mono hb.size)⟩
        case measure => simp [intOf]; omega
    · obtain rfl : k = l.length := by omega
      go_wp2_with fail
      go_ret
      exact ⟨_, rfl, .inl ⟨rfl, by rw [List.all_eq_true]; intro s hs; exact hrel.out s (by rw [List.take_length]; exact hs)⟩, hb⟩

theorem containsBad_any (v : Value) (l : List ByteArray) (w : World) (hv : Sl w v l.length 1 (strF l)) (hl : l.length ≤ 60000) (hs : ∀ s ∈ l, s.size ≤ maxLen) :
    Calls Tryd.prog 30 #[v, .func (.func 31) #[] #[]] w fun e w' => e = .returned (.bool (!l.all nameB)) ∧ Below w.heap.size w w' := by
  have HV := Lib.hid hv
  clear hv
  go_enter Tryd.func30, Tryd.ntmps30
  go_wp2_with (go_at_call 40; refine (indexBad_any _ l _ HV.out hl hs).mono ?_; rintro e w1 ⟨r, rfl, hr, hb1⟩; have HR := Lib.hid hr; clear hr)
  go_ret
  refine ⟨ret_bool ?_, hb1⟩
  rcases HR.out with ⟨rfl, h⟩ | ⟨h0, h⟩
  · rw [h]; rfl
  · rw [h]; simp [h0]
end Go.Proofs.YtmbalkebdmdmaaaDoor
