/- report.Text of a valid report, given the texts of its options. -/
import Derived.Test.YtmbalkebdmdmaaaDoorTxt1
import Derived.Test.YtmbalkebdmdmaaaDoorRep4
namespace Go.Proofs.YtmbalkebdmdmaaaDoor
open Go Go.RowKit
def sureS : ByteArray := ⟨#[115, 117, 114, 101]⟩
def perhapsS : ByteArray := ⟨#[112, 101, 114, 104, 97, 112, 115]⟩
/-- The lines of a report. -/
def lines (T : Ev → ByteArray) (l : List Ev) (d : Bool) (k : Nat) : List ByteArray := (if d then perhapsS else sureS) :: (l.take k).map T
def repTxt (T : Ev → ByteArray) (l : List Ev) (d : Bool) : ByteArray := joined (lines T l d l.length) ⟨#[10]⟩ ++ ⟨#[10]⟩
theorem lines_succ (T : Ev → ByteArray) (l : List Ev) (d : Bool) (k : Nat) (h : k < l.length) : lines T l d (k + 1) = lines T l d k ++ [T (l.getD k noEv)] := by
  unfold lines; rw [take_getD l k noEv h]; simp
theorem lines_len (T : Ev → ByteArray) (l : List Ev) (d : Bool) (k : Nat) (h : k ≤ l.length) : (lines T l d k).length = 1 + k := by
  unfold lines; simp; omega

set_option maxRecDepth 100000 in
set_option maxHeartbeats 4000000 in
theorem repText_f (v : Value) (l : List Ev) (T : Ev → ByteArray) (w : World) (hv : Sl w v l.length 14 (evF l)) (hs : ∀ e ∈ l, e.short) (hok : repOk l = true)
    (hT : ∀ e ∈ l, ∀ W : World, Calls Tryd.prog 33 #[.agg e.cells] W fun r w' => r = .returned (.tuple #[.string (T e), .int .i64 0]) ∧ Below W.heap.size W w')
    (hlen : (joined (lines T l false l.length) ⟨#[10]⟩).size ≤ 100000) :
    Calls Tryd.prog 22 #[.agg #[v, .bool false]] w fun r w' => r = .returned (.tuple #[.string (repTxt T l false), .int .i64 0]) ∧ Below w.heap.size w w' := by
  obtain ⟨i0, hi, hz0, hq1, hq2⟩ := info_parts info_str
  have hI := Lib.hid hi
  have hZ := Lib.hid hz0
  clear hi hz0
  have hl4 := repOk_le hok
  have HV := Lib.hid hv
  have HS := Lib.hid hs
  have HOK := Lib.hid hok
  have HT := Lib.hid hT
  obtain ⟨A, c, rfl, hn⟩ := sl_len hv
  clear hv hs hok hT
  go_enter Tryd.func22, Tryd.ntmps22
  go_wp2_with (go_at_call 12; refine (repValid_any _ l _ _ (HV.out.below ((Below.refl _ _).alloc (Nat.le_refl _) _)) HS.out (by omega)).mono ?_; rintro e w2 ⟨rfl, hb2⟩; rw [HOK.out]; obtain ⟨hE2, hB2, hz2⟩ := boxed hb2; obtain ⟨hc2, hf2⟩ := hE2.facts; have HB2 := Lib.hid hB2; clear hb2 hE2 hB2)
  go_loopw [4, 20] (fun v i wr => ∃ k : Nat, k ≤ l.length ∧ i = .int .i64 k ∧ wr.ownsRow w.heap.size 9 1 v (1 + k) ((lines T l false k).map .string) ∧ Below w.heap.size w wr) (fun _ i _ => l.length - (intOf i).toNat)
  case atStart =>
    refine ⟨0, Nat.zero_le _, rfl, ?_, HB2.out.alloc (by omega) _⟩
    exact own_of_has (n := 1) (sz := 1) (Has.new w2 9 _) (by omega) rfl (by simp [maxLen])
  case round =>
    obtain ⟨k, hk, rfl, hown, hB⟩ := hrel
    by_cases hlt : k < l.length
    · obtain ⟨A1, c1, he1, hn1, h0 | ⟨b, o, rfl, hc⟩⟩ := HV.out
      · omega
      obtain ⟨rfl, rfl⟩ : A = some ⟨b, o, none⟩ ∧ c = c1 := by injection he1; exact ⟨by assumption, by assumption⟩
      have hrg : wr.rangeAt b (o + k * 14) (l.getD k noEv).cells.toList := ev_range (fun j hj => cell_later hB (hc j hj)) hlt
      have hsucc := Lib.hid (lines_succ T l false k hlt)
      have hshort := HS.out _ (getD_mem l k noEv hlt)
      have htx := Lib.hid (HT.out _ (getD_mem l k noEv hlt))
      have HOWN := Lib.hid hown
      have HB := Lib.hid hB
      clear hc he1 hown hB
      generalize l.getD k noEv = ev at *
      obtain ⟨op, day, part, kind, into, slot, key, value, kl, kh, cl, ch, ll, lh⟩ := ev
      replace hrg : wr.rangeAt b (o + k * 14) [.int .i64 op, .int .i64 day, .string part, .string kind, .string into, .string slot, .string key, .string value, .int .i64 kl, .int .i64 kh, .int .i64 cl, .int .i64 ch, .int .i64 ll, .int .i64 lh] := hrg
      go_wp2_with (first | ((with_reducible show wpList _ _ _ (Oper.mk (some 23) _ _ _ _ _ :: _) _ _); refine wpList_load_mid rfl 39 _ rfl b (o + k * 14) rfl _ _ hrg Tryd.underlying39 rfl rfl ?_) | (go_at_call 33; refine (htx.out _).mono ?_; rintro e w5 ⟨rfl, hb5⟩; have hown5 := (HOWN.out.alloc _).kept (row := none) (World.grownBy_of_below hb5) (by cases Value.ownBlock _ <;> simp); have HOWN5 := Lib.hid hown5; have HB5 := Lib.hid hb5; clear hb5 hown5) | (at_builtin; refine wpList_append_own _ rfl (.tmp 29) (.tmp 31) 45 rfl w.heap.size 9 i0 (.string ⟨#[]⟩) 1 16 Tryd.underlying45 hI.out hZ.out hq1 hq2 rfl (by decide) _ _ _ rfl (HOWN5.out.alloc _) ⟨w5.heap.size, 0, none⟩ 1 1 [.string (T ⟨op, day, part, kind, into, slot, key, value, kl, kh, cl, ch, ll, lh⟩)] rfl rfl ?c1 ?c2 ?c3 ?c4 ?c5 ?_))
      case c1 => exact cell_one_new _ _ _
      case c2 => intro u hu; simp at hu; subst hu; rfl
      case c3 => unfold maxLen; omega
      case c4 => omega
      case c5 => have := HB.out.size; have := HB5.out.size; simp at this ⊢; omega
      · intro v' w6 hown6 hg6 _
        have h5 : wr.heap.size + 1 ≤ w5.heap.size := by have := HB5.out.size; simpa using this
        have h0 := HB.out.size
        have b5 : Below w.heap.size w w5 := (HB.out.alloc (by omega) _).trans (HB5.out.mono (by simp; omega))
        have b6 : Below w.heap.size w w6 := (b5.alloc (by omega) _).grown hg6 (by simp; omega) (fun j hj => (HOWN5.out.lt j hj).1)
        have B6 := Lib.hid b6
        have HOWN6 := Lib.hid hown6
        clear b5 b6 hown6 hg6
        go_wp2_with fail
        go_roundw
        case rel => exact ⟨k + 1, by omega, by go_num, by rw [hsucc.out, List.map_append]; exact HOWN6.out, B6.out⟩
        case measure => simp [intOf]; omega
    · obtain rfl : k = l.length := by omega
      have HOWN := Lib.hid (show wr.ownsRow w.heap.size 9 1 _ (lines T l false l.length).length ((lines T l false l.length).map .string) by rw [lines_len T l false l.length (Nat.le_refl _)]; exact hown)
      have HB := Lib.hid hB
      have hlen' : (lines T l false l.length).length ≤ 1000000 := by rw [lines_len T l false l.length (Nat.le_refl _)]; omega
      have hsz := hB.size
      clear hown hB
      go_wp2_with (go_at_call 34; refine (join_any _ (lines T l false l.length) _ _ (str_own HOWN.out) hlen' (by omega)).mono ?_; rintro e w9 ⟨rfl, hb9⟩)
      go_ret2
      exact ⟨rfl, HB.out.trans (hb9.mono hsz)⟩

set_option maxRecDepth 100000 in
set_option maxHeartbeats 4000000 in
theorem repText_t (v : Value) (l : List Ev) (T : Ev → ByteArray) (w : World) (hv : Sl w v l.length 14 (evF l)) (hs : ∀ e ∈ l, e.short) (hok : repOk l = true)
    (hT : ∀ e ∈ l, ∀ W : World, Calls Tryd.prog 33 #[.agg e.cells] W fun r w' => r = .returned (.tuple #[.string (T e), .int .i64 0]) ∧ Below W.heap.size W w')
    (hlen : (joined (lines T l true l.length) ⟨#[10]⟩).size ≤ 100000) :
    Calls Tryd.prog 22 #[.agg #[v, .bool true]] w fun r w' => r = .returned (.tuple #[.string (repTxt T l true), .int .i64 0]) ∧ Below w.heap.size w w' := by
  obtain ⟨i0, hi, hz0, hq1, hq2⟩ := info_parts info_str
  have hI := Lib.hid hi
  have hZ := Lib.hid hz0
  clear hi hz0
  have hl4 := repOk_le hok
  have HV := Lib.hid hv
  have HS := Lib.hid hs
  have HOK := Lib.hid hok
  have HT := Lib.hid hT
  obtain ⟨A, c, rfl, hn⟩ := sl_len hv
  clear hv hs hok hT
  go_enter Tryd.func22, Tryd.ntmps22
  go_wp2_with (go_at_call 12; refine (repValid_any _ l _ _ (HV.out.below ((Below.refl _ _).alloc (Nat.le_refl _) _)) HS.out (by omega)).mono ?_; rintro e w2 ⟨rfl, hb2⟩; rw [HOK.out]; obtain ⟨hE2, hB2, hz2⟩ := boxed hb2; obtain ⟨hc2, hf2⟩ := hE2.facts; have HB2 := Lib.hid hB2; clear hb2 hE2 hB2)
  go_loopw [4, 20] (fun v i wr => ∃ k : Nat, k ≤ l.length ∧ i = .int .i64 k ∧ wr.ownsRow w.heap.size 9 1 v (1 + k) ((lines T l true k).map .string) ∧ Below w.heap.size w wr) (fun _ i _ => l.length - (intOf i).toNat)
  case atStart =>
    refine ⟨0, Nat.zero_le _, rfl, ?_, HB2.out.alloc (by omega) _⟩
    exact own_of_has (n := 1) (sz := 1) (Has.new w2 9 _) (by omega) rfl (by simp [maxLen])
  case round =>
    obtain ⟨k, hk, rfl, hown, hB⟩ := hrel
    by_cases hlt : k < l.length
    · obtain ⟨A1, c1, he1, hn1, h0 | ⟨b, o, rfl, hc⟩⟩ := HV.out
      · omega
      obtain ⟨rfl, rfl⟩ : A = some ⟨b, o, none⟩ ∧ c = c1 := by injection he1; exact ⟨by assumption, by assumption⟩
      have hrg : wr.rangeAt b (o + k * 14) (l.getD k noEv).cells.toList := ev_range (fun j hj => cell_later hB (hc j hj)) hlt
      have hsucc := Lib.hid (lines_succ T l true k hlt)
      have hshort := HS.out _ (getD_mem l k noEv hlt)
      have htx := Lib.hid (HT.out _ (getD_mem l k noEv hlt))
      have HOWN := Lib.hid hown
      have HB := Lib.hid hB
      clear hc he1 hown hB
      generalize l.getD k noEv = ev at *
      obtain ⟨op, day, part, kind, into, slot, key, value, kl, kh, cl, ch, ll, lh⟩ := ev
      replace hrg : wr.rangeAt b (o + k * 14) [.int .i64 op, .int .i64 day, .string part, .string kind, .string into, .string slot, .string key, .string value, .int .i64 kl, .int .i64 kh, .int .i64 cl, .int .i64 ch, .int .i64 ll, .int .i64 lh] := hrg
      go_wp2_with (first | ((with_reducible show wpList _ _ _ (Oper.mk (some 23) _ _ _ _ _ :: _) _ _); refine wpList_load_mid rfl 39 _ rfl b (o + k * 14) rfl _ _ hrg Tryd.underlying39 rfl rfl ?_) | (go_at_call 33; refine (htx.out _).mono ?_; rintro e w5 ⟨rfl, hb5⟩; have hown5 := (HOWN.out.alloc _).kept (row := none) (World.grownBy_of_below hb5) (by cases Value.ownBlock _ <;> simp); have HOWN5 := Lib.hid hown5; have HB5 := Lib.hid hb5; clear hb5 hown5) | (at_builtin; refine wpList_append_own _ rfl (.tmp 29) (.tmp 31) 45 rfl w.heap.size 9 i0 (.string ⟨#[]⟩) 1 16 Tryd.underlying45 hI.out hZ.out hq1 hq2 rfl (by decide) _ _ _ rfl (HOWN5.out.alloc _) ⟨w5.heap.size, 0, none⟩ 1 1 [.string (T ⟨op, day, part, kind, into, slot, key, value, kl, kh, cl, ch, ll, lh⟩)] rfl rfl ?c1 ?c2 ?c3 ?c4 ?c5 ?_))
      case c1 => exact cell_one_new _ _ _
      case c2 => intro u hu; simp at hu; subst hu; rfl
      case c3 => unfold maxLen; omega
      case c4 => omega
      case c5 => have := HB.out.size; have := HB5.out.size; simp at this ⊢; omega
      · intro v' w6 hown6 hg6 _
        have h5 : wr.heap.size + 1 ≤ w5.heap.size := by have := HB5.out.size; simpa using this
        have h0 := HB.out.size
        have b5 : Below w.heap.size w w5 := (HB.out.alloc (by omega) _).trans (HB5.out.mono (by simp; omega))
        have b6 : Below w.heap.size w w6 := (b5.alloc (by omega) _).grown hg6 (by simp; omega) (fun j hj => (HOWN5.out.lt j hj).1)
        have B6 := Lib.hid b6
        have HOWN6 := Lib.hid hown6
        clear b5 b6 hown6 hg6
        go_wp2_with fail
        go_roundw
        case rel => exact ⟨k + 1, by omega, by go_num, by rw [hsucc.out, List.map_append]; exact HOWN6.out, B6.out⟩
        case measure => simp [intOf]; omega
    · obtain rfl : k = l.length := by omega
      have HOWN := Lib.hid (show wr.ownsRow w.heap.size 9 1 _ (lines T l true l.length).length ((lines T l true l.length).map .string) by rw [lines_len T l true l.length (Nat.le_refl _)]; exact hown)
      have HB := Lib.hid hB
      have hlen' : (lines T l true l.length).length ≤ 1000000 := by rw [lines_len T l true l.length (Nat.le_refl _)]; omega
      have hsz := hB.size
      clear hown hB
      go_wp2_with (go_at_call 34; refine (join_any _ (lines T l true l.length) _ _ (str_own HOWN.out) hlen' (by omega)).mono ?_; rintro e w9 ⟨rfl, hb9⟩)
      go_ret2
      exact ⟨rfl, HB.out.trans (hb9.mono hsz)⟩

end Go.Proofs.YtmbalkebdmdmaaaDoor
