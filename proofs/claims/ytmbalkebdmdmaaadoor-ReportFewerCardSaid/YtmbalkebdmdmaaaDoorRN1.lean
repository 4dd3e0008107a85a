/- bogielaw13.ReportNames returns true: the walk. -/
import Derived.Test.YtmbalkebdmdmaaaDoorRNm
import Derived.Test.YtmbalkebdmdmaaaDoorHead
import Derived.Deep.QuietTactic
import Derived.BigQuiet
import Derived.WalkLawsBesides
namespace Go.Proofs.YtmbalkebdmdmaaaDoor
open Go Go.RowKit
theorem reps_one {w : World} {v : Value} {l : List Ev} {d : Bool} {t : Nat} (hv : Sl w v l.length 14 (evF l)) : Reps (w.alloc (.cells #[v, .bool d] t)) (.slice (some ⟨w.heap.size, 0, none⟩) 1 1) [⟨l, d⟩] := by
  have h := Has.new w t #[v, .bool d]
  refine ⟨_, 1, rfl, Nat.le_refl _, .inr ⟨w.heap.size, 0, rfl, fun i hi => ?_⟩⟩
  obtain rfl : i = 0 := by simpa using hi
  exact ⟨v, h.cell 0, h.cell 1, hv.below ((Below.refl _ _).alloc (Nat.le_refl _) _)⟩
theorem few_one {l : List Ev} {d : Bool} (h : fewB [⟨l, d⟩] 0 = true) : l.length ≤ 6 := by
  simp only [fewB, fewR, Bool.and_eq_true, decide_eq_true_eq, List.all_eq_true] at h
  have := h.1.2 ⟨l, d⟩ (by simp)
  simp only [fewE, Bool.and_eq_true, decide_eq_true_eq] at this
  exact this.2
def fB (l : List Ev) (name : ByteArray) (k : Nat) : Bool := inB ((l.take k).map evNames).flatten name
theorem inB_app (a b : List ByteArray) (s : ByteArray) : inB (a ++ b) s = (inB a s || inB b s) := by simp [inB]
theorem fB_zero (l : List Ev) (name : ByteArray) : fB l name 0 = false := by simp [fB, inB]
theorem fB_succ (l : List Ev) (name : ByteArray) (k : Nat) (h : k < l.length) : fB l name (k + 1) = (fB l name k || inB (evNames (l.getD k noEv)) name) := by
  unfold fB
  rw [take_getD l k noEv h, List.map_append, List.flatten_append, inB_app]
  simp
theorem inB_congr {a b : List ByteArray} {s : ByteArray} (h : s ∈ a ↔ s ∈ b) : inB a s = inB b s := by
  rw [Bool.eq_iff_iff, inB_iff, inB_iff]; exact h
theorem names_end {l : List Ev} {name : ByteArray} : inB (repNames l) name = (fB l name l.length && repOk l) := by
  unfold repNames fB
  rw [List.take_length]
  cases repOk l
  · simp [inB]
  · rw [if_pos rfl, Bool.and_true]
    exact inB_congr (joinL_mem _ _)
theorem names_in {l : List Ev} (hok : repOk l = true) {k j : Nat} (hk : k < l.length) (hj : j < (evNames (l.getD k noEv)).length) : inB (repNames l) ((evNames (l.getD k noEv)).getD j ByteArray.empty) = true := by
  rw [inB_iff]
  unfold repNames
  rw [hok, if_pos rfl, joinL_mem, List.mem_flatten]
  refine ⟨evNames (l.getD k noEv), List.mem_map.2 ⟨_, getD_mem l k noEv hk, rfl⟩, ?_⟩
  exact getD_mem _ _ _ hj

theorem boxed_next {w w1 w2 : World} {t g B : Nat} {cs : Array Value} {o : Obj} (h : Has w1 g t cs) (hB : Below B w w1) (hs : g < w1.heap.size) (hBs : B ≤ w1.heap.size) (hb : Below (w1.alloc o).heap.size (w1.alloc o) w2) : Has w2 g t cs ∧ Below B w w2 ∧ g < w2.heap.size :=
  (h.alloc o).next (hB.alloc hBs o) (by simp; omega) hb (by simp; omega)
theorem str_lt {x y : ByteArray} (h : toL x < toL y) : Op.bytesLess x.toList y.toList = true := by
  rw [Proofs.bytesLess_eq, Lib.toList_data, Lib.toList_data]
  exact decide_eq_true h
theorem str_row {w : World} {b t : Nat} {v : Value} {q : List ByteArray} (h : w.ownsRow b t 1 v q.length (q.map .string)) : Sl w v q.length 1 (strF q) :=
  (sl_row h).congr fun j hj => by
    have hj' : j < q.length := by omega
    rw [List.getElem?_map, List.getElem?_eq_getElem hj']
    unfold strF
    rw [List.getD_eq_getElem?_getD, List.getElem?_eq_getElem hj']; rfl
set_option maxRecDepth 100000 in
set_option maxHeartbeats 8000000 in
theorem rn_any (v : Value) (l : List Ev) (d : Bool) (name : ByteArray) (w : World) (hv : Sl w v l.length 14 (evF l)) (hs : ∀ e ∈ l, e.short) (hl : l.length ≤ 9223372036854775807) (_hname : name.size ≤ maxLen) :
    Calls Tryd.prog 6 #[.agg #[v, .bool d], .string name] w fun r w' => r = .returned (.bool true) ∧ Below w.heap.size w w' := by
  have HV := Lib.hid hv
  have HS := Lib.hid hs
  obtain ⟨A, c, rfl, hn⟩ := sl_len hv
  clear hv hs
  go_enter Tryd.func6, Tryd.ntmps6
  go_wp2_with fail
  refine (head_any _).mono ?_
  rintro e w1 ⟨rfl, hb1⟩
  obtain ⟨hE1, hB1, hz1⟩ := boxed hb1
  obtain ⟨hc1, hf1⟩ := hE1.facts
  have HE1 := Lib.hid hE1
  have HB1 := Lib.hid hB1
  clear hb1 hE1 hB1
  go_wp2_with fail
  refine (few_any _ _ [⟨l, d⟩] 0 0 none _ rfl (reps_one (HV.out.below HB1.out)) (by simp) (fun r hr => by simp at hr; subst hr; exact hl)).mono ?_
  rintro e w2 ⟨rfl, hb2⟩
  obtain ⟨hE2, hB2, hz2⟩ := boxed_next HE1.out HB1.out hz1 HB1.out.size hb2
  obtain ⟨hc2, hf2⟩ := hE2.facts
  have HE2 := Lib.hid hE2
  have HB2 := Lib.hid hB2
  clear hb2 hE2 hB2 hc1 hf1 HE1 hz1
  cases hfew : fewB [⟨l, d⟩] 0
  · clear hfew
    go_wp2_with fail
    go_ret
    exact ⟨rfl, HB2.out⟩
  · have hl6 := few_one hfew
    clear hfew hl
    rcases (show decide ((300 : Int) < (name.size : Int)) = true ∨ decide ((300 : Int) < (name.size : Int)) = false by cases decide ((300 : Int) < (name.size : Int)) <;> simp) with hn3 | hn3
    · go_wp2_with fail
      go_ret
      exact ⟨rfl, HB2.out⟩
    · go_wp2_with fail
      refine (rnames_any _ l d _ (HV.out.below HB2.out) HS.out (by omega)).mono ?_
      rintro e w3 ⟨v3, rfl, hs3, hb3⟩
      obtain ⟨hE3, hB3, hz3⟩ := HE2.out.next HB2.out hz2 hb3 HB2.out.size
      obtain ⟨hc3, hf3⟩ := hE3.facts
      obtain ⟨A3, c3, rfl, hn3'⟩ := sl_len hs3
      have hQ : (repNames l).length ≤ 12 := by
        unfold repNames
        split
        · have := joinL_len (l.map evNames).flatten
          have := flat_le l
          omega
        · simp
      have HS3 := Lib.hid hs3
      have HE3 := Lib.hid hE3
      have HB3 := Lib.hid hB3
      have HQL := Lib.hid (fun (k : Nat) (h : k + 1 < (repNames l).length) => show toL ((repNames l).getD k ByteArray.empty) < toL ((repNames l).getD (k + 1) ByteArray.empty) by
        unfold repNames at h ⊢
        split at h
        · rw [if_pos (by assumption)]; exact joinL_step _ k h
        · simp at h)
      have HIN := Lib.hid (fun (hok : repOk l = true) (k j : Nat) (hk : k < l.length) (hj : j < (evNames (l.getD k noEv)).length) => names_in hok hk hj)
      have HEND := Lib.hid (names_end (l := l) (name := name))
      clear hb3 hE3 hB3 hs3 hc2 hf2 HE2 hz2
      generalize repNames l = Q at *
      go_wp2_with fail
      go_loopw [7] (fun i wr => ∃ k : Nat, 1 ≤ k ∧ i = .int .i64 k ∧ k ≤ 13 ∧ Below w3.heap.size w3 wr) (fun i _ => 13 - (intOf i).toNat)
      case atStart => exact ⟨1, Nat.le_refl _, rfl, by omega, Below.refl _ _⟩
      case round =>
        obtain ⟨k, hk1, rfl, hk13, hB4⟩ := hrel
        obtain ⟨m, rfl⟩ : ∃ m, k = m + 1 := ⟨k - 1, by omega⟩
        by_cases hlt : m + 1 < Q.length
        · obtain ⟨A4, c4, he4, hn4, h0 | ⟨b, o, rfl, hc⟩⟩ := HS3.out
          · omega
          obtain ⟨rfl, rfl⟩ : A3 = some ⟨b, o, none⟩ ∧ c3 = c4 := by injection he4; exact ⟨by assumption, by assumption⟩
          have hd1 : wr.cell? ⟨b, o + m, none⟩ = some (.string (Q.getD m ByteArray.empty)) := cell_later hB4 (hc m (by omega))
          have hd2 : wr.cell? ⟨b, o + (m + 1), none⟩ = some (.string (Q.getD (m + 1) ByteArray.empty)) := cell_later hB4 (hc (m + 1) (by omega))
          have hstep := str_lt (HQL.out m hlt)
          have HB4 := Lib.hid hB4
          clear hc he4 hB4
          generalize Q.getD m ByteArray.empty = x at *
          generalize Q.getD (m + 1) ByteArray.empty = y at *
          have hlt2 : decide ((m : Int) + 1 < (Q.length : Int)) = true := by rw [decide_eq_true_iff]; omega
          go_wp2_with fail
          go_quiet (fail)
          go_wp2_with fail
          go_roundw
          case rel => exact ⟨m + 2, by omega, by go_num, by omega, below_drewN HB4.out _⟩
          case measure => simp [intOf]; omega
        · have hlt2 : decide ((m : Int) + 1 < (Q.length : Int)) = false := by rw [decide_eq_false_iff_not]; omega
          obtain ⟨wl, rfl⟩ : ∃ wl : World, wl = wr := ⟨_, rfl⟩
          have hE4 := HE3.out.below hB4 hz3
          have hz4 := Nat.lt_of_lt_of_le hz3 hB4.size
          have HE4 := Lib.hid hE4
          have HB4 := Lib.hid (HB3.out.trans (hB4.mono HB3.out.size))
          have HS4 := Lib.hid (HS3.out.below hB4)
          clear hE4 hB4 HE3 HB3 HS3 hz3
          cases hok : repOk l
          all_goals
            have HOK := Lib.hid hok
            rw [hok] at HEND
            clear hok
            go_wp2_with fail
            go_loopw [8, 9] (fun f i wr => ∃ k : Nat, k ≤ l.length ∧ i = .int .i64 k ∧ f = .bool (fB l name k) ∧ Below wl.heap.size wl wr) (fun _ i _ => l.length - (intOf i).toNat)
            case atStart => exact ⟨0, Nat.zero_le _, rfl, by rw [fB_zero], Below.refl _ _⟩
            case round =>
              obtain ⟨k, hk, rfl, rfl, hB5⟩ := hrel
              have hB5w := HB4.out.trans (hB5.mono HB4.out.size)
              have hE5 := HE4.out.below hB5 hz4
              obtain ⟨hc5, hf5⟩ := hE5.facts
              have hz5 := Nat.lt_of_lt_of_le hz4 hB5.size
              have HS5 := Lib.hid (HS4.out.below hB5)
              obtain ⟨wo, rfl⟩ : ∃ wo : World, wo = wr := ⟨_, rfl⟩
              by_cases hlt : k < l.length
              · obtain ⟨A1, c1, he1, hn1, h0 | ⟨b, o, rfl, hc⟩⟩ := HV.out
                · omega
                obtain ⟨rfl, rfl⟩ : A = some ⟨b, o, none⟩ ∧ c = c1 := by injection he1; exact ⟨by assumption, by assumption⟩
                have hrg : wo.rangeAt b (o + k * 14) (l.getD k noEv).cells.toList := ev_range (fun j hj => cell_later hB5w (hc j hj)) hlt
                have hshort := HS.out _ (getD_mem l k noEv hlt)
                have hfs := Lib.hid (fB_succ l name k hlt)
                have hin := Lib.hid (fun h j hj => HIN.out h k j hlt hj)
                have HE5 := Lib.hid hE5
                have HB5 := Lib.hid hB5
                have HB5w := Lib.hid hB5w
                clear hc he1 hE5 hB5 hB5w
                generalize l.getD k noEv = ev at *
                have hel := evNames_le ev
                have hcon : Hid (∀ W, Calls Tryd.prog 19 #[.agg ev.cells] W fun r w' => ∃ A c, r = .returned (.slice A (evNames ev).length c) ∧ Sl w' (.slice A (evNames ev).length c) (evNames ev).length 1 (strF (evNames ev)) ∧ Below W.heap.size W w') := fun W => (names_any ev W hshort).mono fun r w' ⟨v', h1, h2, h3⟩ => by
                  obtain ⟨A, c, rfl⟩ := own_form h2
                  exact ⟨A, c, h1, str_row h2, h3⟩
                generalize evNames ev = nm at *
                obtain ⟨op, day, part, kind, into, slot, key, value, kl, kh, cl, ch, ll, lh⟩ := ev
                replace hrg : wo.rangeAt b (o + k * 14) [.int .i64 op, .int .i64 day, .string part, .string kind, .string into, .string slot, .string key, .string value, .int .i64 kl, .int .i64 kh, .int .i64 cl, .int .i64 ch, .int .i64 ll, .int .i64 lh] := hrg
                cases hfb : fB l name k
                all_goals cases hib : inB nm name
                all_goals
                  have HIB := Lib.hid hib
                  rw [hfb, hib] at hfs
                  clear hfb hib
                  go_wp2_with (first | ((with_reducible show wpList _ _ _ (Oper.mk (some 52) _ _ _ _ _ :: _) _ _); refine wpList_load_mid rfl 39 _ rfl b (o + k * 14) rfl _ _ hrg Tryd.underlying39 rfl rfl ?_) | (go_at_call 19; refine (hcon.out _).mono ?_; rintro e w6 ⟨A6, c6, rfl, hs6, hb6⟩; have hE6 := HE5.out.below hb6 hz5; have hz6 := Nat.lt_of_lt_of_le hz5 hb6.size; obtain ⟨hc6, hf6⟩ := hE6.facts; have HE6 := Lib.hid hE6; have HS6 := Lib.hid hs6; have HQ6 := Lib.hid (HS5.out.below hb6); have HB6 := Lib.hid (HB5w.out.trans (hb6.mono HB5w.out.size)); have HD6 := Lib.hid (HB5.out.trans (hb6.mono HB5.out.size)); clear hb6 hE6 hs6) | (go_at_call 21; refine (in_any _ nm name _ HS6.out (by omega)).mono ?_; rintro e w7 ⟨rfl, h7⟩; obtain rfl := h7.symm; rw [HIB.out]))
                  go_loopw [11] (fun j wr => ∃ m : Nat, m ≤ nm.length ∧ j = .int .i64 m ∧ Below w6.heap.size w6 wr) (fun j _ => nm.length - (intOf j).toNat)
                  case atStart => exact ⟨0, Nat.zero_le _, rfl, Below.refl _ _⟩
                  case round =>
                    obtain ⟨m, hm, rfl, hB7⟩ := hrel
                    by_cases hmt : m < nm.length
                    · obtain ⟨A8, c8, he8, hn8, h0 | ⟨g, o8, rfl, hc8⟩⟩ := HS6.out
                      · omega
                      obtain ⟨rfl, rfl⟩ : A6 = some ⟨g, o8, none⟩ ∧ c6 = c8 := by injection he8; exact ⟨by assumption, by assumption⟩
                      have hd8 : wr.cell? ⟨g, o8 + m, none⟩ = some (.string (nm.getD m ByteArray.empty)) := cell_later hB7 (hc8 m (by omega))
                      have hE7 := HE6.out.below hB7 hz6
                      obtain ⟨hc7, hf7⟩ := hE7.facts
                      have hin2 := Lib.hid (fun h => hin.out h m (by omega))
                      have HB7 := Lib.hid hB7
                      clear hc8 he8 hE7 hB7
                      generalize nm.getD m ByteArray.empty = x at *
                      have hgl := World.block_lt_of_cell? _ _ hd8
                      go_wp2_with (first | (go_at_call 12; refine (repValid_any _ l d _ (HV.out.below (HB6.out.trans (HB7.out.mono HB6.out.size))) HS.out (by omega)).mono ?_; rintro q w8 ⟨rfl, hb8⟩; rw [HOK.out]; have hd9 := cell_later hb8 hd8; have HB8 := Lib.hid (HB7.out.trans (hb8.mono HB7.out.size)); clear hb8) | (go_at_call 21; refine (in_any _ Q x _ (HQ6.out.below HB8.out) (by omega)).mono ?_; rintro e w9 ⟨rfl, h9⟩; obtain rfl := h9.symm; rw [hin2.out HOK.out]))
                      go_roundw
                      case rel => exact ⟨m + 1, by omega, by go_num, HB8.out⟩
                      case measure => simp [intOf]; omega
                    · obtain rfl : m = nm.length := by omega
                      have HB7 := Lib.hid hB7
                      clear hB7
                      go_wp2_with fail
                      go_roundw
                      case rel => first | exact ⟨k + 1, by omega, by go_num, by rw [hfs.out]; rfl, HD6.out.trans (HB7.out.mono HD6.out.size)⟩ | ((repeat apply Exists.intro); exact ⟨⟨k + 1, by omega, by go_num, by rw [hfs.out]; rfl, HD6.out.trans (HB7.out.mono HD6.out.size)⟩, rfl⟩)
                      case measure => simp [intOf]; omega
              · obtain rfl : k = l.length := by omega
                have HB5w := Lib.hid hB5w
                clear hB5 hE5 hB5w
                cases hfb : fB l name l.length
                all_goals
                  rw [hfb] at HEND
                  clear hfb
                  go_wp2_with (first | (go_at_call 21; refine (in_any _ Q name _ HS5.out (by omega)).mono ?_; rintro e w7 ⟨rfl, h7⟩; obtain rfl := h7.symm; rw [HEND.out]) | (go_at_call 12; refine (repValid_any _ l d _ (HV.out.below HB5w.out) HS.out (by omega)).mono ?_; rintro q w8 ⟨rfl, hb8⟩; rw [HOK.out]; have HB8 := Lib.hid (HB5w.out.trans (hb8.mono HB5w.out.size)); clear hb8))
                  go_ret
                  first | exact ⟨rfl, HB8.out⟩ | exact ⟨rfl, HB5w.out⟩
end Go.Proofs.YtmbalkebdmdmaaaDoor
