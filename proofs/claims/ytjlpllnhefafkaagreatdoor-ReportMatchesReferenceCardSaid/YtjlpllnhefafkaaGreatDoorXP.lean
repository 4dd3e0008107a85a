/- bogieref05.next: the token that begins at an offset. Condition: the text is not too long. -/
import Derived.Test.YtjlpllnhefafkaaGreatDoorXO
namespace Go.Proofs.YtjlpllnhefafkaaGreatDoor
open Go Go.RowKit
/-- What next says of the token at offset i. -/
def NextIs (s : ByteArray) (i : Nat) (x : Fnd) (j : Nat) : Prop :=
  (x.err = 0 → x.pos = (i : Nat) ∧ i < j ∧ j ≤ s.size ∧ ∀ n, lexGo s (n + 1) i = x :: lexGo s n j) ∧ (x.err ≠ 0 → ∀ n, ∃ y : Fnd, y.err = x.err ∧ y.pos = (i : Nat) ∧ lexGo s (n + 1) i = [y])
theorem NextIs.ok {s : ByteArray} {i j : Nat} {k : Int} {t : ByteArray} (h1 : i < j) (h2 : j ≤ s.size) (h : ∀ n, lexGo s (n + 1) i = ⟨k, t, i, 0⟩ :: lexGo s n j) : NextIs s i ⟨k, t, i, 0⟩ j :=
  ⟨fun _ => ⟨rfl, h1, h2, h⟩, fun h => absurd rfl h⟩
theorem NextIs.bad {s : ByteArray} {i : Nat} {k er : Int} {t : ByteArray} (h0 : er ≠ 0) (h : ∀ n, lexGo s (n + 1) i = [⟨k, t, i, er⟩]) : NextIs s i ⟨0, ⟨#[]⟩, 0, er⟩ 0 :=
  ⟨fun h => absurd h h0, fun _ n => ⟨⟨k, t, i, er⟩, rfl, rfl, h n⟩⟩
theorem put3 {B : Nat} {w V : World} {g t : Nat} {a b c : Value} (hb : Below B w V) (hg : B ≤ g) (h : Has V g t #[a, b, c]) (u v z : Value) :
    Has (((V.setCell ⟨g, 0, none⟩ u).setCell ⟨g, 1, none⟩ v).setCell ⟨g, 2, none⟩ z) g t #[u, v, z] ∧ Below B w (((V.setCell ⟨g, 0, none⟩ u).setCell ⟨g, 1, none⟩ v).setCell ⟨g, 2, none⟩ z) :=
  ⟨by have h1 := ((h.put 0 u).put 1 v).put 2 z; simpa using h1, ((hb.setCell (p := ⟨g, 0, none⟩) hg u).setCell (p := ⟨g, 1, none⟩) hg v).setCell (p := ⟨g, 2, none⟩) hg z⟩
theorem wordP_eq {s : ByteArray} {j : Nat} (h : j < s.size) : wordP s j = wrdB s[j].toNat := by
  have hc := class_eq h
  rw [byteAt_eq s j h] at hc
  obtain ⟨h1, h2, h3⟩ := cls_is s[j].toNat
  unfold wordP wrdB
  rw [hc, Bool.eq_iff_iff]
  simp only [Bool.or_eq_true, beq_iff_eq, decide_eq_true_iff, h1, h2, h3]
theorem digP_eq {s : ByteArray} {j : Nat} (h : j < s.size) : digP s j = digB s[j].toNat := by
  have hc := class_eq h
  rw [byteAt_eq s j h] at hc
  unfold digP
  rw [hc, Bool.eq_iff_iff, beq_iff_eq, (cls_is s[j].toNat).2.1]
theorem wordP_end {s : ByteArray} {j : Nat} (h : s.size ≤ j) : wordP s j = false := by
  unfold wordP clsAt; rw [if_neg (by omega)]; rfl
theorem digP_end {s : ByteArray} {j : Nat} (h : s.size ≤ j) : digP s j = false := by
  unfold digP clsAt; rw [if_neg (by omega)]; rfl
theorem word_after {s : ByteArray} {j : Nat} (hd : digP s j = false) : (clsAt s j = 3 ∨ clsAt s j = 5) ↔ wordP s j = true := by
  unfold digP at hd
  unfold wordP
  simp only [Bool.or_eq_true, beq_iff_eq]
  have := beq_eq_false_iff_ne.1 hd
  omega
set_option maxRecDepth 100000 in
set_option maxHeartbeats 8000000 in
theorem next_word (s : ByteArray) (i : Nat) (w : World) (hs : s.size ≤ 1000000) (hi : i < s.size) (hc : clsAt s i = 3) :
    Calls Tryz.prog 69 #[.string s, .int .i64 i] w fun e w' => Below w.heap.size w w' ∧ ∃ (x : Fnd) (j : Nat), e = .returned (.tuple #[.agg #[.int .i64 x.kind, .string x.text, .int .i64 x.pos], .int .i64 j, .int .i64 x.err]) ∧ NextIs s i x j := by
  have hii : (i : Int) < (s.size : Int) := by omega
  have hby := byteAt_eq s i hi
  have hb8 := UInt8.toNat_lt s[i]
  have hcl := class_eq hi
  rw [hby] at hcl
  obtain ⟨hc3, hc4, hc5⟩ := cls_is s[i].toNat
  have HA0 := Lib.hid (Has.new w 99 #[.int .i64 0, .string ⟨#[]⟩, .int .i64 0])
  have HB0 := Lib.hid ((Below.refl w.heap.size w).alloc (Nat.le_refl _) (.cells #[.int .i64 0, .string ⟨#[]⟩, .int .i64 0] 99))
  have HLT := Lib.hid (hc3.1 (hcl.symm.trans hc))
  have HC := Lib.hid hc
  have HW := Lib.hid (show wordP s i = true by unfold wordP; rw [hc]; rfl)
  clear hc hcl hby hc3 hc4 hc5
  go_enter Tryz.func69, Tryz.ntmps69
  go_wp2_with (go_at_call 77; refine (let_any _ _).mono ?_; rintro e w1 ⟨rfl, h⟩; obtain rfl := h.symm; rw [HLT.out])
  go_loopw [7] (fun e wr => ∃ j : Nat, i + 1 ≤ j ∧ j ≤ s.size ∧ e = .int .i64 j ∧ Hid (∀ q, i ≤ q → q < j → wordP s q = true) ∧ Hid (Has wr w.heap.size 99 #[.int .i64 0, .string ⟨#[]⟩, .int .i64 0]) ∧ Hid (Below w.heap.size w wr)) (fun e _ => s.size - (intOf e).toNat)
  case atStart => exact ⟨i + 1, Nat.le_refl _, by omega, by go_num, (fun q h1 h2 => (by obtain rfl : q = i := (by omega); exact HW.out)), HA0.out, HB0.out⟩
  case round =>
    obtain ⟨j, hij, hj, rfl, hq, HA, HB⟩ := hrel
    obtain ⟨xa, ya⟩ := HA.out.facts
    clear HA0 HB0
    by_cases hgo : j < s.size ∧ wordP s j = true
    · obtain ⟨hjl, hwp⟩ := hgo
      have hji : (j : Int) < (s.size : Int) := by omega
      have HQ := Lib.hid (upto_next hq.out hwp)
      have hwp2 := hwp
      rw [wordP_eq hjl] at hwp2
      have HWJ := Lib.hid hwp2
      clear hwp hwp2 hq xa ya
      go_wp2_with (go_at_call 76; refine (wrd_any _ _).mono ?_; rintro e w3 ⟨rfl, h⟩; obtain rfl := h.symm; rw [HWJ.out])
      go_roundw
      case rel => exact ⟨j + 1, by omega, by omega, by go_num, HQ.out, HA.out, HB.out⟩
      case measure => simp [intOf]; omega
    · have hwf : wordP s j = false := by
        by_cases hjl : j < s.size
        · cases h : wordP s j
          · rfl
          · exact absurd ⟨hjl, h⟩ hgo
        · exact wordP_end (by omega)
      have hE := word_end (by omega) hj hq.out hwf
      have HN : Hid (∀ n, lexGo s (n + 1) i = if 24 < j - i then [⟨1, cut s i j, i, 7⟩] else ⟨1, cut s i j, i, 0⟩ :: lexGo s n j) := fun n => by
        rw [lexGo_succ, if_neg (by omega), if_neg (by rw [HC.out]; decide), if_neg (by rw [HC.out]; decide), if_pos HC.out, hE]
      clear hE
      by_cases h24 : 24 < j - i
      · have h24i : (24 : Int) < (j : Int) - (i : Int) := by omega
        have HR := Lib.hid (NextIs.bad (er := 7) (by decide) fun n => by rw [HN.out, if_pos h24])
        clear h24
        by_cases hjl : j < s.size
        · have hji : (j : Int) < (s.size : Int) := by omega
          rw [wordP_eq hjl] at hwf
          have HWJ := Lib.hid hwf
          clear hwf hgo hq
          go_wp2_with (go_at_call 76; refine (wrd_any _ _).mono ?_; rintro e w3 ⟨rfl, h⟩; obtain rfl := h.symm; rw [HWJ.out])
          obtain ⟨HF, HFB⟩ := put3 HB.out (Nat.le_refl _) HA.out (.int .i64 0) (.string ⟨#[]⟩) (.int .i64 0)
          obtain ⟨xf, yf⟩ := HF.facts
          refine bodyPost_ret (v := .tuple #[.agg #[.int .i64 0, .string ⟨#[]⟩, .int .i64 0], .int .i64 0, .int .i64 7]) (by simp [results, Tryz.results69, go_sem, xf]) rfl ?_
          exact ⟨HFB, ⟨0, ⟨#[]⟩, 0, 7⟩, 0, rfl, HR.out⟩
        · have hji : ¬ (j : Int) < (s.size : Int) := by omega
          clear hwf hgo hq
          go_wp2_with fail
          obtain ⟨HF, HFB⟩ := put3 HB.out (Nat.le_refl _) HA.out (.int .i64 0) (.string ⟨#[]⟩) (.int .i64 0)
          obtain ⟨xf, yf⟩ := HF.facts
          refine bodyPost_ret (v := .tuple #[.agg #[.int .i64 0, .string ⟨#[]⟩, .int .i64 0], .int .i64 0, .int .i64 7]) (by simp [results, Tryz.results69, go_sem, xf]) rfl ?_
          exact ⟨HFB, ⟨0, ⟨#[]⟩, 0, 7⟩, 0, rfl, HR.out⟩
      · have h24i : ¬ (24 : Int) < (j : Int) - (i : Int) := by omega
        have HR := Lib.hid (NextIs.ok (show i < j by omega) hj fun n => by rw [HN.out, if_neg h24])
        have hIJ : (i : Int) ≤ (j : Int) := by omega
        have hJS : (j : Int) ≤ (s.size : Int) := by omega
        clear h24
        by_cases hjl : j < s.size
        · have hji : (j : Int) < (s.size : Int) := by omega
          rw [wordP_eq hjl] at hwf
          have HWJ := Lib.hid hwf
          clear hwf hgo hq
          go_wp2_with (go_at_call 76; refine (wrd_any _ _).mono ?_; rintro e w3 ⟨rfl, h⟩; obtain rfl := h.symm; rw [HWJ.out])
          obtain ⟨HF, HFB⟩ := put3 HB.out (Nat.le_refl _) HA.out (.int .i64 1) (.string (s.extract i j)) (.int .i64 i)
          obtain ⟨xf, yf⟩ := HF.facts
          refine bodyPost_ret (v := .tuple #[.agg #[.int .i64 1, .string (s.extract i j), .int .i64 i], .int .i64 j, .int .i64 0]) (by simp [results, Tryz.results69, go_sem, xf]) rfl ?_
          exact ⟨HFB, ⟨1, (s.extract i j), i, 0⟩, j, rfl, HR.out⟩
        · have hji : ¬ (j : Int) < (s.size : Int) := by omega
          clear hwf hgo hq
          go_wp2_with fail
          obtain ⟨HF, HFB⟩ := put3 HB.out (Nat.le_refl _) HA.out (.int .i64 1) (.string (s.extract i j)) (.int .i64 i)
          obtain ⟨xf, yf⟩ := HF.facts
          refine bodyPost_ret (v := .tuple #[.agg #[.int .i64 1, .string (s.extract i j), .int .i64 i], .int .i64 j, .int .i64 0]) (by simp [results, Tryz.results69, go_sem, xf]) rfl ?_
          exact ⟨HFB, ⟨1, (s.extract i j), i, 0⟩, j, rfl, HR.out⟩
set_option maxRecDepth 100000 in
set_option maxHeartbeats 8000000 in
theorem next_dig (s : ByteArray) (i : Nat) (w : World) (hs : s.size ≤ 1000000) (hi : i < s.size) (hc : clsAt s i = 4) :
    Calls Tryz.prog 69 #[.string s, .int .i64 i] w fun e w' => Below w.heap.size w w' ∧ ∃ (x : Fnd) (j : Nat), e = .returned (.tuple #[.agg #[.int .i64 x.kind, .string x.text, .int .i64 x.pos], .int .i64 j, .int .i64 x.err]) ∧ NextIs s i x j := by
  have hii : (i : Int) < (s.size : Int) := by omega
  have hby := byteAt_eq s i hi
  have hb8 := UInt8.toNat_lt s[i]
  have hcl := class_eq hi
  rw [hby] at hcl
  obtain ⟨hc3, hc4, hc5⟩ := cls_is s[i].toNat
  have HA0 := Lib.hid (Has.new w 99 #[.int .i64 0, .string ⟨#[]⟩, .int .i64 0])
  have HB0 := Lib.hid ((Below.refl w.heap.size w).alloc (Nat.le_refl _) (.cells #[.int .i64 0, .string ⟨#[]⟩, .int .i64 0] 99))
  have HLT : Hid (letB s[i].toNat = false) := by
    cases h : letB s[i].toNat
    · exact rfl
    · have := hc3.2 h; omega
  have HDG := Lib.hid (hc4.1 (hcl.symm.trans hc))
  have HC := Lib.hid hc
  have HW := Lib.hid (show digP s i = true by unfold digP; rw [hc]; rfl)
  clear hc hcl hby hc3 hc4 hc5
  go_enter Tryz.func69, Tryz.ntmps69
  go_wp2_with (first | (go_at_call 77; refine (let_any _ _).mono ?_; rintro e w1 ⟨rfl, h⟩; obtain rfl := h.symm; rw [HLT.out]) | (go_at_call 92; refine (dig_any _ _).mono ?_; rintro e w2 ⟨rfl, h⟩; obtain rfl := h.symm; rw [HDG.out]))
  go_loopw [7] (fun e wr => ∃ j : Nat, i + 1 ≤ j ∧ j ≤ s.size ∧ e = .int .i64 j ∧ Hid (∀ q, i ≤ q → q < j → digP s q = true) ∧ Hid (Has wr w.heap.size 99 #[.int .i64 0, .string ⟨#[]⟩, .int .i64 0]) ∧ Hid (Below w.heap.size w wr)) (fun e _ => s.size - (intOf e).toNat)
  case atStart => exact ⟨i + 1, Nat.le_refl _, by omega, by go_num, (fun q h1 h2 => (by obtain rfl : q = i := (by omega); exact HW.out)), HA0.out, HB0.out⟩
  case round =>
    obtain ⟨j, hij, hj, rfl, hq, HA, HB⟩ := hrel
    obtain ⟨xa, ya⟩ := HA.out.facts
    clear HA0 HB0
    by_cases hgo : j < s.size ∧ digP s j = true
    · obtain ⟨hjl, hwp⟩ := hgo
      have hji : (j : Int) < (s.size : Int) := by omega
      have HQ := Lib.hid (upto_next hq.out hwp)
      have hwp2 := hwp
      rw [digP_eq hjl] at hwp2
      have HDJ := Lib.hid hwp2
      clear hwp hwp2 hq xa ya
      go_wp2_with (go_at_call 92; refine (dig_any _ _).mono ?_; rintro e w4 ⟨rfl, h⟩; obtain rfl := h.symm; rw [HDJ.out])
      go_roundw
      case rel => exact ⟨j + 1, by omega, by omega, by go_num, HQ.out, HA.out, HB.out⟩
      case measure => simp [intOf]; omega
    · have hwf : digP s j = false := by
        by_cases hjl : j < s.size
        · cases h : digP s j
          · rfl
          · exact absurd ⟨hjl, h⟩ hgo
        · exact digP_end (by omega)
      have hE := dig_end (by omega) hj hq.out hwf
      have hWA := word_after hwf
      have HN : Hid (∀ n, lexGo s (n + 1) i = if 7 < j - i ∨ clsAt s j = 3 ∨ clsAt s j = 5 then [⟨2, cut s i j, i, 11⟩] else ⟨2, cut s i j, i, 0⟩ :: lexGo s n j) := fun n => by
        rw [lexGo_succ, if_neg (by omega), if_neg (by rw [HC.out]; decide), if_neg (by rw [HC.out]; decide), if_neg (by rw [HC.out]; decide), if_pos HC.out, hE]
      clear hE
      by_cases h7 : 7 < j - i
      · have h7i : (7 : Int) < (j : Int) - (i : Int) := by omega
        have HR := Lib.hid (NextIs.bad (er := 11) (by decide) fun n => by rw [HN.out, if_pos (.inl h7)])
        clear h7 hWA
        by_cases hjl : j < s.size
        · have hji : (j : Int) < (s.size : Int) := by omega
          rw [digP_eq hjl] at hwf
          have HDJ := Lib.hid hwf
          clear hwf hgo hq
          go_wp2_with (go_at_call 92; refine (dig_any _ _).mono ?_; rintro e w4 ⟨rfl, h⟩; obtain rfl := h.symm; rw [HDJ.out])
          obtain ⟨HF, HFB⟩ := put3 HB.out (Nat.le_refl _) HA.out (.int .i64 0) (.string ⟨#[]⟩) (.int .i64 0)
          obtain ⟨xf, yf⟩ := HF.facts
          refine bodyPost_ret (v := .tuple #[.agg #[.int .i64 0, .string ⟨#[]⟩, .int .i64 0], .int .i64 0, .int .i64 11]) (by simp [results, Tryz.results69, go_sem, xf]) rfl ?_
          exact ⟨HFB, ⟨0, ⟨#[]⟩, 0, 11⟩, 0, rfl, HR.out⟩
        · have hji : ¬ (j : Int) < (s.size : Int) := by omega
          clear hwf hgo hq
          go_wp2_with fail
          obtain ⟨HF, HFB⟩ := put3 HB.out (Nat.le_refl _) HA.out (.int .i64 0) (.string ⟨#[]⟩) (.int .i64 0)
          obtain ⟨xf, yf⟩ := HF.facts
          refine bodyPost_ret (v := .tuple #[.agg #[.int .i64 0, .string ⟨#[]⟩, .int .i64 0], .int .i64 0, .int .i64 11]) (by simp [results, Tryz.results69, go_sem, xf]) rfl ?_
          exact ⟨HFB, ⟨0, ⟨#[]⟩, 0, 11⟩, 0, rfl, HR.out⟩
      · have h7i : ¬ (7 : Int) < (j : Int) - (i : Int) := by omega
        by_cases hjl : j < s.size
        · have hji : (j : Int) < (s.size : Int) := by omega
          rw [digP_eq hjl] at hwf
          have HDJ := Lib.hid hwf
          by_cases hwj : wordP s j = true
          · have HR := Lib.hid (NextIs.bad (er := 11) (by decide) fun n => by rw [HN.out, if_pos (.inr (hWA.2 hwj))])
            rw [wordP_eq hjl] at hwj
            have HWJ := Lib.hid hwj
            clear hwf hgo hq h7 hWA hwj
            go_wp2_with (first | (go_at_call 92; refine (dig_any _ _).mono ?_; rintro e w4 ⟨rfl, h⟩; obtain rfl := h.symm; rw [HDJ.out]) | (go_at_call 76; refine (wrd_any _ _).mono ?_; rintro e w3 ⟨rfl, h⟩; obtain rfl := h.symm; rw [HWJ.out]))
            obtain ⟨HF, HFB⟩ := put3 HB.out (Nat.le_refl _) HA.out (.int .i64 0) (.string ⟨#[]⟩) (.int .i64 0)
            obtain ⟨xf, yf⟩ := HF.facts
            refine bodyPost_ret (v := .tuple #[.agg #[.int .i64 0, .string ⟨#[]⟩, .int .i64 0], .int .i64 0, .int .i64 11]) (by simp [results, Tryz.results69, go_sem, xf]) rfl ?_
            exact ⟨HFB, ⟨0, ⟨#[]⟩, 0, 11⟩, 0, rfl, HR.out⟩
          · have HR := Lib.hid (NextIs.ok (show i < j by omega) hj fun n => by rw [HN.out, if_neg (by rintro (h | h); exact h7 h; exact hwj (hWA.1 h))])
            have hIJ : (i : Int) ≤ (j : Int) := by omega
            have hJS : (j : Int) ≤ (s.size : Int) := by omega
            rw [Bool.not_eq_true, wordP_eq hjl] at hwj
            have HWJ := Lib.hid hwj
            clear hwf hgo hq h7 hWA hwj
            go_wp2_with (first | (go_at_call 92; refine (dig_any _ _).mono ?_; rintro e w4 ⟨rfl, h⟩; obtain rfl := h.symm; rw [HDJ.out]) | (go_at_call 76; refine (wrd_any _ _).mono ?_; rintro e w3 ⟨rfl, h⟩; obtain rfl := h.symm; rw [HWJ.out]))
            obtain ⟨HF, HFB⟩ := put3 HB.out (Nat.le_refl _) HA.out (.int .i64 2) (.string (s.extract i j)) (.int .i64 i)
            obtain ⟨xf, yf⟩ := HF.facts
            refine bodyPost_ret (v := .tuple #[.agg #[.int .i64 2, .string (s.extract i j), .int .i64 i], .int .i64 j, .int .i64 0]) (by simp [results, Tryz.results69, go_sem, xf]) rfl ?_
            exact ⟨HFB, ⟨2, (s.extract i j), i, 0⟩, j, rfl, HR.out⟩
        · have hji : ¬ (j : Int) < (s.size : Int) := by omega
          have HR := Lib.hid (NextIs.ok (show i < j by omega) hj fun n => by rw [HN.out, if_neg (by rintro (h | h); exact h7 h; have h2 := hWA.1 h; rw [wordP_end (by omega)] at h2; cases h2)])
          have hIJ : (i : Int) ≤ (j : Int) := by omega
          have hJS : (j : Int) ≤ (s.size : Int) := by omega
          clear hwf hgo hq h7 hWA
          go_wp2_with fail
          obtain ⟨HF, HFB⟩ := put3 HB.out (Nat.le_refl _) HA.out (.int .i64 2) (.string (s.extract i j)) (.int .i64 i)
          obtain ⟨xf, yf⟩ := HF.facts
          refine bodyPost_ret (v := .tuple #[.agg #[.int .i64 2, .string (s.extract i j), .int .i64 i], .int .i64 j, .int .i64 0]) (by simp [results, Tryz.results69, go_sem, xf]) rfl ?_
          exact ⟨HFB, ⟨2, (s.extract i j), i, 0⟩, j, rfl, HR.out⟩
set_option maxRecDepth 100000 in
set_option maxHeartbeats 8000000 in
theorem next_str (s : ByteArray) (i : Nat) (w : World) (hs : s.size ≤ 1000000) (hi : i < s.size) (hc : clsAt s i = 7) :
    Calls Tryz.prog 69 #[.string s, .int .i64 i] w fun e w' => Below w.heap.size w w' ∧ ∃ (x : Fnd) (j : Nat), e = .returned (.tuple #[.agg #[.int .i64 x.kind, .string x.text, .int .i64 x.pos], .int .i64 j, .int .i64 x.err]) ∧ NextIs s i x j := by
  have hii : (i : Int) < (s.size : Int) := by omega
  have hby := byteAt_eq s i hi
  have hb8 := UInt8.toNat_lt s[i]
  have hcl := class_eq hi
  rw [hby] at hcl
  obtain ⟨hc3, hc4, hc5⟩ := cls_is s[i].toNat
  have HA0 := Lib.hid (Has.new w 99 #[.int .i64 0, .string ⟨#[]⟩, .int .i64 0])
  have HB0 := Lib.hid ((Below.refl w.heap.size w).alloc (Nat.le_refl _) (.cells #[.int .i64 0, .string ⟨#[]⟩, .int .i64 0] 99))
  have HLT : Hid (letB s[i].toNat = false) := by
    cases h : letB s[i].toNat
    · exact rfl
    · have := hc3.2 h; omega
  have HDG : Hid (digB s[i].toNat = false) := by
    cases h : digB s[i].toNat
    · exact rfl
    · have := hc4.2 h; omega
  have h34 : s[i].toNat = 34 := (cls_quote _).1 (hcl.symm.trans hc)
  have HN : Hid (∀ n, lexGo s (n + 1) i = match unqL (cut s i s.size) with
      | none => [⟨0, ⟨#[]⟩, i, 10⟩]
      | some (t, m) => ⟨3, ⟨t.toArray⟩, i, 0⟩ :: lexGo s n (i + m)) := fun n => by
    rw [lexGo_succ, if_neg (by omega), if_neg (by rw [hc]; decide), if_neg (by rw [hc]; decide), if_neg (by rw [hc]; decide), if_neg (by rw [hc]; decide), if_pos hc]
    rfl
  have HST := Lib.hid (fun W => str_any s i W hs hi)
  have hcs := cut_len s i
  have hup : ∀ l m, unqL (cut s i s.size) = some (l, m) → 0 < m ∧ m ≤ s.size - i := fun l m h => by rw [← hcs]; exact unqGo_pos _ _ _ _ _ h
  rw [h34] at HLT HDG
  clear hc hcl hby hc3 hc4 hc5 hcs
  cases hU : unqL (cut s i s.size) with
  | none =>
    rw [hU] at HST HN
    have HR := Lib.hid (NextIs.bad (er := 10) (by decide) HN.out)
    clear hU hup
    go_enter Tryz.func69, Tryz.ntmps69
    go_wp2_with (first | (go_at_call 77; refine (let_any _ _).mono ?_; rintro e w1 ⟨rfl, h⟩; obtain rfl := h.symm; rw [HLT.out]) | (go_at_call 92; refine (dig_any _ _).mono ?_; rintro e w2 ⟨rfl, h⟩; obtain rfl := h.symm; rw [HDG.out]) | (go_at_call 93; refine (HST.out _).mono ?_; rintro e w5 ⟨h, rfl⟩; obtain rfl := h.symm; unfold strEnd))
    refine bodyPost_ret (v := .tuple #[.agg #[.int .i64 0, .string ⟨#[]⟩, .int .i64 0], .int .i64 0, .int .i64 10]) (by simp [results, Tryz.results69, go_sem]) rfl ?_
    exact ⟨(Below.refl w.heap.size w).alloc (Nat.le_refl _) _, ⟨0, ⟨#[]⟩, 0, 10⟩, 0, rfl, HR.out⟩
  | some p =>
    obtain ⟨l, m⟩ := p
    rw [hU] at HST HN
    have hm := hup l m hU
    have HR := Lib.hid (NextIs.ok (show i < i + m by omega) (show i + m ≤ s.size by omega) HN.out)
    have hse : strEnd i (some (l, m)) = .tuple #[.string ⟨l.toArray⟩, .int .i64 ((i + m : Nat) : Int), .bool true] := rfl
    rw [hse] at HST
    clear hU hup hse
    generalize i + m = j at *
    go_enter Tryz.func69, Tryz.ntmps69
    go_wp2_with (first | (go_at_call 77; refine (let_any _ _).mono ?_; rintro e w1 ⟨rfl, h⟩; obtain rfl := h.symm; rw [HLT.out]) | (go_at_call 92; refine (dig_any _ _).mono ?_; rintro e w2 ⟨rfl, h⟩; obtain rfl := h.symm; rw [HDG.out]) | (go_at_call 93; refine (HST.out _).mono ?_; rintro e w5 ⟨h, rfl⟩; obtain rfl := h.symm))
    refine bodyPost_ret (v := .tuple #[.agg #[.int .i64 3, .string ⟨l.toArray⟩, .int .i64 i], .int .i64 j, .int .i64 0]) (by simp [results, Tryz.results69, go_sem]) rfl ?_
    exact ⟨(Below.refl w.heap.size w).alloc (Nat.le_refl _) _, ⟨3, ⟨l.toArray⟩, i, 0⟩, j, rfl, HR.out⟩
set_option maxRecDepth 100000 in
set_option maxHeartbeats 8000000 in
theorem next_sym (s : ByteArray) (i : Nat) (w : World) (hs : s.size ≤ 1000000) (hi : i < s.size) (hc : clsAt s i = 6) :
    Calls Tryz.prog 69 #[.string s, .int .i64 i] w fun e w' => Below w.heap.size w w' ∧ ∃ (x : Fnd) (j : Nat), e = .returned (.tuple #[.agg #[.int .i64 x.kind, .string x.text, .int .i64 x.pos], .int .i64 j, .int .i64 x.err]) ∧ NextIs s i x j := by
  have hii : (i : Int) < (s.size : Int) := by omega
  have hby := byteAt_eq s i hi
  have hb8 := UInt8.toNat_lt s[i]
  have hcl := class_eq hi
  rw [hby] at hcl
  obtain ⟨hc3, hc4, hc5⟩ := cls_is s[i].toNat
  have HA0 := Lib.hid (Has.new w 99 #[.int .i64 0, .string ⟨#[]⟩, .int .i64 0])
  have HB0 := Lib.hid ((Below.refl w.heap.size w).alloc (Nat.le_refl _) (.cells #[.int .i64 0, .string ⟨#[]⟩, .int .i64 0] 99))
  have HLT : Hid (letB s[i].toNat = false) := by
    cases h : letB s[i].toNat
    · exact rfl
    · have := hc3.2 h; omega
  have HDG : Hid (digB s[i].toNat = false) := by
    cases h : digB s[i].toNat
    · exact rfl
    · have := hc4.2 h; omega
  have h34 : s[i].toNat ≠ 34 := fun h => by have := (cls_quote _).2 h; omega
  have HAS := Lib.hid (fun W => has_any ⟨#[59, 44, 46, 58, 40, 41, 123, 125, 91, 93, 61, 60, 62, 47, 43, 45, 42]⟩ s[i].toNat W (by decide) hb8)
  rw [cls_sym _ hb8, decide_eq_true (by omega)] at HAS
  have HR : Hid (NextIs s i ⟨4, cut s i (i + 1), i, 0⟩ (i + 1)) := NextIs.ok (by omega) (by omega) fun n => by
    rw [lexGo_succ, if_neg (by omega), if_neg (by rw [hc]; decide), if_neg (by rw [hc]; decide), if_neg (by rw [hc]; decide), if_neg (by rw [hc]; decide), if_neg (by rw [hc]; decide), if_pos hc]
  clear hc hcl hby hc3 hc4 hc5
  go_enter Tryz.func69, Tryz.ntmps69
  go_wp2_with (first | (go_at_call 77; refine (let_any _ _).mono ?_; rintro e w1 ⟨rfl, h⟩; obtain rfl := h.symm; rw [HLT.out]) | (go_at_call 92; refine (dig_any _ _).mono ?_; rintro e w2 ⟨rfl, h⟩; obtain rfl := h.symm; rw [HDG.out]) | (go_at_call 91; refine (HAS.out _).mono ?_; rintro e w6 ⟨rfl, h⟩; obtain rfl := h.symm))
  refine bodyPost_ret (v := .tuple #[.agg #[.int .i64 4, .string (s.extract i (i + 1)), .int .i64 i], .int .i64 ((i : Int) + 1), .int .i64 0]) (by simp [results, Tryz.results69, go_sem]) rfl ?_
  exact ⟨(Below.refl w.heap.size w).alloc (Nat.le_refl _) _, ⟨4, cut s i (i + 1), i, 0⟩, i + 1, rfl, HR.out⟩
set_option maxRecDepth 100000 in
set_option maxHeartbeats 8000000 in
theorem next_none (s : ByteArray) (i : Nat) (w : World) (hs : s.size ≤ 1000000) (hi : i < s.size) (hc1 : clsAt s i ≠ 1) (hc2 : clsAt s i ≠ 2) (h3 : clsAt s i ≠ 3) (h4 : clsAt s i ≠ 4) (h6 : clsAt s i ≠ 6) (h7 : clsAt s i ≠ 7) :
    Calls Tryz.prog 69 #[.string s, .int .i64 i] w fun e w' => Below w.heap.size w w' ∧ ∃ (x : Fnd) (j : Nat), e = .returned (.tuple #[.agg #[.int .i64 x.kind, .string x.text, .int .i64 x.pos], .int .i64 j, .int .i64 x.err]) ∧ NextIs s i x j := by
  have hii : (i : Int) < (s.size : Int) := by omega
  have hby := byteAt_eq s i hi
  have hb8 := UInt8.toNat_lt s[i]
  have hcl := class_eq hi
  rw [hby] at hcl
  obtain ⟨hc3, hc4, hc5⟩ := cls_is s[i].toNat
  have HA0 := Lib.hid (Has.new w 99 #[.int .i64 0, .string ⟨#[]⟩, .int .i64 0])
  have HB0 := Lib.hid ((Below.refl w.heap.size w).alloc (Nat.le_refl _) (.cells #[.int .i64 0, .string ⟨#[]⟩, .int .i64 0] 99))
  have HLT : Hid (letB s[i].toNat = false) := by
    cases h : letB s[i].toNat
    · exact rfl
    · have := hc3.2 h; omega
  have HDG : Hid (digB s[i].toNat = false) := by
    cases h : digB s[i].toNat
    · exact rfl
    · have := hc4.2 h; omega
  have h34 : s[i].toNat ≠ 34 := fun h => by have := (cls_quote _).2 h; omega
  have HAS := Lib.hid (fun W => has_any ⟨#[59, 44, 46, 58, 40, 41, 123, 125, 91, 93, 61, 60, 62, 47, 43, 45, 42]⟩ s[i].toNat W (by decide) hb8)
  rw [cls_sym _ hb8, decide_eq_false (by omega)] at HAS
  have HR := Lib.hid (NextIs.bad (s := s) (i := i) (er := 10) (k := 0) (t := ⟨#[]⟩) (by decide) fun n => by
    rw [lexGo_succ, if_neg (by omega), if_neg hc1, if_neg hc2, if_neg h3, if_neg h4, if_neg h7, if_neg h6])
  clear hc1 hc2 h3 h4 h6 h7 hcl hby hc3 hc4 hc5
  go_enter Tryz.func69, Tryz.ntmps69
  go_wp2_with (first | (go_at_call 77; refine (let_any _ _).mono ?_; rintro e w1 ⟨rfl, h⟩; obtain rfl := h.symm; rw [HLT.out]) | (go_at_call 92; refine (dig_any _ _).mono ?_; rintro e w2 ⟨rfl, h⟩; obtain rfl := h.symm; rw [HDG.out]) | (go_at_call 91; refine (HAS.out _).mono ?_; rintro e w6 ⟨rfl, h⟩; obtain rfl := h.symm))
  refine bodyPost_ret (v := .tuple #[.agg #[.int .i64 0, .string ⟨#[]⟩, .int .i64 0], .int .i64 0, .int .i64 10]) (by simp [results, Tryz.results69, go_sem]) rfl ?_
  exact ⟨(Below.refl w.heap.size w).alloc (Nat.le_refl _) _, ⟨0, ⟨#[]⟩, 0, 10⟩, 0, rfl, HR.out⟩
theorem next_any (s : ByteArray) (i : Nat) (w : World) (hs : s.size ≤ 1000000) (hi : i < s.size) (h1 : clsAt s i ≠ 1) (h2 : clsAt s i ≠ 2) :
    Calls Tryz.prog 69 #[.string s, .int .i64 i] w fun e w' => Below w.heap.size w w' ∧ ∃ (x : Fnd) (j : Nat), e = .returned (.tuple #[.agg #[.int .i64 x.kind, .string x.text, .int .i64 x.pos], .int .i64 j, .int .i64 x.err]) ∧ NextIs s i x j := by
  by_cases h3 : clsAt s i = 3
  · exact next_word s i w hs hi h3
  by_cases h4 : clsAt s i = 4
  · exact next_dig s i w hs hi h4
  by_cases h7 : clsAt s i = 7
  · exact next_str s i w hs hi h7
  by_cases h6 : clsAt s i = 6
  · exact next_sym s i w hs hi h6
  exact next_none s i w hs hi h1 h2 h3 h4 h6 h7
end Go.Proofs.YtjlpllnhefafkaaGreatDoor
