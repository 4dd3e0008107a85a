/- bogieref09.Parse: the reference's event of a text. Condition: the text lies in memory. -/
import Derived.Test.YtjlpllnhefafkaaGreatDoorXE
import Derived.Test.YtjlpllnhefafkaaGreatDoorXQ
import Derived.Test.YtjlpllnhefafkaaGreatDoorXS
namespace Go.Proofs.YtjlpllnhefafkaaGreatDoor
open Go Go.RowKit
theorem below_cell {B i : Nat} {a w : World} {u : Value} (h : Below B a w) : Below B a (w.setCell ⟨B, i, none⟩ u) := h.setCell (p := ⟨B, i, none⟩) (Nat.le_refl _) u
set_option maxRecDepth 100000 in
set_option maxHeartbeats 4000000 in
theorem rpa_long (s : ByteArray) (w : World) (h : 2000 < s.size) :
    Calls Tryz.prog 25 #[.string s] w fun r w' => r = .returned (.tuple #[.agg #[.int .i64 0, .int .i64 0, .string ⟨#[]⟩, .string ⟨#[]⟩, .string ⟨#[]⟩, .string ⟨#[]⟩, .string ⟨#[]⟩, .string ⟨#[]⟩, .int .i64 0, .int .i64 0, .int .i64 0, .int .i64 0, .int .i64 0, .int .i64 0], .int .i64 8]) ∧ Below w.heap.size w w' := by
  have hi : (2000 : Int) < (s.size : Int) := by omega
  go_enter Tryz.func25, Tryz.ntmps25
  go_wp2_with fail
  refine bodyPost_ret (v := .tuple #[.agg #[.int .i64 0, .int .i64 0, .string ⟨#[]⟩, .string ⟨#[]⟩, .string ⟨#[]⟩, .string ⟨#[]⟩, .string ⟨#[]⟩, .string ⟨#[]⟩, .int .i64 0, .int .i64 0, .int .i64 0, .int .i64 0, .int .i64 0, .int .i64 0], .int .i64 8]) (by simp [results, Tryz.results25, go_sem]) rfl ?_
  exact ⟨rfl, (Below.refl _ _).alloc (Nat.le_refl _) _⟩
set_option maxRecDepth 100000 in
set_option maxHeartbeats 4000000 in
theorem rpa_err (s : ByteArray) (w : World) (hs : s.size ≤ 2000) (he : (lexL s).2.1 ≠ 0) :
    Calls Tryz.prog 25 #[.string s] w fun r w' => r = .returned (.tuple #[.agg #[.int .i64 0, .int .i64 0, .string ⟨#[]⟩, .string ⟨#[]⟩, .string ⟨#[]⟩, .string ⟨#[]⟩, .string ⟨#[]⟩, .string ⟨#[]⟩, .int .i64 0, .int .i64 0, .int .i64 0, .int .i64 0, .int .i64 0, .int .i64 0], .int .i64 8]) ∧ Below w.heap.size w w' := by
  have hi : (s.size : Int) ≤ 2000 := by omega
  have HLX := Lib.hid (fun W => refLex_any s W (by unfold maxLen; omega))
  generalize lexL s = q at *
  obtain ⟨fs, er, ap⟩ := q
  dsimp only at he HLX
  have heb : (er != 0) = true := by rw [bne_iff_ne]; exact he
  clear he
  go_enter Tryz.func25, Tryz.ntmps25
  go_wp2_with (go_at_call 39; refine (HLX.out _).mono ?_; rintro e w2 ⟨vt, rfl, ho2, hb2⟩; have HT2 := Lib.hid (toks_own ho2); have HB2 := Lib.hid (((Below.refl w.heap.size w).alloc (Nat.le_refl _) (.cells #[.int .i64 0, .int .i64 0, .string ⟨#[]⟩, .string ⟨#[]⟩, .string ⟨#[]⟩, .string ⟨#[]⟩, .string ⟨#[]⟩, .string ⟨#[]⟩, .int .i64 0, .int .i64 0, .int .i64 0, .int .i64 0, .int .i64 0, .int .i64 0] 49)).trans (hb2.mono (by simp))); have HZ2 := Lib.hid ((Has.new w 49 #[.int .i64 0, .int .i64 0, .string ⟨#[]⟩, .string ⟨#[]⟩, .string ⟨#[]⟩, .string ⟨#[]⟩, .string ⟨#[]⟩, .string ⟨#[]⟩, .int .i64 0, .int .i64 0, .int .i64 0, .int .i64 0, .int .i64 0, .int .i64 0]).below hb2 (by simp)); obtain ⟨xz, yz⟩ := HZ2.out.facts; clear ho2 hb2)
  obtain ⟨HF, HFB⟩ := put14 HB2.out (Nat.le_refl _) HZ2.out (.int .i64 0) (.int .i64 0) (.string ⟨#[]⟩) (.string ⟨#[]⟩) (.string ⟨#[]⟩) (.string ⟨#[]⟩) (.string ⟨#[]⟩) (.string ⟨#[]⟩) (.int .i64 0) (.int .i64 0) (.int .i64 0) (.int .i64 0) (.int .i64 0) (.int .i64 0)
  obtain ⟨xf, yf⟩ := HF.facts
  refine bodyPost_ret (v := .tuple #[.agg #[.int .i64 0, .int .i64 0, .string ⟨#[]⟩, .string ⟨#[]⟩, .string ⟨#[]⟩, .string ⟨#[]⟩, .string ⟨#[]⟩, .string ⟨#[]⟩, .int .i64 0, .int .i64 0, .int .i64 0, .int .i64 0, .int .i64 0, .int .i64 0], .int .i64 8]) (by simp [results, Tryz.results25, go_sem, xf]) rfl ?_
  exact ⟨rfl, HFB⟩
set_option maxRecDepth 100000 in
set_option maxHeartbeats 8000000 in
theorem rpa_o1 (s : ByteArray) (w : World) (hs : s.size ≤ 2000) (he : (lexL s).2.1 = 0) (ho : opOf (wordK (lexL s).1 0) = 1) :
    Calls Tryz.prog 25 #[.string s] w fun r w' => r = .returned (.tuple #[.agg (refParse s).1.cells, .int .i64 (refParse s).2]) ∧ Below w.heap.size w w' := by
  have hi : (s.size : Int) ≤ 2000 := by omega
  have HLX := Lib.hid (fun W => refLex_any s W (by unfold maxLen; omega))
  have hkp := lexL_kept s
  have hdg := lexL_digs s
  have hp : refParse s = if evOk (refE (lexL s).1) = true ∧ textB (refE (lexL s).1) = s then (refE (lexL s).1, 0) else (zeroE, 8) := by
    unfold refParse
    rw [if_neg (by omega), if_pos he]
  generalize refParse s = Pr at *
  generalize lexL s = q at *
  obtain ⟨fs, er, ap⟩ := q
  dsimp only at he HLX hkp hdg hp ho
  subst he
  have hfl : fs.length ≤ 100000 := by omega
  have hsz : ∀ i, (wordK fs i).size ≤ maxLen := fun i => getD_size hkp.2 i
  have hre : refE fs = ⟨opOf (wordK fs 0), numK fs 1, wordK fs 2, if opOf (wordK fs 0) = 1 then wordK fs 3 else ⟨#[]⟩, if opOf (wordK fs 0) = 2 then wordK fs 3 else ⟨#[]⟩, if opOf (wordK fs 0) = 2 then wordK fs 4 else ⟨#[]⟩, if opOf (wordK fs 0) = 6 then wordK fs 3 else ⟨#[]⟩, if opOf (wordK fs 0) = 6 then wordK fs 4 else ⟨#[]⟩,
    if opOf (wordK fs 0) = 4 then numK fs 3 else 0, if opOf (wordK fs 0) = 4 then numK fs 4 else 0, if opOf (wordK fs 0) = 4 then numK fs 5 else 0, if opOf (wordK fs 0) = 4 then numK fs 6 else 0, if opOf (wordK fs 0) = 4 then numK fs 7 else 0, if opOf (wordK fs 0) = 4 then numK fs 8 else 0⟩ := rfl
  rw [ho] at hre
  simp only [show ¬ (1 : Int) = 2 by decide, show ¬ (1 : Int) = 4 by decide, show ¬ (1 : Int) = 6 by decide, if_true, if_false] at hre
  rw [hre] at hp
  have HW0 : Hid (∀ v W, TokS W v fs → Calls Tryz.prog 41 #[v, .int .i64 0] W fun e w' => e = .returned (.string (wordK fs 0)) ∧ w' = W) := fun v W h => wordK_any v fs 0 W h hfl (by omega)
  have HW2 : Hid (∀ v W, TokS W v fs → Calls Tryz.prog 41 #[v, .int .i64 2] W fun e w' => e = .returned (.string (wordK fs 2)) ∧ w' = W) := fun v W h => wordK_any v fs 2 W h hfl (by omega)
  have HW3 : Hid (∀ v W, TokS W v fs → Calls Tryz.prog 41 #[v, .int .i64 3] W fun e w' => e = .returned (.string (wordK fs 3)) ∧ w' = W) := fun v W h => wordK_any v fs 3 W h hfl (by omega)
  have HN1 : Hid (∀ v W, TokS W v fs → Calls Tryz.prog 40 #[v, .int .i64 1] W fun e w' => e = .returned (.int .i64 (numK fs 1)) ∧ w' = W) := fun v W h => numK_any v fs 1 W h hfl (by omega) hdg
  have hz0 := hsz 0
  have hz2 := hsz 2
  have hz3 := hsz 3
  generalize wordK fs 0 = t0 at *
  generalize wordK fs 2 = t2 at *
  generalize wordK fs 3 = t3 at *
  generalize numK fs 1 = n1 at *
  have hpo : Hid (opUp 7 t0 = 1) := (op_up t0).trans ho
  have HTX := Lib.hid (fun W => refText_any ⟨1, n1, t2, t3, ⟨#[]⟩, ⟨#[]⟩, ⟨#[]⟩, ⟨#[]⟩, 0, 0, 0, 0, 0, 0⟩ W ⟨hz2, hz3, Nat.zero_le _, Nat.zero_le _, Nat.zero_le _, Nat.zero_le _⟩)
  have HP := Lib.hid hp
  clear hkp hdg hsz hre hfl hp hz0 hz2 hz3 ho
  go_enter Tryz.func25, Tryz.ntmps25
  go_wp2_with (first | (go_at_call 39; refine (HLX.out _).mono ?_; rintro e w2 ⟨vt, rfl, ho2, hb2⟩; have HT2 := Lib.hid (toks_own ho2); have HB2 := Lib.hid (((Below.refl w.heap.size w).alloc (Nat.le_refl _) (.cells #[.int .i64 0, .int .i64 0, .string ⟨#[]⟩, .string ⟨#[]⟩, .string ⟨#[]⟩, .string ⟨#[]⟩, .string ⟨#[]⟩, .string ⟨#[]⟩, .int .i64 0, .int .i64 0, .int .i64 0, .int .i64 0, .int .i64 0, .int .i64 0] 49)).trans (hb2.mono (by simp))); have HZ2 := Lib.hid ((Has.new w 49 #[.int .i64 0, .int .i64 0, .string ⟨#[]⟩, .string ⟨#[]⟩, .string ⟨#[]⟩, .string ⟨#[]⟩, .string ⟨#[]⟩, .string ⟨#[]⟩, .int .i64 0, .int .i64 0, .int .i64 0, .int .i64 0, .int .i64 0, .int .i64 0]).below hb2 (by simp)); obtain ⟨xz, yz⟩ := HZ2.out.facts; clear ho2 hb2) | (go_at_call 40; refine (HN1.out _ w2 HT2.out).mono ?_; rintro e w3 ⟨rfl, h⟩; obtain rfl := h.symm) | (go_at_call 41; refine (HW2.out _ w2 HT2.out).mono ?_; rintro e w3 ⟨rfl, h⟩; obtain rfl := h.symm))
  go_loopw [8] (fun i wr => ∃ k : Nat, 1 ≤ k ∧ k ≤ 8 ∧ i = .int .i64 k ∧ Hid (Has wr w2.heap.size 49 #[.int .i64 ((opUp (k - 1) t0)), .int .i64 n1, .string t2, .string ⟨#[]⟩, .string ⟨#[]⟩, .string ⟨#[]⟩, .string ⟨#[]⟩, .string ⟨#[]⟩, .int .i64 0, .int .i64 0, .int .i64 0, .int .i64 0, .int .i64 0, .int .i64 0]) ∧ Hid (Below w2.heap.size w2 wr)) (fun i _ => 8 - (intOf i).toNat)
  case atStart => exact ⟨1, Nat.le_refl _, by omega, rfl, Has.new w2 _ _, (Below.refl _ _).alloc (Nat.le_refl _) _⟩
  case round =>
    obtain ⟨k, hk1, hk8, rfl, HX, HB⟩ := hrel
    clear xz yz
    by_cases hlt : k < 8
    · have hki : (k : Int) < 8 := by omega
      have HK := Lib.hid (show k - 1 + 1 = k by omega)
      obtain ⟨o, hoo⟩ : ∃ o, opUp (k - 1) t0 = o := ⟨_, rfl⟩
      rw [hoo] at HX
      have hup : opUp (k + 1 - 1) t0 = if t0 = wordS k then (k : Int) else o := by
        have e : k + 1 - 1 = (k - 1) + 1 := by omega
        rw [e, ← hoo]
        show (if t0 = wordS (((k - 1 : Nat) : Int) + 1) then (((k - 1 : Nat) : Int) + 1) else opUp (k - 1) t0) = _
        rw [show (((k - 1 : Nat) : Int) + 1) = (k : Int) by omega]
      have HUP := Lib.hid hup
      clear hup
      have HXW := Lib.hid (fun (W : World) (g : Nat) (h : Has W g 9 (wordsL.map Value.string).toArray) => words_at h k hlt)
      generalize wordS (k : Int) = wk at *
      clear hoo
      go_wp2_with fail
      refine (words_any _).mono ?_
      rintro e v1 ⟨rfl, hv1⟩
      have HX1 := Lib.hid (show Has v1 w2.heap.size 49 #[.int .i64 o, .int .i64 n1, .string t2, .string ⟨#[]⟩, .string ⟨#[]⟩, .string ⟨#[]⟩, .string ⟨#[]⟩, .string ⟨#[]⟩, .int .i64 0, .int .i64 0, .int .i64 0, .int .i64 0, .int .i64 0, .int .i64 0] by rw [hv1]; exact HX.out.alloc _)
      have HB1 := Lib.hid (show Below w2.heap.size w2 v1 by rw [hv1]; exact HB.out.alloc HB.out.size _)
      clear hv1 HX HB
      go_wp2_with (go_at_call 41; refine (HW0.out _ v1 (HT2.out.below HB1.out)).mono ?_; rintro e w3 ⟨rfl, h⟩; obtain rfl := h.symm)
      refine (words_any _).mono ?_
      rintro e v2 ⟨rfl, hv2⟩
      have HG2 := Lib.hid (show Has v2 v1.heap.size 9 (wordsL.map Value.string).toArray by rw [hv2]; exact Has.new _ _ _)
      have HX2 := Lib.hid (show Has v2 w2.heap.size 49 #[.int .i64 o, .int .i64 n1, .string t2, .string ⟨#[]⟩, .string ⟨#[]⟩, .string ⟨#[]⟩, .string ⟨#[]⟩, .string ⟨#[]⟩, .int .i64 0, .int .i64 0, .int .i64 0, .int .i64 0, .int .i64 0, .int .i64 0] by rw [hv2]; exact HX1.out.alloc _)
      have HB2' := Lib.hid (show Below w2.heap.size w2 v2 by rw [hv2]; exact HB1.out.alloc HB1.out.size _)
      have xw := HXW.out v2 _ HG2.out
      obtain ⟨x2, y2⟩ := HX2.out.facts
      clear hv2 HX1 HB1
      by_cases hw : t0 = wk
      · have hbb : (t0.toList == wk.toList) = true := by rw [bytes_beq]; exact decide_eq_true hw
        have HU := Lib.hid (show opUp (k + 1 - 1) t0 = (k : Int) by rw [HUP.out, if_pos hw])
        have HXN := Lib.hid (show Has (v2.setCell ⟨w2.heap.size, 0, none⟩ (.int .i64 (k : Int))) w2.heap.size 49 #[.int .i64 ((k : Int)), .int .i64 n1, .string t2, .string ⟨#[]⟩, .string ⟨#[]⟩, .string ⟨#[]⟩, .string ⟨#[]⟩, .string ⟨#[]⟩, .int .i64 0, .int .i64 0, .int .i64 0, .int .i64 0, .int .i64 0, .int .i64 0] by have h := HX2.out.put 0 (.int .i64 (k : Int)); simpa using h)
        clear hw
        go_wp2_with fail
        go_roundw
        case rel => exact ⟨k + 1, by omega, by omega, by go_num, by rw [HU.out]; exact HXN, HB2'.out.setCell (p := ⟨w2.heap.size, 0, none⟩) (Nat.le_refl _) _⟩
        case measure => simp [intOf]; omega
      · have hbb : (t0.toList == wk.toList) = false := by rw [bytes_beq]; exact decide_eq_false hw
        have HU := Lib.hid (show opUp (k + 1 - 1) t0 = o by rw [HUP.out, if_neg hw])
        clear hw
        go_wp2_with fail
        go_roundw
        case rel => exact ⟨k + 1, by omega, by omega, by go_num, by rw [HU.out]; exact HX2, HB2'.out⟩
        case measure => simp [intOf]; omega
    · have hk : k = 8 := by omega
      subst hk
      rw [show 8 - 1 = 7 by rfl, hpo.out] at HX
      go_wp2_with fail
      refine (words_any _).mono ?_
      rintro e v1 ⟨rfl, hv1⟩
      have HX1 := Lib.hid (show Has v1 w2.heap.size 49 #[.int .i64 1, .int .i64 n1, .string t2, .string ⟨#[]⟩, .string ⟨#[]⟩, .string ⟨#[]⟩, .string ⟨#[]⟩, .string ⟨#[]⟩, .int .i64 0, .int .i64 0, .int .i64 0, .int .i64 0, .int .i64 0, .int .i64 0] by rw [hv1]; exact HX.out.alloc _)
      have HB1 := Lib.hid (show Below w2.heap.size w2 v1 by rw [hv1]; exact HB.out.alloc HB.out.size _)
      obtain ⟨x1, y1⟩ := HX1.out.facts
      clear hv1 HX HB
      go_wp2_with (go_at_call 41; (with_reducible show Calls _ _ #[_, .int .i64 3] _ _); refine (HW3.out _ _ (HT2.out.below (by repeat (first | exact HB1.out | apply below_cell)))).mono ?_; rintro e w3 ⟨rfl, h⟩; obtain rfl := h.symm)
      obtain ⟨V, hV⟩ : ∃ V, (v1).setCell ⟨w2.heap.size, 3, none⟩ (.string t3) = V := ⟨_, rfl⟩
      rw [hV]
      have HXV := Lib.hid (show Has V w2.heap.size 49 #[.int .i64 1, .int .i64 n1, .string t2, .string t3, .string ⟨#[]⟩, .string ⟨#[]⟩, .string ⟨#[]⟩, .string ⟨#[]⟩, .int .i64 0, .int .i64 0, .int .i64 0, .int .i64 0, .int .i64 0, .int .i64 0] by rw [← hV]; have h := (HX1.out).put 3 (.string t3); simpa using h)
      have HBV := Lib.hid (show Below w2.heap.size w2 V by rw [← hV]; exact (HB1.out).setCell (p := ⟨w2.heap.size, 3, none⟩) (Nat.le_refl _) (.string t3))
      clear hV x1 y1 HX1 HB1
      by_cases hok : evOk ⟨1, n1, t2, t3, ⟨#[]⟩, ⟨#[]⟩, ⟨#[]⟩, ⟨#[]⟩, 0, 0, 0, 0, 0, 0⟩ = true
      · rw [if_pos hok, if_pos hok] at HTX
        generalize hbb : ((textB ⟨1, n1, t2, t3, ⟨#[]⟩, ⟨#[]⟩, ⟨#[]⟩, ⟨#[]⟩, 0, 0, 0, 0, 0, 0⟩).toList == s.toList) = bb
        rw [bytes_beq] at hbb
        cases bb
        · have hne := of_decide_eq_false hbb
          have hp := HP.out
          rw [if_neg (fun h => hne h.2)] at hp
          subst hp
          have HNE := Lib.hid (show ((textB ⟨1, n1, t2, t3, ⟨#[]⟩, ⟨#[]⟩, ⟨#[]⟩, ⟨#[]⟩, 0, 0, 0, 0, 0, 0⟩).toList == s.toList) = false by rw [bytes_beq]; exact decide_eq_false hne)
          clear hbb hne hok
          generalize textB ⟨1, n1, t2, t3, ⟨#[]⟩, ⟨#[]⟩, ⟨#[]⟩, ⟨#[]⟩, 0, 0, 0, 0, 0, 0⟩ = tb at *
          refine (HTX.out V).mono ?_
          rintro e w9 ⟨rfl, hb9⟩
          have HB9 := Lib.hid ((HB2.out.trans (HBV.out.mono HB2.out.size)).trans (hb9.mono (HB2.out.trans (HBV.out.mono HB2.out.size)).size))
          have HZ9 := Lib.hid ((HZ2.out.below HBV.out HZ2.out.lt).below hb9 (HZ2.out.below HBV.out HZ2.out.lt).lt)
          obtain ⟨xz, yz⟩ := HZ9.out.facts
          have HX9 := Lib.hid (HXV.out.below hb9 HXV.out.lt)
          obtain ⟨xv, yv⟩ := HX9.out.facts
          clear hb9
          have hne2 := HNE.out
          go_wp2_with fail
          obtain ⟨HF, HFB⟩ := put14 HB9.out (Nat.le_refl _) HZ9.out (.int .i64 0) (.int .i64 0) (.string ⟨#[]⟩) (.string ⟨#[]⟩) (.string ⟨#[]⟩) (.string ⟨#[]⟩) (.string ⟨#[]⟩) (.string ⟨#[]⟩) (.int .i64 0) (.int .i64 0) (.int .i64 0) (.int .i64 0) (.int .i64 0) (.int .i64 0)
          obtain ⟨xf, yf⟩ := HF.facts
          refine bodyPost_ret (v := .tuple #[.agg #[.int .i64 0, .int .i64 0, .string ⟨#[]⟩, .string ⟨#[]⟩, .string ⟨#[]⟩, .string ⟨#[]⟩, .string ⟨#[]⟩, .string ⟨#[]⟩, .int .i64 0, .int .i64 0, .int .i64 0, .int .i64 0, .int .i64 0, .int .i64 0], .int .i64 8]) (by simp [results, Tryz.results25, go_sem, xf]) rfl ?_
          exact ⟨rfl, HFB⟩
        · have heq := of_decide_eq_true hbb
          have hp := HP.out
          rw [if_pos ⟨hok, heq⟩] at hp
          subst hp
          have HNE := Lib.hid (show ((textB ⟨1, n1, t2, t3, ⟨#[]⟩, ⟨#[]⟩, ⟨#[]⟩, ⟨#[]⟩, 0, 0, 0, 0, 0, 0⟩).toList == s.toList) = true by rw [bytes_beq]; exact decide_eq_true heq)
          clear hbb heq hok
          generalize textB ⟨1, n1, t2, t3, ⟨#[]⟩, ⟨#[]⟩, ⟨#[]⟩, ⟨#[]⟩, 0, 0, 0, 0, 0, 0⟩ = tb at *
          refine (HTX.out V).mono ?_
          rintro e w9 ⟨rfl, hb9⟩
          have HB9 := Lib.hid ((HB2.out.trans (HBV.out.mono HB2.out.size)).trans (hb9.mono (HB2.out.trans (HBV.out.mono HB2.out.size)).size))
          have HZ9 := Lib.hid ((HZ2.out.below HBV.out HZ2.out.lt).below hb9 (HZ2.out.below HBV.out HZ2.out.lt).lt)
          obtain ⟨xz, yz⟩ := HZ9.out.facts
          have HX9 := Lib.hid (HXV.out.below hb9 HXV.out.lt)
          obtain ⟨xv, yv⟩ := HX9.out.facts
          clear hb9
          have hne2 := HNE.out
          go_wp2_with fail
          obtain ⟨HF, HFB⟩ := put14 HB9.out (Nat.le_refl _) HZ9.out (.int .i64 1) (.int .i64 n1) (.string t2) (.string t3) (.string ⟨#[]⟩) (.string ⟨#[]⟩) (.string ⟨#[]⟩) (.string ⟨#[]⟩) (.int .i64 0) (.int .i64 0) (.int .i64 0) (.int .i64 0) (.int .i64 0) (.int .i64 0)
          obtain ⟨xf, yf⟩ := HF.facts
          refine bodyPost_ret (v := .tuple #[.agg #[.int .i64 1, .int .i64 n1, .string t2, .string t3, .string ⟨#[]⟩, .string ⟨#[]⟩, .string ⟨#[]⟩, .string ⟨#[]⟩, .int .i64 0, .int .i64 0, .int .i64 0, .int .i64 0, .int .i64 0, .int .i64 0], .int .i64 0]) (by simp [results, Tryz.results25, go_sem, xf]) rfl ?_
          exact ⟨rfl, HFB⟩
      · rw [if_neg hok, if_neg hok] at HTX
        have hp := HP.out
        rw [if_neg (fun h => hok h.1)] at hp
        subst hp
        clear hok
        refine (HTX.out V).mono ?_
        rintro e w9 ⟨rfl, hb9⟩
        have HB9 := Lib.hid ((HB2.out.trans (HBV.out.mono HB2.out.size)).trans (hb9.mono (HB2.out.trans (HBV.out.mono HB2.out.size)).size))
        have HZ9 := Lib.hid ((HZ2.out.below HBV.out HZ2.out.lt).below hb9 (HZ2.out.below HBV.out HZ2.out.lt).lt)
        obtain ⟨xz, yz⟩ := HZ9.out.facts
        have HX9 := Lib.hid (HXV.out.below hb9 HXV.out.lt)
        obtain ⟨xv, yv⟩ := HX9.out.facts
        clear hb9
        go_wp2_with fail
        obtain ⟨HF, HFB⟩ := put14 HB9.out (Nat.le_refl _) HZ9.out (.int .i64 0) (.int .i64 0) (.string ⟨#[]⟩) (.string ⟨#[]⟩) (.string ⟨#[]⟩) (.string ⟨#[]⟩) (.string ⟨#[]⟩) (.string ⟨#[]⟩) (.int .i64 0) (.int .i64 0) (.int .i64 0) (.int .i64 0) (.int .i64 0) (.int .i64 0)
        obtain ⟨xf, yf⟩ := HF.facts
        refine bodyPost_ret (v := .tuple #[.agg #[.int .i64 0, .int .i64 0, .string ⟨#[]⟩, .string ⟨#[]⟩, .string ⟨#[]⟩, .string ⟨#[]⟩, .string ⟨#[]⟩, .string ⟨#[]⟩, .int .i64 0, .int .i64 0, .int .i64 0, .int .i64 0, .int .i64 0, .int .i64 0], .int .i64 8]) (by simp [results, Tryz.results25, go_sem, xf]) rfl ?_
        exact ⟨rfl, HFB⟩
set_option maxRecDepth 100000 in
set_option maxHeartbeats 8000000 in
theorem rpa_o2 (s : ByteArray) (w : World) (hs : s.size ≤ 2000) (he : (lexL s).2.1 = 0) (ho : opOf (wordK (lexL s).1 0) = 2) :
    Calls Tryz.prog 25 #[.string s] w fun r w' => r = .returned (.tuple #[.agg (refParse s).1.cells, .int .i64 (refParse s).2]) ∧ Below w.heap.size w w' := by
  have hi : (s.size : Int) ≤ 2000 := by omega
  have HLX := Lib.hid (fun W => refLex_any s W (by unfold maxLen; omega))
  have hkp := lexL_kept s
  have hdg := lexL_digs s
  have hp : refParse s = if evOk (refE (lexL s).1) = true ∧ textB (refE (lexL s).1) = s then (refE (lexL s).1, 0) else (zeroE, 8) := by
    unfold refParse
    rw [if_neg (by omega), if_pos he]
  generalize refParse s = Pr at *
  generalize lexL s = q at *
  obtain ⟨fs, er, ap⟩ := q
  dsimp only at he HLX hkp hdg hp ho
  subst he
  have hfl : fs.length ≤ 100000 := by omega
  have hsz : ∀ i, (wordK fs i).size ≤ maxLen := fun i => getD_size hkp.2 i
  have hre : refE fs = ⟨opOf (wordK fs 0), numK fs 1, wordK fs 2, if opOf (wordK fs 0) = 1 then wordK fs 3 else ⟨#[]⟩, if opOf (wordK fs 0) = 2 then wordK fs 3 else ⟨#[]⟩, if opOf (wordK fs 0) = 2 then wordK fs 4 else ⟨#[]⟩, if opOf (wordK fs 0) = 6 then wordK fs 3 else ⟨#[]⟩, if opOf (wordK fs 0) = 6 then wordK fs 4 else ⟨#[]⟩,
    if opOf (wordK fs 0) = 4 then numK fs 3 else 0, if opOf (wordK fs 0) = 4 then numK fs 4 else 0, if opOf (wordK fs 0) = 4 then numK fs 5 else 0, if opOf (wordK fs 0) = 4 then numK fs 6 else 0, if opOf (wordK fs 0) = 4 then numK fs 7 else 0, if opOf (wordK fs 0) = 4 then numK fs 8 else 0⟩ := rfl
  rw [ho] at hre
  simp only [show ¬ (2 : Int) = 1 by decide, show ¬ (2 : Int) = 4 by decide, show ¬ (2 : Int) = 6 by decide, if_true, if_false] at hre
  rw [hre] at hp
  have HW0 : Hid (∀ v W, TokS W v fs → Calls Tryz.prog 41 #[v, .int .i64 0] W fun e w' => e = .returned (.string (wordK fs 0)) ∧ w' = W) := fun v W h => wordK_any v fs 0 W h hfl (by omega)
  have HW2 : Hid (∀ v W, TokS W v fs → Calls Tryz.prog 41 #[v, .int .i64 2] W fun e w' => e = .returned (.string (wordK fs 2)) ∧ w' = W) := fun v W h => wordK_any v fs 2 W h hfl (by omega)
  have HW3 : Hid (∀ v W, TokS W v fs → Calls Tryz.prog 41 #[v, .int .i64 3] W fun e w' => e = .returned (.string (wordK fs 3)) ∧ w' = W) := fun v W h => wordK_any v fs 3 W h hfl (by omega)
  have HW4 : Hid (∀ v W, TokS W v fs → Calls Tryz.prog 41 #[v, .int .i64 4] W fun e w' => e = .returned (.string (wordK fs 4)) ∧ w' = W) := fun v W h => wordK_any v fs 4 W h hfl (by omega)
  have HN1 : Hid (∀ v W, TokS W v fs → Calls Tryz.prog 40 #[v, .int .i64 1] W fun e w' => e = .returned (.int .i64 (numK fs 1)) ∧ w' = W) := fun v W h => numK_any v fs 1 W h hfl (by omega) hdg
  have hz0 := hsz 0
  have hz2 := hsz 2
  have hz3 := hsz 3
  have hz4 := hsz 4
  generalize wordK fs 0 = t0 at *
  generalize wordK fs 2 = t2 at *
  generalize wordK fs 3 = t3 at *
  generalize wordK fs 4 = t4 at *
  generalize numK fs 1 = n1 at *
  have hpo : Hid (opUp 7 t0 = 2) := (op_up t0).trans ho
  have HTX := Lib.hid (fun W => refText_any ⟨2, n1, t2, ⟨#[]⟩, t3, t4, ⟨#[]⟩, ⟨#[]⟩, 0, 0, 0, 0, 0, 0⟩ W ⟨hz2, Nat.zero_le _, hz3, hz4, Nat.zero_le _, Nat.zero_le _⟩)
  have HP := Lib.hid hp
  clear hkp hdg hsz hre hfl hp hz0 hz2 hz3 hz4 ho
  go_enter Tryz.func25, Tryz.ntmps25
  go_wp2_with (first | (go_at_call 39; refine (HLX.out _).mono ?_; rintro e w2 ⟨vt, rfl, ho2, hb2⟩; have HT2 := Lib.hid (toks_own ho2); have HB2 := Lib.hid (((Below.refl w.heap.size w).alloc (Nat.le_refl _) (.cells #[.int .i64 0, .int .i64 0, .string ⟨#[]⟩, .string ⟨#[]⟩, .string ⟨#[]⟩, .string ⟨#[]⟩, .string ⟨#[]⟩, .string ⟨#[]⟩, .int .i64 0, .int .i64 0, .int .i64 0, .int .i64 0, .int .i64 0, .int .i64 0] 49)).trans (hb2.mono (by simp))); have HZ2 := Lib.hid ((Has.new w 49 #[.int .i64 0, .int .i64 0, .string ⟨#[]⟩, .string ⟨#[]⟩, .string ⟨#[]⟩, .string ⟨#[]⟩, .string ⟨#[]⟩, .string ⟨#[]⟩, .int .i64 0, .int .i64 0, .int .i64 0, .int .i64 0, .int .i64 0, .int .i64 0]).below hb2 (by simp)); obtain ⟨xz, yz⟩ := HZ2.out.facts; clear ho2 hb2) | (go_at_call 40; refine (HN1.out _ w2 HT2.out).mono ?_; rintro e w3 ⟨rfl, h⟩; obtain rfl := h.symm) | (go_at_call 41; refine (HW2.out _ w2 HT2.out).mono ?_; rintro e w3 ⟨rfl, h⟩; obtain rfl := h.symm))
  go_loopw [8] (fun i wr => ∃ k : Nat, 1 ≤ k ∧ k ≤ 8 ∧ i = .int .i64 k ∧ Hid (Has wr w2.heap.size 49 #[.int .i64 ((opUp (k - 1) t0)), .int .i64 n1, .string t2, .string ⟨#[]⟩, .string ⟨#[]⟩, .string ⟨#[]⟩, .string ⟨#[]⟩, .string ⟨#[]⟩, .int .i64 0, .int .i64 0, .int .i64 0, .int .i64 0, .int .i64 0, .int .i64 0]) ∧ Hid (Below w2.heap.size w2 wr)) (fun i _ => 8 - (intOf i).toNat)
  case atStart => exact ⟨1, Nat.le_refl _, by omega, rfl, Has.new w2 _ _, (Below.refl _ _).alloc (Nat.le_refl _) _⟩
  case round =>
    obtain ⟨k, hk1, hk8, rfl, HX, HB⟩ := hrel
    clear xz yz
    by_cases hlt : k < 8
    · have hki : (k : Int) < 8 := by omega
      have HK := Lib.hid (show k - 1 + 1 = k by omega)
      obtain ⟨o, hoo⟩ : ∃ o, opUp (k - 1) t0 = o := ⟨_, rfl⟩
      rw [hoo] at HX
      have hup : opUp (k + 1 - 1) t0 = if t0 = wordS k then (k : Int) else o := by
        have e : k + 1 - 1 = (k - 1) + 1 := by omega
        rw [e, ← hoo]
        show (if t0 = wordS (((k - 1 : Nat) : Int) + 1) then (((k - 1 : Nat) : Int) + 1) else opUp (k - 1) t0) = _
        rw [show (((k - 1 : Nat) : Int) + 1) = (k : Int) by omega]
      have HUP := Lib.hid hup
      clear hup
      have HXW := Lib.hid (fun (W : World) (g : Nat) (h : Has W g 9 (wordsL.map Value.string).toArray) => words_at h k hlt)
      generalize wordS (k : Int) = wk at *
      clear hoo
      go_wp2_with fail
      refine (words_any _).mono ?_
      rintro e v1 ⟨rfl, hv1⟩
      have HX1 := Lib.hid (show Has v1 w2.heap.size 49 #[.int .i64 o, .int .i64 n1, .string t2, .string ⟨#[]⟩, .string ⟨#[]⟩, .string ⟨#[]⟩, .string ⟨#[]⟩, .string ⟨#[]⟩, .int .i64 0, .int .i64 0, .int .i64 0, .int .i64 0, .int .i64 0, .int .i64 0] by rw [hv1]; exact HX.out.alloc _)
      have HB1 := Lib.hid (show Below w2.heap.size w2 v1 by rw [hv1]; exact HB.out.alloc HB.out.size _)
      clear hv1 HX HB
      go_wp2_with (go_at_call 41; refine (HW0.out _ v1 (HT2.out.below HB1.out)).mono ?_; rintro e w3 ⟨rfl, h⟩; obtain rfl := h.symm)
      refine (words_any _).mono ?_
      rintro e v2 ⟨rfl, hv2⟩
      have HG2 := Lib.hid (show Has v2 v1.heap.size 9 (wordsL.map Value.string).toArray by rw [hv2]; exact Has.new _ _ _)
      have HX2 := Lib.hid (show Has v2 w2.heap.size 49 #[.int .i64 o, .int .i64 n1, .string t2, .string ⟨#[]⟩, .string ⟨#[]⟩, .string ⟨#[]⟩, .string ⟨#[]⟩, .string ⟨#[]⟩, .int .i64 0, .int .i64 0, .int .i64 0, .int .i64 0, .int .i64 0, .int .i64 0] by rw [hv2]; exact HX1.out.alloc _)
      have HB2' := Lib.hid (show Below w2.heap.size w2 v2 by rw [hv2]; exact HB1.out.alloc HB1.out.size _)
      have xw := HXW.out v2 _ HG2.out
      obtain ⟨x2, y2⟩ := HX2.out.facts
      clear hv2 HX1 HB1
      by_cases hw : t0 = wk
      · have hbb : (t0.toList == wk.toList) = true := by rw [bytes_beq]; exact decide_eq_true hw
        have HU := Lib.hid (show opUp (k + 1 - 1) t0 = (k : Int) by rw [HUP.out, if_pos hw])
        have HXN := Lib.hid (show Has (v2.setCell ⟨w2.heap.size, 0, none⟩ (.int .i64 (k : Int))) w2.heap.size 49 #[.int .i64 ((k : Int)), .int .i64 n1, .string t2, .string ⟨#[]⟩, .string ⟨#[]⟩, .string ⟨#[]⟩, .string ⟨#[]⟩, .string ⟨#[]⟩, .int .i64 0, .int .i64 0, .int .i64 0, .int .i64 0, .int .i64 0, .int .i64 0] by have h := HX2.out.put 0 (.int .i64 (k : Int)); simpa using h)
        clear hw
        go_wp2_with fail
        go_roundw
        case rel => exact ⟨k + 1, by omega, by omega, by go_num, by rw [HU.out]; exact HXN, HB2'.out.setCell (p := ⟨w2.heap.size, 0, none⟩) (Nat.le_refl _) _⟩
        case measure => simp [intOf]; omega
      · have hbb : (t0.toList == wk.toList) = false := by rw [bytes_beq]; exact decide_eq_false hw
        have HU := Lib.hid (show opUp (k + 1 - 1) t0 = o by rw [HUP.out, if_neg hw])
        clear hw
        go_wp2_with fail
        go_roundw
        case rel => exact ⟨k + 1, by omega, by omega, by go_num, by rw [HU.out]; exact HX2, HB2'.out⟩
        case measure => simp [intOf]; omega
    · have hk : k = 8 := by omega
      subst hk
      rw [show 8 - 1 = 7 by rfl, hpo.out] at HX
      go_wp2_with fail
      refine (words_any _).mono ?_
      rintro e v1 ⟨rfl, hv1⟩
      have HX1 := Lib.hid (show Has v1 w2.heap.size 49 #[.int .i64 2, .int .i64 n1, .string t2, .string ⟨#[]⟩, .string ⟨#[]⟩, .string ⟨#[]⟩, .string ⟨#[]⟩, .string ⟨#[]⟩, .int .i64 0, .int .i64 0, .int .i64 0, .int .i64 0, .int .i64 0, .int .i64 0] by rw [hv1]; exact HX.out.alloc _)
      have HB1 := Lib.hid (show Below w2.heap.size w2 v1 by rw [hv1]; exact HB.out.alloc HB.out.size _)
      obtain ⟨x1, y1⟩ := HX1.out.facts
      clear hv1 HX HB
      go_wp2_with (first | (go_at_call 41; (with_reducible show Calls _ _ #[_, .int .i64 3] _ _); refine (HW3.out _ _ (HT2.out.below (by repeat (first | exact HB1.out | apply below_cell)))).mono ?_; rintro e w3 ⟨rfl, h⟩; obtain rfl := h.symm) | (go_at_call 41; (with_reducible show Calls _ _ #[_, .int .i64 4] _ _); refine (HW4.out _ _ (HT2.out.below (by repeat (first | exact HB1.out | apply below_cell)))).mono ?_; rintro e w3 ⟨rfl, h⟩; obtain rfl := h.symm))
      obtain ⟨V, hV⟩ : ∃ V, ((v1).setCell ⟨w2.heap.size, 4, none⟩ (.string t3)).setCell ⟨w2.heap.size, 5, none⟩ (.string t4) = V := ⟨_, rfl⟩
      rw [hV]
      have HXV := Lib.hid (show Has V w2.heap.size 49 #[.int .i64 2, .int .i64 n1, .string t2, .string ⟨#[]⟩, .string t3, .string t4, .string ⟨#[]⟩, .string ⟨#[]⟩, .int .i64 0, .int .i64 0, .int .i64 0, .int .i64 0, .int .i64 0, .int .i64 0] by rw [← hV]; have h := ((HX1.out).put 4 (.string t3)).put 5 (.string t4); simpa using h)
      have HBV := Lib.hid (show Below w2.heap.size w2 V by rw [← hV]; exact ((HB1.out).setCell (p := ⟨w2.heap.size, 4, none⟩) (Nat.le_refl _) (.string t3)).setCell (p := ⟨w2.heap.size, 5, none⟩) (Nat.le_refl _) (.string t4))
      clear hV x1 y1 HX1 HB1
      by_cases hok : evOk ⟨2, n1, t2, ⟨#[]⟩, t3, t4, ⟨#[]⟩, ⟨#[]⟩, 0, 0, 0, 0, 0, 0⟩ = true
      · rw [if_pos hok, if_pos hok] at HTX
        generalize hbb : ((textB ⟨2, n1, t2, ⟨#[]⟩, t3, t4, ⟨#[]⟩, ⟨#[]⟩, 0, 0, 0, 0, 0, 0⟩).toList == s.toList) = bb
        rw [bytes_beq] at hbb
        cases bb
        · have hne := of_decide_eq_false hbb
          have hp := HP.out
          rw [if_neg (fun h => hne h.2)] at hp
          subst hp
          have HNE := Lib.hid (show ((textB ⟨2, n1, t2, ⟨#[]⟩, t3, t4, ⟨#[]⟩, ⟨#[]⟩, 0, 0, 0, 0, 0, 0⟩).toList == s.toList) = false by rw [bytes_beq]; exact decide_eq_false hne)
          clear hbb hne hok
          generalize textB ⟨2, n1, t2, ⟨#[]⟩, t3, t4, ⟨#[]⟩, ⟨#[]⟩, 0, 0, 0, 0, 0, 0⟩ = tb at *
          refine (HTX.out V).mono ?_
          rintro e w9 ⟨rfl, hb9⟩
          have HB9 := Lib.hid ((HB2.out.trans (HBV.out.mono HB2.out.size)).trans (hb9.mono (HB2.out.trans (HBV.out.mono HB2.out.size)).size))
          have HZ9 := Lib.hid ((HZ2.out.below HBV.out HZ2.out.lt).below hb9 (HZ2.out.below HBV.out HZ2.out.lt).lt)
          obtain ⟨xz, yz⟩ := HZ9.out.facts
          have HX9 := Lib.hid (HXV.out.below hb9 HXV.out.lt)
          obtain ⟨xv, yv⟩ := HX9.out.facts
          clear hb9
          have hne2 := HNE.out
          go_wp2_with fail
          obtain ⟨HF, HFB⟩ := put14 HB9.out (Nat.le_refl _) HZ9.out (.int .i64 0) (.int .i64 0) (.string ⟨#[]⟩) (.string ⟨#[]⟩) (.string ⟨#[]⟩) (.string ⟨#[]⟩) (.string ⟨#[]⟩) (.string ⟨#[]⟩) (.int .i64 0) (.int .i64 0) (.int .i64 0) (.int .i64 0) (.int .i64 0) (.int .i64 0)
          obtain ⟨xf, yf⟩ := HF.facts
          refine bodyPost_ret (v := .tuple #[.agg #[.int .i64 0, .int .i64 0, .string ⟨#[]⟩, .string ⟨#[]⟩, .string ⟨#[]⟩, .string ⟨#[]⟩, .string ⟨#[]⟩, .string ⟨#[]⟩, .int .i64 0, .int .i64 0, .int .i64 0, .int .i64 0, .int .i64 0, .int .i64 0], .int .i64 8]) (by simp [results, Tryz.results25, go_sem, xf]) rfl ?_
          exact ⟨rfl, HFB⟩
        · have heq := of_decide_eq_true hbb
          have hp := HP.out
          rw [if_pos ⟨hok, heq⟩] at hp
          subst hp
          have HNE := Lib.hid (show ((textB ⟨2, n1, t2, ⟨#[]⟩, t3, t4, ⟨#[]⟩, ⟨#[]⟩, 0, 0, 0, 0, 0, 0⟩).toList == s.toList) = true by rw [bytes_beq]; exact decide_eq_true heq)
          clear hbb heq hok
          generalize textB ⟨2, n1, t2, ⟨#[]⟩, t3, t4, ⟨#[]⟩, ⟨#[]⟩, 0, 0, 0, 0, 0, 0⟩ = tb at *
          refine (HTX.out V).mono ?_
          rintro e w9 ⟨rfl, hb9⟩
          have HB9 := Lib.hid ((HB2.out.trans (HBV.out.mono HB2.out.size)).trans (hb9.mono (HB2.out.trans (HBV.out.mono HB2.out.size)).size))
          have HZ9 := Lib.hid ((HZ2.out.below HBV.out HZ2.out.lt).below hb9 (HZ2.out.below HBV.out HZ2.out.lt).lt)
          obtain ⟨xz, yz⟩ := HZ9.out.facts
          have HX9 := Lib.hid (HXV.out.below hb9 HXV.out.lt)
          obtain ⟨xv, yv⟩ := HX9.out.facts
          clear hb9
          have hne2 := HNE.out
          go_wp2_with fail
          obtain ⟨HF, HFB⟩ := put14 HB9.out (Nat.le_refl _) HZ9.out (.int .i64 2) (.int .i64 n1) (.string t2) (.string ⟨#[]⟩) (.string t3) (.string t4) (.string ⟨#[]⟩) (.string ⟨#[]⟩) (.int .i64 0) (.int .i64 0) (.int .i64 0) (.int .i64 0) (.int .i64 0) (.int .i64 0)
          obtain ⟨xf, yf⟩ := HF.facts
          refine bodyPost_ret (v := .tuple #[.agg #[.int .i64 2, .int .i64 n1, .string t2, .string ⟨#[]⟩, .string t3, .string t4, .string ⟨#[]⟩, .string ⟨#[]⟩, .int .i64 0, .int .i64 0, .int .i64 0, .int .i64 0, .int .i64 0, .int .i64 0], .int .i64 0]) (by simp [results, Tryz.results25, go_sem, xf]) rfl ?_
          exact ⟨rfl, HFB⟩
      · rw [if_neg hok, if_neg hok] at HTX
        have hp := HP.out
        rw [if_neg (fun h => hok h.1)] at hp
        subst hp
        clear hok
        refine (HTX.out V).mono ?_
        rintro e w9 ⟨rfl, hb9⟩
        have HB9 := Lib.hid ((HB2.out.trans (HBV.out.mono HB2.out.size)).trans (hb9.mono (HB2.out.trans (HBV.out.mono HB2.out.size)).size))
        have HZ9 := Lib.hid ((HZ2.out.below HBV.out HZ2.out.lt).below hb9 (HZ2.out.below HBV.out HZ2.out.lt).lt)
        obtain ⟨xz, yz⟩ := HZ9.out.facts
        have HX9 := Lib.hid (HXV.out.below hb9 HXV.out.lt)
        obtain ⟨xv, yv⟩ := HX9.out.facts
        clear hb9
        go_wp2_with fail
        obtain ⟨HF, HFB⟩ := put14 HB9.out (Nat.le_refl _) HZ9.out (.int .i64 0) (.int .i64 0) (.string ⟨#[]⟩) (.string ⟨#[]⟩) (.string ⟨#[]⟩) (.string ⟨#[]⟩) (.string ⟨#[]⟩) (.string ⟨#[]⟩) (.int .i64 0) (.int .i64 0) (.int .i64 0) (.int .i64 0) (.int .i64 0) (.int .i64 0)
        obtain ⟨xf, yf⟩ := HF.facts
        refine bodyPost_ret (v := .tuple #[.agg #[.int .i64 0, .int .i64 0, .string ⟨#[]⟩, .string ⟨#[]⟩, .string ⟨#[]⟩, .string ⟨#[]⟩, .string ⟨#[]⟩, .string ⟨#[]⟩, .int .i64 0, .int .i64 0, .int .i64 0, .int .i64 0, .int .i64 0, .int .i64 0], .int .i64 8]) (by simp [results, Tryz.results25, go_sem, xf]) rfl ?_
        exact ⟨rfl, HFB⟩
set_option maxRecDepth 100000 in
set_option maxHeartbeats 8000000 in
theorem rpa_o4 (s : ByteArray) (w : World) (hs : s.size ≤ 2000) (he : (lexL s).2.1 = 0) (ho : opOf (wordK (lexL s).1 0) = 4) :
    Calls Tryz.prog 25 #[.string s] w fun r w' => r = .returned (.tuple #[.agg (refParse s).1.cells, .int .i64 (refParse s).2]) ∧ Below w.heap.size w w' := by
  have hi : (s.size : Int) ≤ 2000 := by omega
  have HLX := Lib.hid (fun W => refLex_any s W (by unfold maxLen; omega))
  have hkp := lexL_kept s
  have hdg := lexL_digs s
  have hp : refParse s = if evOk (refE (lexL s).1) = true ∧ textB (refE (lexL s).1) = s then (refE (lexL s).1, 0) else (zeroE, 8) := by
    unfold refParse
    rw [if_neg (by omega), if_pos he]
  generalize refParse s = Pr at *
  generalize lexL s = q at *
  obtain ⟨fs, er, ap⟩ := q
  dsimp only at he HLX hkp hdg hp ho
  subst he
  have hfl : fs.length ≤ 100000 := by omega
  have hsz : ∀ i, (wordK fs i).size ≤ maxLen := fun i => getD_size hkp.2 i
  have hre : refE fs = ⟨opOf (wordK fs 0), numK fs 1, wordK fs 2, if opOf (wordK fs 0) = 1 then wordK fs 3 else ⟨#[]⟩, if opOf (wordK fs 0) = 2 then wordK fs 3 else ⟨#[]⟩, if opOf (wordK fs 0) = 2 then wordK fs 4 else ⟨#[]⟩, if opOf (wordK fs 0) = 6 then wordK fs 3 else ⟨#[]⟩, if opOf (wordK fs 0) = 6 then wordK fs 4 else ⟨#[]⟩,
    if opOf (wordK fs 0) = 4 then numK fs 3 else 0, if opOf (wordK fs 0) = 4 then numK fs 4 else 0, if opOf (wordK fs 0) = 4 then numK fs 5 else 0, if opOf (wordK fs 0) = 4 then numK fs 6 else 0, if opOf (wordK fs 0) = 4 then numK fs 7 else 0, if opOf (wordK fs 0) = 4 then numK fs 8 else 0⟩ := rfl
  rw [ho] at hre
  simp only [show ¬ (4 : Int) = 1 by decide, show ¬ (4 : Int) = 2 by decide, show ¬ (4 : Int) = 6 by decide, if_true, if_false] at hre
  rw [hre] at hp
  have HW0 : Hid (∀ v W, TokS W v fs → Calls Tryz.prog 41 #[v, .int .i64 0] W fun e w' => e = .returned (.string (wordK fs 0)) ∧ w' = W) := fun v W h => wordK_any v fs 0 W h hfl (by omega)
  have HW2 : Hid (∀ v W, TokS W v fs → Calls Tryz.prog 41 #[v, .int .i64 2] W fun e w' => e = .returned (.string (wordK fs 2)) ∧ w' = W) := fun v W h => wordK_any v fs 2 W h hfl (by omega)
  have HN1 : Hid (∀ v W, TokS W v fs → Calls Tryz.prog 40 #[v, .int .i64 1] W fun e w' => e = .returned (.int .i64 (numK fs 1)) ∧ w' = W) := fun v W h => numK_any v fs 1 W h hfl (by omega) hdg
  have HN3 : Hid (∀ v W, TokS W v fs → Calls Tryz.prog 40 #[v, .int .i64 3] W fun e w' => e = .returned (.int .i64 (numK fs 3)) ∧ w' = W) := fun v W h => numK_any v fs 3 W h hfl (by omega) hdg
  have HN4 : Hid (∀ v W, TokS W v fs → Calls Tryz.prog 40 #[v, .int .i64 4] W fun e w' => e = .returned (.int .i64 (numK fs 4)) ∧ w' = W) := fun v W h => numK_any v fs 4 W h hfl (by omega) hdg
  have HN5 : Hid (∀ v W, TokS W v fs → Calls Tryz.prog 40 #[v, .int .i64 5] W fun e w' => e = .returned (.int .i64 (numK fs 5)) ∧ w' = W) := fun v W h => numK_any v fs 5 W h hfl (by omega) hdg
  have HN6 : Hid (∀ v W, TokS W v fs → Calls Tryz.prog 40 #[v, .int .i64 6] W fun e w' => e = .returned (.int .i64 (numK fs 6)) ∧ w' = W) := fun v W h => numK_any v fs 6 W h hfl (by omega) hdg
  have HN7 : Hid (∀ v W, TokS W v fs → Calls Tryz.prog 40 #[v, .int .i64 7] W fun e w' => e = .returned (.int .i64 (numK fs 7)) ∧ w' = W) := fun v W h => numK_any v fs 7 W h hfl (by omega) hdg
  have HN8 : Hid (∀ v W, TokS W v fs → Calls Tryz.prog 40 #[v, .int .i64 8] W fun e w' => e = .returned (.int .i64 (numK fs 8)) ∧ w' = W) := fun v W h => numK_any v fs 8 W h hfl (by omega) hdg
  have hz0 := hsz 0
  have hz2 := hsz 2
  generalize wordK fs 0 = t0 at *
  generalize wordK fs 2 = t2 at *
  generalize numK fs 1 = n1 at *
  generalize numK fs 3 = n3 at *
  generalize numK fs 4 = n4 at *
  generalize numK fs 5 = n5 at *
  generalize numK fs 6 = n6 at *
  generalize numK fs 7 = n7 at *
  generalize numK fs 8 = n8 at *
  have hpo : Hid (opUp 7 t0 = 4) := (op_up t0).trans ho
  have HTX := Lib.hid (fun W => refText_any ⟨4, n1, t2, ⟨#[]⟩, ⟨#[]⟩, ⟨#[]⟩, ⟨#[]⟩, ⟨#[]⟩, n3, n4, n5, n6, n7, n8⟩ W ⟨hz2, Nat.zero_le _, Nat.zero_le _, Nat.zero_le _, Nat.zero_le _, Nat.zero_le _⟩)
  have HP := Lib.hid hp
  clear hkp hdg hsz hre hfl hp hz0 hz2 ho
  go_enter Tryz.func25, Tryz.ntmps25
  go_wp2_with (first | (go_at_call 39; refine (HLX.out _).mono ?_; rintro e w2 ⟨vt, rfl, ho2, hb2⟩; have HT2 := Lib.hid (toks_own ho2); have HB2 := Lib.hid (((Below.refl w.heap.size w).alloc (Nat.le_refl _) (.cells #[.int .i64 0, .int .i64 0, .string ⟨#[]⟩, .string ⟨#[]⟩, .string ⟨#[]⟩, .string ⟨#[]⟩, .string ⟨#[]⟩, .string ⟨#[]⟩, .int .i64 0, .int .i64 0, .int .i64 0, .int .i64 0, .int .i64 0, .int .i64 0] 49)).trans (hb2.mono (by simp))); have HZ2 := Lib.hid ((Has.new w 49 #[.int .i64 0, .int .i64 0, .string ⟨#[]⟩, .string ⟨#[]⟩, .string ⟨#[]⟩, .string ⟨#[]⟩, .string ⟨#[]⟩, .string ⟨#[]⟩, .int .i64 0, .int .i64 0, .int .i64 0, .int .i64 0, .int .i64 0, .int .i64 0]).below hb2 (by simp)); obtain ⟨xz, yz⟩ := HZ2.out.facts; clear ho2 hb2) | (go_at_call 40; refine (HN1.out _ w2 HT2.out).mono ?_; rintro e w3 ⟨rfl, h⟩; obtain rfl := h.symm) | (go_at_call 41; refine (HW2.out _ w2 HT2.out).mono ?_; rintro e w3 ⟨rfl, h⟩; obtain rfl := h.symm))
  go_loopw [8] (fun i wr => ∃ k : Nat, 1 ≤ k ∧ k ≤ 8 ∧ i = .int .i64 k ∧ Hid (Has wr w2.heap.size 49 #[.int .i64 ((opUp (k - 1) t0)), .int .i64 n1, .string t2, .string ⟨#[]⟩, .string ⟨#[]⟩, .string ⟨#[]⟩, .string ⟨#[]⟩, .string ⟨#[]⟩, .int .i64 0, .int .i64 0, .int .i64 0, .int .i64 0, .int .i64 0, .int .i64 0]) ∧ Hid (Below w2.heap.size w2 wr)) (fun i _ => 8 - (intOf i).toNat)
  case atStart => exact ⟨1, Nat.le_refl _, by omega, rfl, Has.new w2 _ _, (Below.refl _ _).alloc (Nat.le_refl _) _⟩
  case round =>
    obtain ⟨k, hk1, hk8, rfl, HX, HB⟩ := hrel
    clear xz yz
    by_cases hlt : k < 8
    · have hki : (k : Int) < 8 := by omega
      have HK := Lib.hid (show k - 1 + 1 = k by omega)
      obtain ⟨o, hoo⟩ : ∃ o, opUp (k - 1) t0 = o := ⟨_, rfl⟩
      rw [hoo] at HX
      have hup : opUp (k + 1 - 1) t0 = if t0 = wordS k then (k : Int) else o := by
        have e : k + 1 - 1 = (k - 1) + 1 := by omega
        rw [e, ← hoo]
        show (if t0 = wordS (((k - 1 : Nat) : Int) + 1) then (((k - 1 : Nat) : Int) + 1) else opUp (k - 1) t0) = _
        rw [show (((k - 1 : Nat) : Int) + 1) = (k : Int) by omega]
      have HUP := Lib.hid hup
      clear hup
      have HXW := Lib.hid (fun (W : World) (g : Nat) (h : Has W g 9 (wordsL.map Value.string).toArray) => words_at h k hlt)
      generalize wordS (k : Int) = wk at *
      clear hoo
      go_wp2_with fail
      refine (words_any _).mono ?_
      rintro e v1 ⟨rfl, hv1⟩
      have HX1 := Lib.hid (show Has v1 w2.heap.size 49 #[.int .i64 o, .int .i64 n1, .string t2, .string ⟨#[]⟩, .string ⟨#[]⟩, .string ⟨#[]⟩, .string ⟨#[]⟩, .string ⟨#[]⟩, .int .i64 0, .int .i64 0, .int .i64 0, .int .i64 0, .int .i64 0, .int .i64 0] by rw [hv1]; exact HX.out.alloc _)
      have HB1 := Lib.hid (show Below w2.heap.size w2 v1 by rw [hv1]; exact HB.out.alloc HB.out.size _)
      clear hv1 HX HB
      go_wp2_with (go_at_call 41; refine (HW0.out _ v1 (HT2.out.below HB1.out)).mono ?_; rintro e w3 ⟨rfl, h⟩; obtain rfl := h.symm)
      refine (words_any _).mono ?_
      rintro e v2 ⟨rfl, hv2⟩
      have HG2 := Lib.hid (show Has v2 v1.heap.size 9 (wordsL.map Value.string).toArray by rw [hv2]; exact Has.new _ _ _)
      have HX2 := Lib.hid (show Has v2 w2.heap.size 49 #[.int .i64 o, .int .i64 n1, .string t2, .string ⟨#[]⟩, .string ⟨#[]⟩, .string ⟨#[]⟩, .string ⟨#[]⟩, .string ⟨#[]⟩, .int .i64 0, .int .i64 0, .int .i64 0, .int .i64 0, .int .i64 0, .int .i64 0] by rw [hv2]; exact HX1.out.alloc _)
      have HB2' := Lib.hid (show Below w2.heap.size w2 v2 by rw [hv2]; exact HB1.out.alloc HB1.out.size _)
      have xw := HXW.out v2 _ HG2.out
      obtain ⟨x2, y2⟩ := HX2.out.facts
      clear hv2 HX1 HB1
      by_cases hw : t0 = wk
      · have hbb : (t0.toList == wk.toList) = true := by rw [bytes_beq]; exact decide_eq_true hw
        have HU := Lib.hid (show opUp (k + 1 - 1) t0 = (k : Int) by rw [HUP.out, if_pos hw])
        have HXN := Lib.hid (show Has (v2.setCell ⟨w2.heap.size, 0, none⟩ (.int .i64 (k : Int))) w2.heap.size 49 #[.int .i64 ((k : Int)), .int .i64 n1, .string t2, .string ⟨#[]⟩, .string ⟨#[]⟩, .string ⟨#[]⟩, .string ⟨#[]⟩, .string ⟨#[]⟩, .int .i64 0, .int .i64 0, .int .i64 0, .int .i64 0, .int .i64 0, .int .i64 0] by have h := HX2.out.put 0 (.int .i64 (k : Int)); simpa using h)
        clear hw
        go_wp2_with fail
        go_roundw
        case rel => exact ⟨k + 1, by omega, by omega, by go_num, by rw [HU.out]; exact HXN, HB2'.out.setCell (p := ⟨w2.heap.size, 0, none⟩) (Nat.le_refl _) _⟩
        case measure => simp [intOf]; omega
      · have hbb : (t0.toList == wk.toList) = false := by rw [bytes_beq]; exact decide_eq_false hw
        have HU := Lib.hid (show opUp (k + 1 - 1) t0 = o by rw [HUP.out, if_neg hw])
        clear hw
        go_wp2_with fail
        go_roundw
        case rel => exact ⟨k + 1, by omega, by omega, by go_num, by rw [HU.out]; exact HX2, HB2'.out⟩
        case measure => simp [intOf]; omega
    · have hk : k = 8 := by omega
      subst hk
      rw [show 8 - 1 = 7 by rfl, hpo.out] at HX
      go_wp2_with fail
      refine (words_any _).mono ?_
      rintro e v1 ⟨rfl, hv1⟩
      have HX1 := Lib.hid (show Has v1 w2.heap.size 49 #[.int .i64 4, .int .i64 n1, .string t2, .string ⟨#[]⟩, .string ⟨#[]⟩, .string ⟨#[]⟩, .string ⟨#[]⟩, .string ⟨#[]⟩, .int .i64 0, .int .i64 0, .int .i64 0, .int .i64 0, .int .i64 0, .int .i64 0] by rw [hv1]; exact HX.out.alloc _)
      have HB1 := Lib.hid (show Below w2.heap.size w2 v1 by rw [hv1]; exact HB.out.alloc HB.out.size _)
      obtain ⟨x1, y1⟩ := HX1.out.facts
      clear hv1 HX HB
      go_wp2_with (first | (go_at_call 40; (with_reducible show Calls _ _ #[_, .int .i64 3] _ _); refine (HN3.out _ _ (HT2.out.below (by repeat (first | exact HB1.out | apply below_cell)))).mono ?_; rintro e w3 ⟨rfl, h⟩; obtain rfl := h.symm) | (go_at_call 40; (with_reducible show Calls _ _ #[_, .int .i64 4] _ _); refine (HN4.out _ _ (HT2.out.below (by repeat (first | exact HB1.out | apply below_cell)))).mono ?_; rintro e w3 ⟨rfl, h⟩; obtain rfl := h.symm) | (go_at_call 40; (with_reducible show Calls _ _ #[_, .int .i64 5] _ _); refine (HN5.out _ _ (HT2.out.below (by repeat (first | exact HB1.out | apply below_cell)))).mono ?_; rintro e w3 ⟨rfl, h⟩; obtain rfl := h.symm) | (go_at_call 40; (with_reducible show Calls _ _ #[_, .int .i64 6] _ _); refine (HN6.out _ _ (HT2.out.below (by repeat (first | exact HB1.out | apply below_cell)))).mono ?_; rintro e w3 ⟨rfl, h⟩; obtain rfl := h.symm) | (go_at_call 40; (with_reducible show Calls _ _ #[_, .int .i64 7] _ _); refine (HN7.out _ _ (HT2.out.below (by repeat (first | exact HB1.out | apply below_cell)))).mono ?_; rintro e w3 ⟨rfl, h⟩; obtain rfl := h.symm) | (go_at_call 40; (with_reducible show Calls _ _ #[_, .int .i64 8] _ _); refine (HN8.out _ _ (HT2.out.below (by repeat (first | exact HB1.out | apply below_cell)))).mono ?_; rintro e w3 ⟨rfl, h⟩; obtain rfl := h.symm))
      obtain ⟨V, hV⟩ : ∃ V, ((((((v1).setCell ⟨w2.heap.size, 8, none⟩ (.int .i64 n3)).setCell ⟨w2.heap.size, 9, none⟩ (.int .i64 n4)).setCell ⟨w2.heap.size, 10, none⟩ (.int .i64 n5)).setCell ⟨w2.heap.size, 11, none⟩ (.int .i64 n6)).setCell ⟨w2.heap.size, 12, none⟩ (.int .i64 n7)).setCell ⟨w2.heap.size, 13, none⟩ (.int .i64 n8) = V := ⟨_, rfl⟩
      rw [hV]
      have HXV := Lib.hid (show Has V w2.heap.size 49 #[.int .i64 4, .int .i64 n1, .string t2, .string ⟨#[]⟩, .string ⟨#[]⟩, .string ⟨#[]⟩, .string ⟨#[]⟩, .string ⟨#[]⟩, .int .i64 n3, .int .i64 n4, .int .i64 n5, .int .i64 n6, .int .i64 n7, .int .i64 n8] by rw [← hV]; have h := ((((((HX1.out).put 8 (.int .i64 n3)).put 9 (.int .i64 n4)).put 10 (.int .i64 n5)).put 11 (.int .i64 n6)).put 12 (.int .i64 n7)).put 13 (.int .i64 n8); simpa using h)
      have HBV := Lib.hid (show Below w2.heap.size w2 V by rw [← hV]; exact ((((((HB1.out).setCell (p := ⟨w2.heap.size, 8, none⟩) (Nat.le_refl _) (.int .i64 n3)).setCell (p := ⟨w2.heap.size, 9, none⟩) (Nat.le_refl _) (.int .i64 n4)).setCell (p := ⟨w2.heap.size, 10, none⟩) (Nat.le_refl _) (.int .i64 n5)).setCell (p := ⟨w2.heap.size, 11, none⟩) (Nat.le_refl _) (.int .i64 n6)).setCell (p := ⟨w2.heap.size, 12, none⟩) (Nat.le_refl _) (.int .i64 n7)).setCell (p := ⟨w2.heap.size, 13, none⟩) (Nat.le_refl _) (.int .i64 n8))
      clear hV x1 y1 HX1 HB1
      by_cases hok : evOk ⟨4, n1, t2, ⟨#[]⟩, ⟨#[]⟩, ⟨#[]⟩, ⟨#[]⟩, ⟨#[]⟩, n3, n4, n5, n6, n7, n8⟩ = true
      · rw [if_pos hok, if_pos hok] at HTX
        generalize hbb : ((textB ⟨4, n1, t2, ⟨#[]⟩, ⟨#[]⟩, ⟨#[]⟩, ⟨#[]⟩, ⟨#[]⟩, n3, n4, n5, n6, n7, n8⟩).toList == s.toList) = bb
        rw [bytes_beq] at hbb
        cases bb
        · have hne := of_decide_eq_false hbb
          have hp := HP.out
          rw [if_neg (fun h => hne h.2)] at hp
          subst hp
          have HNE := Lib.hid (show ((textB ⟨4, n1, t2, ⟨#[]⟩, ⟨#[]⟩, ⟨#[]⟩, ⟨#[]⟩, ⟨#[]⟩, n3, n4, n5, n6, n7, n8⟩).toList == s.toList) = false by rw [bytes_beq]; exact decide_eq_false hne)
          clear hbb hne hok
          generalize textB ⟨4, n1, t2, ⟨#[]⟩, ⟨#[]⟩, ⟨#[]⟩, ⟨#[]⟩, ⟨#[]⟩, n3, n4, n5, n6, n7, n8⟩ = tb at *
          refine (HTX.out V).mono ?_
          rintro e w9 ⟨rfl, hb9⟩
          have HB9 := Lib.hid ((HB2.out.trans (HBV.out.mono HB2.out.size)).trans (hb9.mono (HB2.out.trans (HBV.out.mono HB2.out.size)).size))
          have HZ9 := Lib.hid ((HZ2.out.below HBV.out HZ2.out.lt).below hb9 (HZ2.out.below HBV.out HZ2.out.lt).lt)
          obtain ⟨xz, yz⟩ := HZ9.out.facts
          have HX9 := Lib.hid (HXV.out.below hb9 HXV.out.lt)
          obtain ⟨xv, yv⟩ := HX9.out.facts
          clear hb9
          have hne2 := HNE.out
          go_wp2_with fail
          obtain ⟨HF, HFB⟩ := put14 HB9.out (Nat.le_refl _) HZ9.out (.int .i64 0) (.int .i64 0) (.string ⟨#[]⟩) (.string ⟨#[]⟩) (.string ⟨#[]⟩) (.string ⟨#[]⟩) (.string ⟨#[]⟩) (.string ⟨#[]⟩) (.int .i64 0) (.int .i64 0) (.int .i64 0) (.int .i64 0) (.int .i64 0) (.int .i64 0)
          obtain ⟨xf, yf⟩ := HF.facts
          refine bodyPost_ret (v := .tuple #[.agg #[.int .i64 0, .int .i64 0, .string ⟨#[]⟩, .string ⟨#[]⟩, .string ⟨#[]⟩, .string ⟨#[]⟩, .string ⟨#[]⟩, .string ⟨#[]⟩, .int .i64 0, .int .i64 0, .int .i64 0, .int .i64 0, .int .i64 0, .int .i64 0], .int .i64 8]) (by simp [results, Tryz.results25, go_sem, xf]) rfl ?_
          exact ⟨rfl, HFB⟩
        · have heq := of_decide_eq_true hbb
          have hp := HP.out
          rw [if_pos ⟨hok, heq⟩] at hp
          subst hp
          have HNE := Lib.hid (show ((textB ⟨4, n1, t2, ⟨#[]⟩, ⟨#[]⟩, ⟨#[]⟩, ⟨#[]⟩, ⟨#[]⟩, n3, n4, n5, n6, n7, n8⟩).toList == s.toList) = true by rw [bytes_beq]; exact decide_eq_true heq)
          clear hbb heq hok
          generalize textB ⟨4, n1, t2, ⟨#[]⟩, ⟨#[]⟩, ⟨#[]⟩, ⟨#[]⟩, ⟨#[]⟩, n3, n4, n5, n6, n7, n8⟩ = tb at *
          refine (HTX.out V).mono ?_
          rintro e w9 ⟨rfl, hb9⟩
          have HB9 := Lib.hid ((HB2.out.trans (HBV.out.mono HB2.out.size)).trans (hb9.mono (HB2.out.trans (HBV.out.mono HB2.out.size)).size))
          have HZ9 := Lib.hid ((HZ2.out.below HBV.out HZ2.out.lt).below hb9 (HZ2.out.below HBV.out HZ2.out.lt).lt)
          obtain ⟨xz, yz⟩ := HZ9.out.facts
          have HX9 := Lib.hid (HXV.out.below hb9 HXV.out.lt)
          obtain ⟨xv, yv⟩ := HX9.out.facts
          clear hb9
          have hne2 := HNE.out
          go_wp2_with fail
          obtain ⟨HF, HFB⟩ := put14 HB9.out (Nat.le_refl _) HZ9.out (.int .i64 4) (.int .i64 n1) (.string t2) (.string ⟨#[]⟩) (.string ⟨#[]⟩) (.string ⟨#[]⟩) (.string ⟨#[]⟩) (.string ⟨#[]⟩) (.int .i64 n3) (.int .i64 n4) (.int .i64 n5) (.int .i64 n6) (.int .i64 n7) (.int .i64 n8)
          obtain ⟨xf, yf⟩ := HF.facts
          refine bodyPost_ret (v := .tuple #[.agg #[.int .i64 4, .int .i64 n1, .string t2, .string ⟨#[]⟩, .string ⟨#[]⟩, .string ⟨#[]⟩, .string ⟨#[]⟩, .string ⟨#[]⟩, .int .i64 n3, .int .i64 n4, .int .i64 n5, .int .i64 n6, .int .i64 n7, .int .i64 n8], .int .i64 0]) (by simp [results, Tryz.results25, go_sem, xf]) rfl ?_
          exact ⟨rfl, HFB⟩
      · rw [if_neg hok, if_neg hok] at HTX
        have hp := HP.out
        rw [if_neg (fun h => hok h.1)] at hp
        subst hp
        clear hok
        refine (HTX.out V).mono ?_
        rintro e w9 ⟨rfl, hb9⟩
        have HB9 := Lib.hid ((HB2.out.trans (HBV.out.mono HB2.out.size)).trans (hb9.mono (HB2.out.trans (HBV.out.mono HB2.out.size)).size))
        have HZ9 := Lib.hid ((HZ2.out.below HBV.out HZ2.out.lt).below hb9 (HZ2.out.below HBV.out HZ2.out.lt).lt)
        obtain ⟨xz, yz⟩ := HZ9.out.facts
        have HX9 := Lib.hid (HXV.out.below hb9 HXV.out.lt)
        obtain ⟨xv, yv⟩ := HX9.out.facts
        clear hb9
        go_wp2_with fail
        obtain ⟨HF, HFB⟩ := put14 HB9.out (Nat.le_refl _) HZ9.out (.int .i64 0) (.int .i64 0) (.string ⟨#[]⟩) (.string ⟨#[]⟩) (.string ⟨#[]⟩) (.string ⟨#[]⟩) (.string ⟨#[]⟩) (.string ⟨#[]⟩) (.int .i64 0) (.int .i64 0) (.int .i64 0) (.int .i64 0) (.int .i64 0) (.int .i64 0)
        obtain ⟨xf, yf⟩ := HF.facts
        refine bodyPost_ret (v := .tuple #[.agg #[.int .i64 0, .int .i64 0, .string ⟨#[]⟩, .string ⟨#[]⟩, .string ⟨#[]⟩, .string ⟨#[]⟩, .string ⟨#[]⟩, .string ⟨#[]⟩, .int .i64 0, .int .i64 0, .int .i64 0, .int .i64 0, .int .i64 0, .int .i64 0], .int .i64 8]) (by simp [results, Tryz.results25, go_sem, xf]) rfl ?_
        exact ⟨rfl, HFB⟩
set_option maxRecDepth 100000 in
set_option maxHeartbeats 8000000 in
theorem rpa_o6 (s : ByteArray) (w : World) (hs : s.size ≤ 2000) (he : (lexL s).2.1 = 0) (ho : opOf (wordK (lexL s).1 0) = 6) :
    Calls Tryz.prog 25 #[.string s] w fun r w' => r = .returned (.tuple #[.agg (refParse s).1.cells, .int .i64 (refParse s).2]) ∧ Below w.heap.size w w' := by
  have hi : (s.size : Int) ≤ 2000 := by omega
  have HLX := Lib.hid (fun W => refLex_any s W (by unfold maxLen; omega))
  have hkp := lexL_kept s
  have hdg := lexL_digs s
  have hp : refParse s = if evOk (refE (lexL s).1) = true ∧ textB (refE (lexL s).1) = s then (refE (lexL s).1, 0) else (zeroE, 8) := by
    unfold refParse
    rw [if_neg (by omega), if_pos he]
  generalize refParse s = Pr at *
  generalize lexL s = q at *
  obtain ⟨fs, er, ap⟩ := q
  dsimp only at he HLX hkp hdg hp ho
  subst he
  have hfl : fs.length ≤ 100000 := by omega
  have hsz : ∀ i, (wordK fs i).size ≤ maxLen := fun i => getD_size hkp.2 i
  have hre : refE fs = ⟨opOf (wordK fs 0), numK fs 1, wordK fs 2, if opOf (wordK fs 0) = 1 then wordK fs 3 else ⟨#[]⟩, if opOf (wordK fs 0) = 2 then wordK fs 3 else ⟨#[]⟩, if opOf (wordK fs 0) = 2 then wordK fs 4 else ⟨#[]⟩, if opOf (wordK fs 0) = 6 then wordK fs 3 else ⟨#[]⟩, if opOf (wordK fs 0) = 6 then wordK fs 4 else ⟨#[]⟩,
    if opOf (wordK fs 0) = 4 then numK fs 3 else 0, if opOf (wordK fs 0) = 4 then numK fs 4 else 0, if opOf (wordK fs 0) = 4 then numK fs 5 else 0, if opOf (wordK fs 0) = 4 then numK fs 6 else 0, if opOf (wordK fs 0) = 4 then numK fs 7 else 0, if opOf (wordK fs 0) = 4 then numK fs 8 else 0⟩ := rfl
  rw [ho] at hre
  simp only [show ¬ (6 : Int) = 1 by decide, show ¬ (6 : Int) = 2 by decide, show ¬ (6 : Int) = 4 by decide, if_true, if_false] at hre
  rw [hre] at hp
  have HW0 : Hid (∀ v W, TokS W v fs → Calls Tryz.prog 41 #[v, .int .i64 0] W fun e w' => e = .returned (.string (wordK fs 0)) ∧ w' = W) := fun v W h => wordK_any v fs 0 W h hfl (by omega)
  have HW2 : Hid (∀ v W, TokS W v fs → Calls Tryz.prog 41 #[v, .int .i64 2] W fun e w' => e = .returned (.string (wordK fs 2)) ∧ w' = W) := fun v W h => wordK_any v fs 2 W h hfl (by omega)
  have HW3 : Hid (∀ v W, TokS W v fs → Calls Tryz.prog 41 #[v, .int .i64 3] W fun e w' => e = .returned (.string (wordK fs 3)) ∧ w' = W) := fun v W h => wordK_any v fs 3 W h hfl (by omega)
  have HW4 : Hid (∀ v W, TokS W v fs → Calls Tryz.prog 41 #[v, .int .i64 4] W fun e w' => e = .returned (.string (wordK fs 4)) ∧ w' = W) := fun v W h => wordK_any v fs 4 W h hfl (by omega)
  have HN1 : Hid (∀ v W, TokS W v fs → Calls Tryz.prog 40 #[v, .int .i64 1] W fun e w' => e = .returned (.int .i64 (numK fs 1)) ∧ w' = W) := fun v W h => numK_any v fs 1 W h hfl (by omega) hdg
  have hz0 := hsz 0
  have hz2 := hsz 2
  have hz3 := hsz 3
  have hz4 := hsz 4
  generalize wordK fs 0 = t0 at *
  generalize wordK fs 2 = t2 at *
  generalize wordK fs 3 = t3 at *
  generalize wordK fs 4 = t4 at *
  generalize numK fs 1 = n1 at *
  have hpo : Hid (opUp 7 t0 = 6) := (op_up t0).trans ho
  have HTX := Lib.hid (fun W => refText_any ⟨6, n1, t2, ⟨#[]⟩, ⟨#[]⟩, ⟨#[]⟩, t3, t4, 0, 0, 0, 0, 0, 0⟩ W ⟨hz2, Nat.zero_le _, Nat.zero_le _, Nat.zero_le _, hz3, hz4⟩)
  have HP := Lib.hid hp
  clear hkp hdg hsz hre hfl hp hz0 hz2 hz3 hz4 ho
  go_enter Tryz.func25, Tryz.ntmps25
  go_wp2_with (first | (go_at_call 39; refine (HLX.out _).mono ?_; rintro e w2 ⟨vt, rfl, ho2, hb2⟩; have HT2 := Lib.hid (toks_own ho2); have HB2 := Lib.hid (((Below.refl w.heap.size w).alloc (Nat.le_refl _) (.cells #[.int .i64 0, .int .i64 0, .string ⟨#[]⟩, .string ⟨#[]⟩, .string ⟨#[]⟩, .string ⟨#[]⟩, .string ⟨#[]⟩, .string ⟨#[]⟩, .int .i64 0, .int .i64 0, .int .i64 0, .int .i64 0, .int .i64 0, .int .i64 0] 49)).trans (hb2.mono (by simp))); have HZ2 := Lib.hid ((Has.new w 49 #[.int .i64 0, .int .i64 0, .string ⟨#[]⟩, .string ⟨#[]⟩, .string ⟨#[]⟩, .string ⟨#[]⟩, .string ⟨#[]⟩, .string ⟨#[]⟩, .int .i64 0, .int .i64 0, .int .i64 0, .int .i64 0, .int .i64 0, .int .i64 0]).below hb2 (by simp)); obtain ⟨xz, yz⟩ := HZ2.out.facts; clear ho2 hb2) | (go_at_call 40; refine (HN1.out _ w2 HT2.out).mono ?_; rintro e w3 ⟨rfl, h⟩; obtain rfl := h.symm) | (go_at_call 41; refine (HW2.out _ w2 HT2.out).mono ?_; rintro e w3 ⟨rfl, h⟩; obtain rfl := h.symm))
  go_loopw [8] (fun i wr => ∃ k : Nat, 1 ≤ k ∧ k ≤ 8 ∧ i = .int .i64 k ∧ Hid (Has wr w2.heap.size 49 #[.int .i64 ((opUp (k - 1) t0)), .int .i64 n1, .string t2, .string ⟨#[]⟩, .string ⟨#[]⟩, .string ⟨#[]⟩, .string ⟨#[]⟩, .string ⟨#[]⟩, .int .i64 0, .int .i64 0, .int .i64 0, .int .i64 0, .int .i64 0, .int .i64 0]) ∧ Hid (Below w2.heap.size w2 wr)) (fun i _ => 8 - (intOf i).toNat)
  case atStart => exact ⟨1, Nat.le_refl _, by omega, rfl, Has.new w2 _ _, (Below.refl _ _).alloc (Nat.le_refl _) _⟩
  case round =>
    obtain ⟨k, hk1, hk8, rfl, HX, HB⟩ := hrel
    clear xz yz
    by_cases hlt : k < 8
    · have hki : (k : Int) < 8 := by omega
      have HK := Lib.hid (show k - 1 + 1 = k by omega)
      obtain ⟨o, hoo⟩ : ∃ o, opUp (k - 1) t0 = o := ⟨_, rfl⟩
      rw [hoo] at HX
      have hup : opUp (k + 1 - 1) t0 = if t0 = wordS k then (k : Int) else o := by
        have e : k + 1 - 1 = (k - 1) + 1 := by omega
        rw [e, ← hoo]
        show (if t0 = wordS (((k - 1 : Nat) : Int) + 1) then (((k - 1 : Nat) : Int) + 1) else opUp (k - 1) t0) = _
        rw [show (((k - 1 : Nat) : Int) + 1) = (k : Int) by omega]
      have HUP := Lib.hid hup
      clear hup
      have HXW := Lib.hid (fun (W : World) (g : Nat) (h : Has W g 9 (wordsL.map Value.string).toArray) => words_at h k hlt)
      generalize wordS (k : Int) = wk at *
      clear hoo
      go_wp2_with fail
      refine (words_any _).mono ?_
      rintro e v1 ⟨rfl, hv1⟩
      have HX1 := Lib.hid (show Has v1 w2.heap.size 49 #[.int .i64 o, .int .i64 n1, .string t2, .string ⟨#[]⟩, .string ⟨#[]⟩, .string ⟨#[]⟩, .string ⟨#[]⟩, .string ⟨#[]⟩, .int .i64 0, .int .i64 0, .int .i64 0, .int .i64 0, .int .i64 0, .int .i64 0] by rw [hv1]; exact HX.out.alloc _)
      have HB1 := Lib.hid (show Below w2.heap.size w2 v1 by rw [hv1]; exact HB.out.alloc HB.out.size _)
      clear hv1 HX HB
      go_wp2_with (go_at_call 41; refine (HW0.out _ v1 (HT2.out.below HB1.out)).mono ?_; rintro e w3 ⟨rfl, h⟩; obtain rfl := h.symm)
      refine (words_any _).mono ?_
      rintro e v2 ⟨rfl, hv2⟩
      have HG2 := Lib.hid (show Has v2 v1.heap.size 9 (wordsL.map Value.string).toArray by rw [hv2]; exact Has.new _ _ _)
      have HX2 := Lib.hid (show Has v2 w2.heap.size 49 #[.int .i64 o, .int .i64 n1, .string t2, .string ⟨#[]⟩, .string ⟨#[]⟩, .string ⟨#[]⟩, .string ⟨#[]⟩, .string ⟨#[]⟩, .int .i64 0, .int .i64 0, .int .i64 0, .int .i64 0, .int .i64 0, .int .i64 0] by rw [hv2]; exact HX1.out.alloc _)
      have HB2' := Lib.hid (show Below w2.heap.size w2 v2 by rw [hv2]; exact HB1.out.alloc HB1.out.size _)
      have xw := HXW.out v2 _ HG2.out
      obtain ⟨x2, y2⟩ := HX2.out.facts
      clear hv2 HX1 HB1
      by_cases hw : t0 = wk
      · have hbb : (t0.toList == wk.toList) = true := by rw [bytes_beq]; exact decide_eq_true hw
        have HU := Lib.hid (show opUp (k + 1 - 1) t0 = (k : Int) by rw [HUP.out, if_pos hw])
        have HXN := Lib.hid (show Has (v2.setCell ⟨w2.heap.size, 0, none⟩ (.int .i64 (k : Int))) w2.heap.size 49 #[.int .i64 ((k : Int)), .int .i64 n1, .string t2, .string ⟨#[]⟩, .string ⟨#[]⟩, .string ⟨#[]⟩, .string ⟨#[]⟩, .string ⟨#[]⟩, .int .i64 0, .int .i64 0, .int .i64 0, .int .i64 0, .int .i64 0, .int .i64 0] by have h := HX2.out.put 0 (.int .i64 (k : Int)); simpa using h)
        clear hw
        go_wp2_with fail
        go_roundw
        case rel => exact ⟨k + 1, by omega, by omega, by go_num, by rw [HU.out]; exact HXN, HB2'.out.setCell (p := ⟨w2.heap.size, 0, none⟩) (Nat.le_refl _) _⟩
        case measure => simp [intOf]; omega
      · have hbb : (t0.toList == wk.toList) = false := by rw [bytes_beq]; exact decide_eq_false hw
        have HU := Lib.hid (show opUp (k + 1 - 1) t0 = o by rw [HUP.out, if_neg hw])
        clear hw
        go_wp2_with fail
        go_roundw
        case rel => exact ⟨k + 1, by omega, by omega, by go_num, by rw [HU.out]; exact HX2, HB2'.out⟩
        case measure => simp [intOf]; omega
    · have hk : k = 8 := by omega
      subst hk
      rw [show 8 - 1 = 7 by rfl, hpo.out] at HX
      go_wp2_with fail
      refine (words_any _).mono ?_
      rintro e v1 ⟨rfl, hv1⟩
      have HX1 := Lib.hid (show Has v1 w2.heap.size 49 #[.int .i64 6, .int .i64 n1, .string t2, .string ⟨#[]⟩, .string ⟨#[]⟩, .string ⟨#[]⟩, .string ⟨#[]⟩, .string ⟨#[]⟩, .int .i64 0, .int .i64 0, .int .i64 0, .int .i64 0, .int .i64 0, .int .i64 0] by rw [hv1]; exact HX.out.alloc _)
      have HB1 := Lib.hid (show Below w2.heap.size w2 v1 by rw [hv1]; exact HB.out.alloc HB.out.size _)
      obtain ⟨x1, y1⟩ := HX1.out.facts
      clear hv1 HX HB
      go_wp2_with (first | (go_at_call 41; (with_reducible show Calls _ _ #[_, .int .i64 3] _ _); refine (HW3.out _ _ (HT2.out.below (by repeat (first | exact HB1.out | apply below_cell)))).mono ?_; rintro e w3 ⟨rfl, h⟩; obtain rfl := h.symm) | (go_at_call 41; (with_reducible show Calls _ _ #[_, .int .i64 4] _ _); refine (HW4.out _ _ (HT2.out.below (by repeat (first | exact HB1.out | apply below_cell)))).mono ?_; rintro e w3 ⟨rfl, h⟩; obtain rfl := h.symm))
      obtain ⟨V, hV⟩ : ∃ V, ((v1).setCell ⟨w2.heap.size, 6, none⟩ (.string t3)).setCell ⟨w2.heap.size, 7, none⟩ (.string t4) = V := ⟨_, rfl⟩
      rw [hV]
      have HXV := Lib.hid (show Has V w2.heap.size 49 #[.int .i64 6, .int .i64 n1, .string t2, .string ⟨#[]⟩, .string ⟨#[]⟩, .string ⟨#[]⟩, .string t3, .string t4, .int .i64 0, .int .i64 0, .int .i64 0, .int .i64 0, .int .i64 0, .int .i64 0] by rw [← hV]; have h := ((HX1.out).put 6 (.string t3)).put 7 (.string t4); simpa using h)
      have HBV := Lib.hid (show Below w2.heap.size w2 V by rw [← hV]; exact ((HB1.out).setCell (p := ⟨w2.heap.size, 6, none⟩) (Nat.le_refl _) (.string t3)).setCell (p := ⟨w2.heap.size, 7, none⟩) (Nat.le_refl _) (.string t4))
      clear hV x1 y1 HX1 HB1
      by_cases hok : evOk ⟨6, n1, t2, ⟨#[]⟩, ⟨#[]⟩, ⟨#[]⟩, t3, t4, 0, 0, 0, 0, 0, 0⟩ = true
      · rw [if_pos hok, if_pos hok] at HTX
        generalize hbb : ((textB ⟨6, n1, t2, ⟨#[]⟩, ⟨#[]⟩, ⟨#[]⟩, t3, t4, 0, 0, 0, 0, 0, 0⟩).toList == s.toList) = bb
        rw [bytes_beq] at hbb
        cases bb
        · have hne := of_decide_eq_false hbb
          have hp := HP.out
          rw [if_neg (fun h => hne h.2)] at hp
          subst hp
          have HNE := Lib.hid (show ((textB ⟨6, n1, t2, ⟨#[]⟩, ⟨#[]⟩, ⟨#[]⟩, t3, t4, 0, 0, 0, 0, 0, 0⟩).toList == s.toList) = false by rw [bytes_beq]; exact decide_eq_false hne)
          clear hbb hne hok
          generalize textB ⟨6, n1, t2, ⟨#[]⟩, ⟨#[]⟩, ⟨#[]⟩, t3, t4, 0, 0, 0, 0, 0, 0⟩ = tb at *
          refine (HTX.out V).mono ?_
          rintro e w9 ⟨rfl, hb9⟩
          have HB9 := Lib.hid ((HB2.out.trans (HBV.out.mono HB2.out.size)).trans (hb9.mono (HB2.out.trans (HBV.out.mono HB2.out.size)).size))
          have HZ9 := Lib.hid ((HZ2.out.below HBV.out HZ2.out.lt).below hb9 (HZ2.out.below HBV.out HZ2.out.lt).lt)
          obtain ⟨xz, yz⟩ := HZ9.out.facts
          have HX9 := Lib.hid (HXV.out.below hb9 HXV.out.lt)
          obtain ⟨xv, yv⟩ := HX9.out.facts
          clear hb9
          have hne2 := HNE.out
          go_wp2_with fail
          obtain ⟨HF, HFB⟩ := put14 HB9.out (Nat.le_refl _) HZ9.out (.int .i64 0) (.int .i64 0) (.string ⟨#[]⟩) (.string ⟨#[]⟩) (.string ⟨#[]⟩) (.string ⟨#[]⟩) (.string ⟨#[]⟩) (.string ⟨#[]⟩) (.int .i64 0) (.int .i64 0) (.int .i64 0) (.int .i64 0) (.int .i64 0) (.int .i64 0)
          obtain ⟨xf, yf⟩ := HF.facts
          refine bodyPost_ret (v := .tuple #[.agg #[.int .i64 0, .int .i64 0, .string ⟨#[]⟩, .string ⟨#[]⟩, .string ⟨#[]⟩, .string ⟨#[]⟩, .string ⟨#[]⟩, .string ⟨#[]⟩, .int .i64 0, .int .i64 0, .int .i64 0, .int .i64 0, .int .i64 0, .int .i64 0], .int .i64 8]) (by simp [results, Tryz.results25, go_sem, xf]) rfl ?_
          exact ⟨rfl, HFB⟩
        · have heq := of_decide_eq_true hbb
          have hp := HP.out
          rw [if_pos ⟨hok, heq⟩] at hp
          subst hp
          have HNE := Lib.hid (show ((textB ⟨6, n1, t2, ⟨#[]⟩, ⟨#[]⟩, ⟨#[]⟩, t3, t4, 0, 0, 0, 0, 0, 0⟩).toList == s.toList) = true by rw [bytes_beq]; exact decide_eq_true heq)
          clear hbb heq hok
          generalize textB ⟨6, n1, t2, ⟨#[]⟩, ⟨#[]⟩, ⟨#[]⟩, t3, t4, 0, 0, 0, 0, 0, 0⟩ = tb at *
          refine (HTX.out V).mono ?_
          rintro e w9 ⟨rfl, hb9⟩
          have HB9 := Lib.hid ((HB2.out.trans (HBV.out.mono HB2.out.size)).trans (hb9.mono (HB2.out.trans (HBV.out.mono HB2.out.size)).size))
          have HZ9 := Lib.hid ((HZ2.out.below HBV.out HZ2.out.lt).below hb9 (HZ2.out.below HBV.out HZ2.out.lt).lt)
          obtain ⟨xz, yz⟩ := HZ9.out.facts
          have HX9 := Lib.hid (HXV.out.below hb9 HXV.out.lt)
          obtain ⟨xv, yv⟩ := HX9.out.facts
          clear hb9
          have hne2 := HNE.out
          go_wp2_with fail
          obtain ⟨HF, HFB⟩ := put14 HB9.out (Nat.le_refl _) HZ9.out (.int .i64 6) (.int .i64 n1) (.string t2) (.string ⟨#[]⟩) (.string ⟨#[]⟩) (.string ⟨#[]⟩) (.string t3) (.string t4) (.int .i64 0) (.int .i64 0) (.int .i64 0) (.int .i64 0) (.int .i64 0) (.int .i64 0)
          obtain ⟨xf, yf⟩ := HF.facts
          refine bodyPost_ret (v := .tuple #[.agg #[.int .i64 6, .int .i64 n1, .string t2, .string ⟨#[]⟩, .string ⟨#[]⟩, .string ⟨#[]⟩, .string t3, .string t4, .int .i64 0, .int .i64 0, .int .i64 0, .int .i64 0, .int .i64 0, .int .i64 0], .int .i64 0]) (by simp [results, Tryz.results25, go_sem, xf]) rfl ?_
          exact ⟨rfl, HFB⟩
      · rw [if_neg hok, if_neg hok] at HTX
        have hp := HP.out
        rw [if_neg (fun h => hok h.1)] at hp
        subst hp
        clear hok
        refine (HTX.out V).mono ?_
        rintro e w9 ⟨rfl, hb9⟩
        have HB9 := Lib.hid ((HB2.out.trans (HBV.out.mono HB2.out.size)).trans (hb9.mono (HB2.out.trans (HBV.out.mono HB2.out.size)).size))
        have HZ9 := Lib.hid ((HZ2.out.below HBV.out HZ2.out.lt).below hb9 (HZ2.out.below HBV.out HZ2.out.lt).lt)
        obtain ⟨xz, yz⟩ := HZ9.out.facts
        have HX9 := Lib.hid (HXV.out.below hb9 HXV.out.lt)
        obtain ⟨xv, yv⟩ := HX9.out.facts
        clear hb9
        go_wp2_with fail
        obtain ⟨HF, HFB⟩ := put14 HB9.out (Nat.le_refl _) HZ9.out (.int .i64 0) (.int .i64 0) (.string ⟨#[]⟩) (.string ⟨#[]⟩) (.string ⟨#[]⟩) (.string ⟨#[]⟩) (.string ⟨#[]⟩) (.string ⟨#[]⟩) (.int .i64 0) (.int .i64 0) (.int .i64 0) (.int .i64 0) (.int .i64 0) (.int .i64 0)
        obtain ⟨xf, yf⟩ := HF.facts
        refine bodyPost_ret (v := .tuple #[.agg #[.int .i64 0, .int .i64 0, .string ⟨#[]⟩, .string ⟨#[]⟩, .string ⟨#[]⟩, .string ⟨#[]⟩, .string ⟨#[]⟩, .string ⟨#[]⟩, .int .i64 0, .int .i64 0, .int .i64 0, .int .i64 0, .int .i64 0, .int .i64 0], .int .i64 8]) (by simp [results, Tryz.results25, go_sem, xf]) rfl ?_
        exact ⟨rfl, HFB⟩
set_option maxRecDepth 100000 in
set_option maxHeartbeats 8000000 in
theorem rpa_o0 (s : ByteArray) (w : World) (hs : s.size ≤ 2000) (he : (lexL s).2.1 = 0) (ho : opOf (wordK (lexL s).1 0) ≠ 1 ∧ opOf (wordK (lexL s).1 0) ≠ 2 ∧ opOf (wordK (lexL s).1 0) ≠ 4 ∧ opOf (wordK (lexL s).1 0) ≠ 6) :
    Calls Tryz.prog 25 #[.string s] w fun r w' => r = .returned (.tuple #[.agg (refParse s).1.cells, .int .i64 (refParse s).2]) ∧ Below w.heap.size w w' := by
  have hi : (s.size : Int) ≤ 2000 := by omega
  have HLX := Lib.hid (fun W => refLex_any s W (by unfold maxLen; omega))
  have hkp := lexL_kept s
  have hdg := lexL_digs s
  have hp : refParse s = if evOk (refE (lexL s).1) = true ∧ textB (refE (lexL s).1) = s then (refE (lexL s).1, 0) else (zeroE, 8) := by
    unfold refParse
    rw [if_neg (by omega), if_pos he]
  generalize refParse s = Pr at *
  generalize lexL s = q at *
  obtain ⟨fs, er, ap⟩ := q
  dsimp only at he HLX hkp hdg hp ho
  subst he
  have hfl : fs.length ≤ 100000 := by omega
  have hsz : ∀ i, (wordK fs i).size ≤ maxLen := fun i => getD_size hkp.2 i
  have hre : refE fs = ⟨opOf (wordK fs 0), numK fs 1, wordK fs 2, if opOf (wordK fs 0) = 1 then wordK fs 3 else ⟨#[]⟩, if opOf (wordK fs 0) = 2 then wordK fs 3 else ⟨#[]⟩, if opOf (wordK fs 0) = 2 then wordK fs 4 else ⟨#[]⟩, if opOf (wordK fs 0) = 6 then wordK fs 3 else ⟨#[]⟩, if opOf (wordK fs 0) = 6 then wordK fs 4 else ⟨#[]⟩,
    if opOf (wordK fs 0) = 4 then numK fs 3 else 0, if opOf (wordK fs 0) = 4 then numK fs 4 else 0, if opOf (wordK fs 0) = 4 then numK fs 5 else 0, if opOf (wordK fs 0) = 4 then numK fs 6 else 0, if opOf (wordK fs 0) = 4 then numK fs 7 else 0, if opOf (wordK fs 0) = 4 then numK fs 8 else 0⟩ := rfl
  rw [if_neg ho.1, if_neg ho.2.1, if_neg ho.2.1, if_neg ho.2.2.2, if_neg ho.2.2.2, if_neg ho.2.2.1, if_neg ho.2.2.1, if_neg ho.2.2.1, if_neg ho.2.2.1, if_neg ho.2.2.1, if_neg ho.2.2.1] at hre
  rw [hre] at hp
  have HW0 : Hid (∀ v W, TokS W v fs → Calls Tryz.prog 41 #[v, .int .i64 0] W fun e w' => e = .returned (.string (wordK fs 0)) ∧ w' = W) := fun v W h => wordK_any v fs 0 W h hfl (by omega)
  have HW2 : Hid (∀ v W, TokS W v fs → Calls Tryz.prog 41 #[v, .int .i64 2] W fun e w' => e = .returned (.string (wordK fs 2)) ∧ w' = W) := fun v W h => wordK_any v fs 2 W h hfl (by omega)
  have HN1 : Hid (∀ v W, TokS W v fs → Calls Tryz.prog 40 #[v, .int .i64 1] W fun e w' => e = .returned (.int .i64 (numK fs 1)) ∧ w' = W) := fun v W h => numK_any v fs 1 W h hfl (by omega) hdg
  have hz0 := hsz 0
  have hz2 := hsz 2
  generalize wordK fs 0 = t0 at *
  generalize wordK fs 2 = t2 at *
  generalize numK fs 1 = n1 at *
  have hpo : Hid (opUp 7 t0 = opOf t0) := op_up t0
  generalize opOf t0 = po at *
  have hp1 : (po == 1) = false := by rw [beq_eq_false_iff_ne]; exact ho.1
  have hp2 : (po == 2) = false := by rw [beq_eq_false_iff_ne]; exact ho.2.1
  have hp4 : (po == 4) = false := by rw [beq_eq_false_iff_ne]; exact ho.2.2.1
  have hp6 : (po == 6) = false := by rw [beq_eq_false_iff_ne]; exact ho.2.2.2
  have HTX := Lib.hid (fun W => refText_any ⟨po, n1, t2, ⟨#[]⟩, ⟨#[]⟩, ⟨#[]⟩, ⟨#[]⟩, ⟨#[]⟩, 0, 0, 0, 0, 0, 0⟩ W ⟨hz2, Nat.zero_le _, Nat.zero_le _, Nat.zero_le _, Nat.zero_le _, Nat.zero_le _⟩)
  have HP := Lib.hid hp
  clear hkp hdg hsz hre hfl hp hz0 hz2 ho
  go_enter Tryz.func25, Tryz.ntmps25
  go_wp2_with (first | (go_at_call 39; refine (HLX.out _).mono ?_; rintro e w2 ⟨vt, rfl, ho2, hb2⟩; have HT2 := Lib.hid (toks_own ho2); have HB2 := Lib.hid (((Below.refl w.heap.size w).alloc (Nat.le_refl _) (.cells #[.int .i64 0, .int .i64 0, .string ⟨#[]⟩, .string ⟨#[]⟩, .string ⟨#[]⟩, .string ⟨#[]⟩, .string ⟨#[]⟩, .string ⟨#[]⟩, .int .i64 0, .int .i64 0, .int .i64 0, .int .i64 0, .int .i64 0, .int .i64 0] 49)).trans (hb2.mono (by simp))); have HZ2 := Lib.hid ((Has.new w 49 #[.int .i64 0, .int .i64 0, .string ⟨#[]⟩, .string ⟨#[]⟩, .string ⟨#[]⟩, .string ⟨#[]⟩, .string ⟨#[]⟩, .string ⟨#[]⟩, .int .i64 0, .int .i64 0, .int .i64 0, .int .i64 0, .int .i64 0, .int .i64 0]).below hb2 (by simp)); obtain ⟨xz, yz⟩ := HZ2.out.facts; clear ho2 hb2) | (go_at_call 40; refine (HN1.out _ w2 HT2.out).mono ?_; rintro e w3 ⟨rfl, h⟩; obtain rfl := h.symm) | (go_at_call 41; refine (HW2.out _ w2 HT2.out).mono ?_; rintro e w3 ⟨rfl, h⟩; obtain rfl := h.symm))
  go_loopw [8] (fun i wr => ∃ k : Nat, 1 ≤ k ∧ k ≤ 8 ∧ i = .int .i64 k ∧ Hid (Has wr w2.heap.size 49 #[.int .i64 ((opUp (k - 1) t0)), .int .i64 n1, .string t2, .string ⟨#[]⟩, .string ⟨#[]⟩, .string ⟨#[]⟩, .string ⟨#[]⟩, .string ⟨#[]⟩, .int .i64 0, .int .i64 0, .int .i64 0, .int .i64 0, .int .i64 0, .int .i64 0]) ∧ Hid (Below w2.heap.size w2 wr)) (fun i _ => 8 - (intOf i).toNat)
  case atStart => exact ⟨1, Nat.le_refl _, by omega, rfl, Has.new w2 _ _, (Below.refl _ _).alloc (Nat.le_refl _) _⟩
  case round =>
    obtain ⟨k, hk1, hk8, rfl, HX, HB⟩ := hrel
    clear xz yz
    by_cases hlt : k < 8
    · have hki : (k : Int) < 8 := by omega
      have HK := Lib.hid (show k - 1 + 1 = k by omega)
      obtain ⟨o, hoo⟩ : ∃ o, opUp (k - 1) t0 = o := ⟨_, rfl⟩
      rw [hoo] at HX
      have hup : opUp (k + 1 - 1) t0 = if t0 = wordS k then (k : Int) else o := by
        have e : k + 1 - 1 = (k - 1) + 1 := by omega
        rw [e, ← hoo]
        show (if t0 = wordS (((k - 1 : Nat) : Int) + 1) then (((k - 1 : Nat) : Int) + 1) else opUp (k - 1) t0) = _
        rw [show (((k - 1 : Nat) : Int) + 1) = (k : Int) by omega]
      have HUP := Lib.hid hup
      clear hup
      have HXW := Lib.hid (fun (W : World) (g : Nat) (h : Has W g 9 (wordsL.map Value.string).toArray) => words_at h k hlt)
      generalize wordS (k : Int) = wk at *
      clear hoo
      go_wp2_with fail
      refine (words_any _).mono ?_
      rintro e v1 ⟨rfl, hv1⟩
      have HX1 := Lib.hid (show Has v1 w2.heap.size 49 #[.int .i64 o, .int .i64 n1, .string t2, .string ⟨#[]⟩, .string ⟨#[]⟩, .string ⟨#[]⟩, .string ⟨#[]⟩, .string ⟨#[]⟩, .int .i64 0, .int .i64 0, .int .i64 0, .int .i64 0, .int .i64 0, .int .i64 0] by rw [hv1]; exact HX.out.alloc _)
      have HB1 := Lib.hid (show Below w2.heap.size w2 v1 by rw [hv1]; exact HB.out.alloc HB.out.size _)
      clear hv1 HX HB
      go_wp2_with (go_at_call 41; refine (HW0.out _ v1 (HT2.out.below HB1.out)).mono ?_; rintro e w3 ⟨rfl, h⟩; obtain rfl := h.symm)
      refine (words_any _).mono ?_
      rintro e v2 ⟨rfl, hv2⟩
      have HG2 := Lib.hid (show Has v2 v1.heap.size 9 (wordsL.map Value.string).toArray by rw [hv2]; exact Has.new _ _ _)
      have HX2 := Lib.hid (show Has v2 w2.heap.size 49 #[.int .i64 o, .int .i64 n1, .string t2, .string ⟨#[]⟩, .string ⟨#[]⟩, .string ⟨#[]⟩, .string ⟨#[]⟩, .string ⟨#[]⟩, .int .i64 0, .int .i64 0, .int .i64 0, .int .i64 0, .int .i64 0, .int .i64 0] by rw [hv2]; exact HX1.out.alloc _)
      have HB2' := Lib.hid (show Below w2.heap.size w2 v2 by rw [hv2]; exact HB1.out.alloc HB1.out.size _)
      have xw := HXW.out v2 _ HG2.out
      obtain ⟨x2, y2⟩ := HX2.out.facts
      clear hv2 HX1 HB1
      by_cases hw : t0 = wk
      · have hbb : (t0.toList == wk.toList) = true := by rw [bytes_beq]; exact decide_eq_true hw
        have HU := Lib.hid (show opUp (k + 1 - 1) t0 = (k : Int) by rw [HUP.out, if_pos hw])
        have HXN := Lib.hid (show Has (v2.setCell ⟨w2.heap.size, 0, none⟩ (.int .i64 (k : Int))) w2.heap.size 49 #[.int .i64 ((k : Int)), .int .i64 n1, .string t2, .string ⟨#[]⟩, .string ⟨#[]⟩, .string ⟨#[]⟩, .string ⟨#[]⟩, .string ⟨#[]⟩, .int .i64 0, .int .i64 0, .int .i64 0, .int .i64 0, .int .i64 0, .int .i64 0] by have h := HX2.out.put 0 (.int .i64 (k : Int)); simpa using h)
        clear hw
        go_wp2_with fail
        go_roundw
        case rel => exact ⟨k + 1, by omega, by omega, by go_num, by rw [HU.out]; exact HXN, HB2'.out.setCell (p := ⟨w2.heap.size, 0, none⟩) (Nat.le_refl _) _⟩
        case measure => simp [intOf]; omega
      · have hbb : (t0.toList == wk.toList) = false := by rw [bytes_beq]; exact decide_eq_false hw
        have HU := Lib.hid (show opUp (k + 1 - 1) t0 = o by rw [HUP.out, if_neg hw])
        clear hw
        go_wp2_with fail
        go_roundw
        case rel => exact ⟨k + 1, by omega, by omega, by go_num, by rw [HU.out]; exact HX2, HB2'.out⟩
        case measure => simp [intOf]; omega
    · have hk : k = 8 := by omega
      subst hk
      rw [show 8 - 1 = 7 by rfl, hpo.out] at HX
      go_wp2_with fail
      refine (words_any _).mono ?_
      rintro e v1 ⟨rfl, hv1⟩
      have HX1 := Lib.hid (show Has v1 w2.heap.size 49 #[.int .i64 po, .int .i64 n1, .string t2, .string ⟨#[]⟩, .string ⟨#[]⟩, .string ⟨#[]⟩, .string ⟨#[]⟩, .string ⟨#[]⟩, .int .i64 0, .int .i64 0, .int .i64 0, .int .i64 0, .int .i64 0, .int .i64 0] by rw [hv1]; exact HX.out.alloc _)
      have HB1 := Lib.hid (show Below w2.heap.size w2 v1 by rw [hv1]; exact HB.out.alloc HB.out.size _)
      obtain ⟨x1, y1⟩ := HX1.out.facts
      clear hv1 HX HB
      go_wp2_with fail
      obtain ⟨V, hV⟩ : ∃ V, v1 = V := ⟨_, rfl⟩
      rw [hV]
      have HXV := Lib.hid (show Has V w2.heap.size 49 #[.int .i64 po, .int .i64 n1, .string t2, .string ⟨#[]⟩, .string ⟨#[]⟩, .string ⟨#[]⟩, .string ⟨#[]⟩, .string ⟨#[]⟩, .int .i64 0, .int .i64 0, .int .i64 0, .int .i64 0, .int .i64 0, .int .i64 0] by rw [← hV]; have h := HX1.out; exact h)
      have HBV := Lib.hid (show Below w2.heap.size w2 V by rw [← hV]; exact HB1.out)
      clear hV x1 y1 HX1 HB1
      by_cases hok : evOk ⟨po, n1, t2, ⟨#[]⟩, ⟨#[]⟩, ⟨#[]⟩, ⟨#[]⟩, ⟨#[]⟩, 0, 0, 0, 0, 0, 0⟩ = true
      · rw [if_pos hok, if_pos hok] at HTX
        generalize hbb : ((textB ⟨po, n1, t2, ⟨#[]⟩, ⟨#[]⟩, ⟨#[]⟩, ⟨#[]⟩, ⟨#[]⟩, 0, 0, 0, 0, 0, 0⟩).toList == s.toList) = bb
        rw [bytes_beq] at hbb
        cases bb
        · have hne := of_decide_eq_false hbb
          have hp := HP.out
          rw [if_neg (fun h => hne h.2)] at hp
          subst hp
          have HNE := Lib.hid (show ((textB ⟨po, n1, t2, ⟨#[]⟩, ⟨#[]⟩, ⟨#[]⟩, ⟨#[]⟩, ⟨#[]⟩, 0, 0, 0, 0, 0, 0⟩).toList == s.toList) = false by rw [bytes_beq]; exact decide_eq_false hne)
          clear hbb hne hok
          generalize textB ⟨po, n1, t2, ⟨#[]⟩, ⟨#[]⟩, ⟨#[]⟩, ⟨#[]⟩, ⟨#[]⟩, 0, 0, 0, 0, 0, 0⟩ = tb at *
          refine (HTX.out V).mono ?_
          rintro e w9 ⟨rfl, hb9⟩
          have HB9 := Lib.hid ((HB2.out.trans (HBV.out.mono HB2.out.size)).trans (hb9.mono (HB2.out.trans (HBV.out.mono HB2.out.size)).size))
          have HZ9 := Lib.hid ((HZ2.out.below HBV.out HZ2.out.lt).below hb9 (HZ2.out.below HBV.out HZ2.out.lt).lt)
          obtain ⟨xz, yz⟩ := HZ9.out.facts
          have HX9 := Lib.hid (HXV.out.below hb9 HXV.out.lt)
          obtain ⟨xv, yv⟩ := HX9.out.facts
          clear hb9
          have hne2 := HNE.out
          go_wp2_with fail
          obtain ⟨HF, HFB⟩ := put14 HB9.out (Nat.le_refl _) HZ9.out (.int .i64 0) (.int .i64 0) (.string ⟨#[]⟩) (.string ⟨#[]⟩) (.string ⟨#[]⟩) (.string ⟨#[]⟩) (.string ⟨#[]⟩) (.string ⟨#[]⟩) (.int .i64 0) (.int .i64 0) (.int .i64 0) (.int .i64 0) (.int .i64 0) (.int .i64 0)
          obtain ⟨xf, yf⟩ := HF.facts
          refine bodyPost_ret (v := .tuple #[.agg #[.int .i64 0, .int .i64 0, .string ⟨#[]⟩, .string ⟨#[]⟩, .string ⟨#[]⟩, .string ⟨#[]⟩, .string ⟨#[]⟩, .string ⟨#[]⟩, .int .i64 0, .int .i64 0, .int .i64 0, .int .i64 0, .int .i64 0, .int .i64 0], .int .i64 8]) (by simp [results, Tryz.results25, go_sem, xf]) rfl ?_
          exact ⟨rfl, HFB⟩
        · have heq := of_decide_eq_true hbb
          have hp := HP.out
          rw [if_pos ⟨hok, heq⟩] at hp
          subst hp
          have HNE := Lib.hid (show ((textB ⟨po, n1, t2, ⟨#[]⟩, ⟨#[]⟩, ⟨#[]⟩, ⟨#[]⟩, ⟨#[]⟩, 0, 0, 0, 0, 0, 0⟩).toList == s.toList) = true by rw [bytes_beq]; exact decide_eq_true heq)
          clear hbb heq hok
          generalize textB ⟨po, n1, t2, ⟨#[]⟩, ⟨#[]⟩, ⟨#[]⟩, ⟨#[]⟩, ⟨#[]⟩, 0, 0, 0, 0, 0, 0⟩ = tb at *
          refine (HTX.out V).mono ?_
          rintro e w9 ⟨rfl, hb9⟩
          have HB9 := Lib.hid ((HB2.out.trans (HBV.out.mono HB2.out.size)).trans (hb9.mono (HB2.out.trans (HBV.out.mono HB2.out.size)).size))
          have HZ9 := Lib.hid ((HZ2.out.below HBV.out HZ2.out.lt).below hb9 (HZ2.out.below HBV.out HZ2.out.lt).lt)
          obtain ⟨xz, yz⟩ := HZ9.out.facts
          have HX9 := Lib.hid (HXV.out.below hb9 HXV.out.lt)
          obtain ⟨xv, yv⟩ := HX9.out.facts
          clear hb9
          have hne2 := HNE.out
          go_wp2_with fail
          obtain ⟨HF, HFB⟩ := put14 HB9.out (Nat.le_refl _) HZ9.out (.int .i64 po) (.int .i64 n1) (.string t2) (.string ⟨#[]⟩) (.string ⟨#[]⟩) (.string ⟨#[]⟩) (.string ⟨#[]⟩) (.string ⟨#[]⟩) (.int .i64 0) (.int .i64 0) (.int .i64 0) (.int .i64 0) (.int .i64 0) (.int .i64 0)
          obtain ⟨xf, yf⟩ := HF.facts
          refine bodyPost_ret (v := .tuple #[.agg #[.int .i64 po, .int .i64 n1, .string t2, .string ⟨#[]⟩, .string ⟨#[]⟩, .string ⟨#[]⟩, .string ⟨#[]⟩, .string ⟨#[]⟩, .int .i64 0, .int .i64 0, .int .i64 0, .int .i64 0, .int .i64 0, .int .i64 0], .int .i64 0]) (by simp [results, Tryz.results25, go_sem, xf]) rfl ?_
          exact ⟨rfl, HFB⟩
      · rw [if_neg hok, if_neg hok] at HTX
        have hp := HP.out
        rw [if_neg (fun h => hok h.1)] at hp
        subst hp
        clear hok
        refine (HTX.out V).mono ?_
        rintro e w9 ⟨rfl, hb9⟩
        have HB9 := Lib.hid ((HB2.out.trans (HBV.out.mono HB2.out.size)).trans (hb9.mono (HB2.out.trans (HBV.out.mono HB2.out.size)).size))
        have HZ9 := Lib.hid ((HZ2.out.below HBV.out HZ2.out.lt).below hb9 (HZ2.out.below HBV.out HZ2.out.lt).lt)
        obtain ⟨xz, yz⟩ := HZ9.out.facts
        have HX9 := Lib.hid (HXV.out.below hb9 HXV.out.lt)
        obtain ⟨xv, yv⟩ := HX9.out.facts
        clear hb9
        go_wp2_with fail
        obtain ⟨HF, HFB⟩ := put14 HB9.out (Nat.le_refl _) HZ9.out (.int .i64 0) (.int .i64 0) (.string ⟨#[]⟩) (.string ⟨#[]⟩) (.string ⟨#[]⟩) (.string ⟨#[]⟩) (.string ⟨#[]⟩) (.string ⟨#[]⟩) (.int .i64 0) (.int .i64 0) (.int .i64 0) (.int .i64 0) (.int .i64 0) (.int .i64 0)
        obtain ⟨xf, yf⟩ := HF.facts
        refine bodyPost_ret (v := .tuple #[.agg #[.int .i64 0, .int .i64 0, .string ⟨#[]⟩, .string ⟨#[]⟩, .string ⟨#[]⟩, .string ⟨#[]⟩, .string ⟨#[]⟩, .string ⟨#[]⟩, .int .i64 0, .int .i64 0, .int .i64 0, .int .i64 0, .int .i64 0, .int .i64 0], .int .i64 8]) (by simp [results, Tryz.results25, go_sem, xf]) rfl ?_
        exact ⟨rfl, HFB⟩
theorem refParseE_any (s : ByteArray) (w : World) (_hs : s.size ≤ maxLen) :
    Calls Tryz.prog 25 #[.string s] w fun r w' => r = .returned (.tuple #[.agg (parseE s).1.cells, .int .i64 (parseE s).2]) ∧ Below w.heap.size w w' := by
  rw [← refParse_same]
  by_cases hl : 2000 < s.size
  · have h := rpa_long s w hl
    have e : refParse s = (zeroE, 8) := by unfold refParse; rw [if_pos hl]
    rw [e]; exact h
  · by_cases he : (lexL s).2.1 = 0
    · have hs : s.size ≤ 2000 := by omega
      by_cases h1 : opOf (wordK (lexL s).1 0) = 1
      · exact rpa_o1 s w hs he h1
      by_cases h2 : opOf (wordK (lexL s).1 0) = 2
      · exact rpa_o2 s w hs he h2
      by_cases h4 : opOf (wordK (lexL s).1 0) = 4
      · exact rpa_o4 s w hs he h4
      by_cases h6 : opOf (wordK (lexL s).1 0) = 6
      · exact rpa_o6 s w hs he h6
      exact rpa_o0 s w hs he ⟨h1, h2, h4, h6⟩
    · have h := rpa_err s w (by omega) he
      have e : refParse s = (zeroE, 8) := by unfold refParse; rw [if_neg hl, if_neg he]
      rw [e]; exact h
end Go.Proofs.YtjlpllnhefafkaaGreatDoor
