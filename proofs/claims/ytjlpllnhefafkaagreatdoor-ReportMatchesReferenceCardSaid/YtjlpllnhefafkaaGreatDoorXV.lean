/- bogieref13.Valid and Choices. Condition: the strings lie in memory. bogieref13.Text, Are and Picked. Condition: the strings lie in memory. -/
import Derived.BigQuiet
import Derived.Deep.QuietTactic
import Derived.Test.YtjlpllnhefafkaaGreatDoorU07
import Derived.Test.YtjlpllnhefafkaaGreatDoorU08
import Derived.Test.YtjlpllnhefafkaaGreatDoorXI
import Derived.Test.YtjlpllnhefafkaaGreatDoorXK
import Derived.Test.YtjlpllnhefafkaaGreatDoorXN
import Derived.Test.YtjlpllnhefafkaaGreatDoorXS
namespace Go.Proofs.YtjlpllnhefafkaaGreatDoor
open Go Go.RowKit
theorem evEq_iff (a b : Ev) : evEq a b = true ↔ a = b := by unfold evEq; exact decide_eq_true_iff
theorem not_in_take {l : List Ev} {k : Nat} {e : Ev} (hk : k ≤ l.length) (h : ∀ q, q < k → evEq (l.getD q noEv) e = false) : ¬ e ∈ l.take k := by
  intro he
  obtain ⟨q, hq, rfl⟩ := List.getElem_of_mem he
  rw [List.length_take] at hq
  have h1 := h q (by omega)
  rw [List.getElem_take] at h1
  have h2 : l.getD q noEv = l[q] := by rw [List.getD_eq_getElem?_getD, List.getElem?_eq_getElem (by omega)]; rfl
  rw [h2, evEq_self] at h1
  cases h1
theorem in_take {l : List Ev} {k q : Nat} (hq : q < k) (hk : k < l.length) (h : evEq (l.getD q noEv) (l.getD k noEv) = true) : l.getD k noEv ∈ l.take k := by
  rw [← (evEq_iff _ _).1 h]
  have h2 : l.getD q noEv = (l.take k)[q]'(by rw [List.length_take]; omega) := by
    rw [List.getElem_take, List.getD_eq_getElem?_getD, List.getElem?_eq_getElem (by omega)]; rfl
  rw [h2]
  exact List.getElem_mem _
set_option maxRecDepth 100000 in
set_option maxHeartbeats 8000000 in
theorem refRep_any (v : Value) (l : List Ev) (d : Bool) (w : World) (hv : Sl w v l.length 14 (evF l)) (hs : ∀ e ∈ l, e.short) (hl : l.length ≤ 1000) :
    Calls Tryz.prog 15 #[.agg #[v, .bool d]] w fun r w' => r = .returned (.bool (repOk l)) ∧ Below w.heap.size w w' := by
  obtain ⟨A, c, rfl, hn, hc⟩ := hv
  by_cases h1 : l.length = 0
  · have hr := Lib.hid (show repOk l = false by simp [repOk, h1])
    have h1i : (l.length : Int) < 1 := by omega
    clear hc
    go_enter Tryz.func15, Tryz.ntmps15
    go_wp2
    go_ret
    exact ⟨ret_bool (by rw [hr.out]), (Below.refl _ _).alloc (Nat.le_refl _) _⟩
  · have h1i : ¬ (l.length : Int) < 1 := by omega
    by_cases h4 : 4 < l.length
    · have hr := Lib.hid (show repOk l = false by simp [repOk]; omega)
      have h4i : (4 : Int) < (l.length : Int) := by omega
      clear hc
      go_enter Tryz.func15, Tryz.ntmps15
      go_wp2
      go_ret
      exact ⟨ret_bool (by rw [hr.out]), (Below.refl _ _).alloc (Nat.le_refl _) _⟩
    · rcases hc with h0 | ⟨b, o, rfl, hc⟩
      · omega
      have h4' : ¬ (4 : Int) < (l.length : Int) := by omega
      have HC := Lib.hid hc
      have HS := Lib.hid hs
      have HLE := Lib.hid (show 1 ≤ l.length ∧ l.length ≤ 4 by omega)
      clear hc hs h1 h4
      go_enter Tryz.func15, Tryz.ntmps15
      go_wp2_with fail
      go_loopw [3] (fun i wr => ∃ k : Nat, k ≤ l.length ∧ i = .int .i64 k ∧ Hid ((l.take k).all evOk = true ∧ (l.take k).Nodup) ∧ Hid (Has wr w.heap.size 31 #[.slice (some ⟨b, o, none⟩) l.length c, .bool d]) ∧ Hid (Below w.heap.size w wr)) (fun i _ => l.length - (intOf i).toNat)
      case atStart => exact ⟨0, Nat.zero_le _, rfl, ⟨by simp, by simp⟩, Has.new w _ _, (Below.refl _ _).alloc (Nat.le_refl _) _⟩
      case round =>
        obtain ⟨k, hk, rfl, HR0, HX, HB⟩ := hrel
        by_cases hlt : k < l.length
        · have hrg : wr.rangeAt b (o + k * 14) (l.getD k noEv).cells.toList := ev_range (fun j hj => cell_later HB.out (HC.out j hj)) hlt
          have hshort := HS.out _ (getD_mem l k noEv hlt)
          have htake := Lib.hid (take_getD l k noEv hlt)
          have hbad := Lib.hid (fun h => repOk_bad (getD_mem l k noEv hlt) h)
          have htwice := Lib.hid (fun h => repOk_twice hlt h)
          have HIN := Lib.hid (fun q (hq : q < k) h => in_take hq hlt h)
          have HNI := Lib.hid (fun h => not_in_take (e := l.getD k noEv) hk h)
          have HEV := Lib.hid (fun W => refEv_any (l.getD k noEv) W hshort)
          obtain ⟨xr, yr⟩ := HX.out.facts
          generalize he : l.getD k noEv = e at *
          have HEK := Lib.hid he
          obtain ⟨op, day, part, kind, into, slot, key, value, kl, kh, cl, ch, ll, lh⟩ := e
          replace hrg : wr.rangeAt b (o + k * 14) [.int .i64 op, .int .i64 day, .string part, .string kind, .string into, .string slot, .string key, .string value, .int .i64 kl, .int .i64 kh, .int .i64 cl, .int .i64 ch, .int .i64 ll, .int .i64 lh] := hrg
          have HEV2 : Hid (∀ W, Calls Tryz.prog 30 #[.agg #[.int .i64 op, .int .i64 day, .string part, .string kind, .string into, .string slot, .string key, .string value, .int .i64 kl, .int .i64 kh, .int .i64 cl, .int .i64 ch, .int .i64 ll, .int .i64 lh]] W fun r w' => r = .returned (.bool (evOk ⟨op, day, part, kind, into, slot, key, value, kl, kh, cl, ch, ll, lh⟩)) ∧ Below W.heap.size W w') := HEV.out
          clear he HEV hshort
          cases hev : evOk ⟨op, day, part, kind, into, slot, key, value, kl, kh, cl, ch, ll, lh⟩
          · have hb := Lib.hid (hbad.out hev)
            rw [hev] at HEV2
            clear hev
            go_wp2_with (first | ((with_reducible show wpList _ _ _ (Oper.mk (some 26) _ _ _ _ _ :: _) _ _); refine wpList_load_mid rfl 49 _ rfl b (o + k * 14) rfl _ _ hrg Tryz.underlying49 rfl rfl ?_) | (go_at_call 30; refine (HEV2.out _).mono ?_; rintro r w2 ⟨rfl, hb2⟩))
            go_ret
            exact ⟨ret_bool (by rw [hb.out]), HB.out.trans (hb2.mono HB.out.size)⟩
          · have HOK := Lib.hid hev
            rw [hev] at HEV2
            clear hev
            go_wp2_with (first | ((with_reducible show wpList _ _ _ (Oper.mk (some 26) _ _ _ _ _ :: _) _ _); refine wpList_load_mid rfl 49 _ rfl b (o + k * 14) rfl _ _ hrg Tryz.underlying49 rfl rfl ?_) | (go_at_call 30; refine (HEV2.out _).mono ?_; rintro r w2 ⟨rfl, hb2⟩; have HX2 := Lib.hid (HX.out.below hb2 HX.out.lt); have HB2 := Lib.hid (HB.out.trans (hb2.mono HB.out.size)); clear hb2 xr yr hrg))
            go_loopw [4] (fun i wr => ∃ j : Nat, j ≤ k ∧ i = .int .i64 j ∧ Hid (∀ q, q < j → evEq (l.getD q noEv) ⟨op, day, part, kind, into, slot, key, value, kl, kh, cl, ch, ll, lh⟩ = false) ∧ Hid (Has wr w.heap.size 31 #[.slice (some ⟨b, o, none⟩) l.length c, .bool d]) ∧ Hid (Below w.heap.size w wr)) (fun i _ => k - (intOf i).toNat)
            case atStart => exact ⟨0, Nat.zero_le _, rfl, fun q hq => absurd hq (Nat.not_lt_zero _), HX2.out, HB2.out⟩
            case round =>
              obtain ⟨j, hj, rfl, hne, HX3, HB3⟩ := hrel
              obtain ⟨xr3, yr3⟩ := HX3.out.facts
              clear HX2 HB2
              by_cases hjk : j < k
              · have hjl : j < l.length := by omega
                have hr1 : wr.rangeAt b (o + j * 14) (l.getD j noEv).cells.toList := ev_range (fun q hq => cell_later HB3.out (HC.out q hq)) hjl
                have hr2 : wr.rangeAt b (o + k * 14) (⟨op, day, part, kind, into, slot, key, value, kl, kh, cl, ch, ll, lh⟩ : Ev).cells.toList := by
                  have h := ev_range (w := wr) (fun q hq => cell_later HB3.out (HC.out q hq)) hlt
                  rw [HEK.out] at h
                  exact h
                have HHIT := Lib.hid (fun (h : evEq (l.getD j noEv) ⟨op, day, part, kind, into, slot, key, value, kl, kh, cl, ch, ll, lh⟩ = true) => htwice.out (HIN.out j hjk h))
                have HNX : Hid (evEq (l.getD j noEv) ⟨op, day, part, kind, into, slot, key, value, kl, kh, cl, ch, ll, lh⟩ = false → ∀ q, q < j + 1 → evEq (l.getD q noEv) ⟨op, day, part, kind, into, slot, key, value, kl, kh, cl, ch, ll, lh⟩ = false) := fun h q hq => by
                  rcases Nat.lt_or_ge q j with h1 | h1
                  · exact hne.out q h1
                  · obtain rfl : q = j := by omega
                    exact h
                generalize l.getD j noEv = f at *
                obtain ⟨op2, day2, part2, kind2, into2, slot2, key2, value2, kl2, kh2, cl2, ch2, ll2, lh2⟩ := f
                obtain ⟨e0, e1, e2, e3, e4, e5, e6, e7, e8, e9, e10, e11, e12, e13⟩ := range_facts hr1
                obtain ⟨f0, f1, f2, f3, f4, f5, f6, f7, f8, f9, f10, f11, f12, f13⟩ := range_facts hr2
                clear hr1 hr2
                dsimp only at e0 e1 e2 e3 e4 e5 e6 e7 e8 e9 e10 e11 e12 e13 f0 f1 f2 f3 f4 f5 f6 f7 f8 f9 f10 f11 f12 f13
                cases he : evEq ⟨op2, day2, part2, kind2, into2, slot2, key2, value2, kl2, kh2, cl2, ch2, ll2, lh2⟩ ⟨op, day, part, kind, into, slot, key, value, kl, kh, cl, ch, ll, lh⟩
                · have HN2 := Lib.hid (HNX.out he)
                  go_wp2_with fail
                  go_quiet (fail)
                  go_wp2_with fail
                  go_roundw
                  case rel => exact ⟨j + 1, by omega, by go_num, HN2.out, HX3.out.drewN _, below_drewN HB3.out _⟩
                  case measure => simp [intOf]; omega
                · have hb := Lib.hid (HHIT.out he)
                  go_wp2_with fail
                  go_quiet (fail)
                  go_wp2_with fail
                  go_ret
                  exact ⟨ret_bool (by rw [hb.out]), below_drewN HB3.out _⟩
              · have hjk2 : j = k := by omega
                have HNI2 := Lib.hid (HNI.out (hjk2 ▸ hne.out))
                have hji : ¬ (j : Int) < (k : Int) := by omega
                clear hjk2
                go_wp2_with fail
                go_roundw
                case rel => exact ⟨k + 1, by omega, by go_num, ⟨by rw [htake.out, List.all_append, HR0.out.1]; simp [HOK.out], by
                  rw [htake.out, List.nodup_append]
                  refine ⟨HR0.out.2, by simp, fun a ha b hb e => ?_⟩
                  rw [List.mem_singleton] at hb
                  subst hb
                  exact HNI2.out (e ▸ ha)⟩, HX3.out, HB3.out⟩
                case measure => simp [intOf]; omega
        · have hke : k = l.length := by omega
          have hb : Hid (repOk l = true) := by
            have h := HR0.out
            rw [hke, List.take_length] at h
            have h2 := HLE.out
            show repOk l = true
            unfold repOk
            simp only [Bool.and_eq_true, decide_eq_true_eq]
            exact ⟨h2, h.1, h.2⟩
          obtain ⟨xr, yr⟩ := HX.out.facts
          have hki : ¬ (k : Int) < (l.length : Int) := by omega
          clear hke
          go_wp2_with fail
          go_ret
          exact ⟨ret_bool (by rw [hb.out]), HB.out⟩
set_option maxHeartbeats 4000000 in
theorem refChoices_any (v : Value) (l : List Ev) (d : Bool) (w : World) (hv : Sl w v l.length 14 (evF l)) (hs : ∀ e ∈ l, e.short) (hl : l.length ≤ 1000) :
    Calls Tryz.prog 17 #[.agg #[v, .bool d]] w fun r w' => r = .returned (.int .i64 (numC l d)) ∧ Below w.heap.size w w' := by
  have HV := Lib.hid hv
  have HS := Lib.hid hs
  obtain ⟨A, c, rfl, hn⟩ := sl_len hv
  clear hv hs
  cases hok : repOk l
  · have hc := Lib.hid (numC_no (d := d) hok)
    have HOK := Lib.hid hok
    clear hok
    go_enter Tryz.func17, Tryz.ntmps17
    go_wp2_with (go_at_call 15; refine (refRep_any _ l d _ (HV.out.below ((Below.refl _ _).alloc (Nat.le_refl _) _)) HS.out hl).mono ?_; rintro e w2 ⟨rfl, hb2⟩; rw [HOK.out]; obtain ⟨hE2, hB2, hz2⟩ := boxed hb2; have HB2 := Lib.hid hB2; clear hb2 hE2 hB2)
    go_ret
    exact ⟨by rw [hc.out]; rfl, HB2.out⟩
  · have hc := Lib.hid (numC_yes (d := d) hok)
    have HOK := Lib.hid hok
    clear hok
    cases d
    · go_enter Tryz.func17, Tryz.ntmps17
      go_wp2_with (go_at_call 15; refine (refRep_any _ l _ _ (HV.out.below ((Below.refl _ _).alloc (Nat.le_refl _) _)) HS.out hl).mono ?_; rintro e w2 ⟨rfl, hb2⟩; rw [HOK.out]; obtain ⟨hE2, hB2, hz2⟩ := boxed hb2; obtain ⟨hc2, hf2⟩ := hE2.facts; have HB2 := Lib.hid hB2; clear hb2 hE2 hB2)
      go_ret
      exact ⟨by rw [hc.out]; rfl, HB2.out⟩
    · have hl1 : (l.length : Int) ≤ 1000 := by omega
      go_enter Tryz.func17, Tryz.ntmps17
      go_wp2_with (go_at_call 15; refine (refRep_any _ l _ _ (HV.out.below ((Below.refl _ _).alloc (Nat.le_refl _) _)) HS.out hl).mono ?_; rintro e w2 ⟨rfl, hb2⟩; rw [HOK.out]; obtain ⟨hE2, hB2, hz2⟩ := boxed hb2; obtain ⟨hc2, hf2⟩ := hE2.facts; have HB2 := Lib.hid hB2; clear hb2 hE2 hB2)
      go_ret
      exact ⟨by rw [hc.out]; rfl, HB2.out⟩
end Go.Proofs.YtjlpllnhefafkaaGreatDoor
namespace Go.Proofs.YtjlpllnhefafkaaGreatDoor
open Go Go.RowKit
theorem nlL_app (a b : List (List UInt8)) : nlL (a ++ b) = nlL a ++ nlL b := by unfold nlL; exact List.flatMap_append
theorem nlL_one (a : List UInt8) : nlL [a] = a ++ [10] := by simp [nlL]
set_option maxRecDepth 100000 in
set_option maxHeartbeats 8000000 in
theorem refRT_f (v : Value) (l : List Ev) (w : World) (hv : Sl w v l.length 14 (evF l)) (hs : ∀ e ∈ l, e.short) (hok : repOk l = true) :
    Calls Tryz.prog 13 #[.agg #[v, .bool false]] w fun e w' => e = .returned (.tuple #[.string (textR ⟨l, false⟩), .int .i64 0]) ∧ Below w.heap.size w w' := by
  have hl4 := repOk_le hok
  have hall := rep_all (r := ⟨l, false⟩) hok
  obtain ⟨A, c, rfl, hn, hc⟩ := hv
  have HV := Lib.hid (show Sl w (.slice A l.length c) l.length 14 (evF l) from ⟨A, c, rfl, hn, hc⟩)
  have HC := Lib.hid hc
  have HS := Lib.hid hs
  have HOK := Lib.hid hok
  have HALL := Lib.hid hall
  clear hc hs hok hall
  go_enter Tryz.func13, Tryz.ntmps13
  go_wp2_with (go_at_call 15; refine (refRep_any _ l _ _ (HV.out.below ((Below.refl _ _).alloc (Nat.le_refl _) _)) HS.out (by omega)).mono ?_; rintro e w2 ⟨rfl, hb2⟩; rw [HOK.out]; obtain ⟨hE2, hB2, hz2⟩ := boxed hb2; obtain ⟨hc2, hf2⟩ := hE2.facts; have HB2 := Lib.hid hB2; have HE2 := Lib.hid hE2; clear hb2 hE2 hB2)
  go_loopw [4, 5] (fun s i wr => ∃ (k : Nat) (b : ByteArray), k ≤ l.length ∧ s = .string b ∧ i = .int .i64 k ∧ Hid (b.data.toList = nlL ((lines textB l false k).map (·.data.toList))) ∧ b.size ≤ (1 + k) * 700 ∧ Hid (Has wr w.heap.size 31 #[.slice A l.length c, .bool false]) ∧ Hid (Below w.heap.size w wr)) (fun _ i _ => l.length - (intOf i).toNat)
  case atStart => exact ⟨0, ⟨#[115, 117, 114, 101, 10]⟩, Nat.zero_le _, rfl, rfl, (by unfold lines; rw [List.take_zero]; rfl), (by decide), HE2.out, HB2.out⟩
  case round =>
    obtain ⟨k, b, hk, rfl, rfl, HD, hbz, HX, HB⟩ := hrel
    obtain ⟨xr, yr⟩ := HX.out.facts
    clear hc2 hf2
    by_cases hlt : k < l.length
    · rcases HC.out with h0 | ⟨g, o, rfl, hc⟩
      · omega
      have hrg : wr.rangeAt g (o + k * 14) (l.getD k noEv).cells.toList := ev_range (fun j hj => cell_later HB.out (hc j hj)) hlt
      have hsucc := Lib.hid (lines_succ textB l false k hlt)
      have hmem := getD_mem l k noEv hlt
      have htx := fun W => refText_any (l.getD k noEv) W (HS.out _ hmem)
      have hev := HALL.out _ hmem
      rw [hev] at htx
      simp only [if_true] at htx
      have hts := text_small hev
      clear hc hmem hev
      generalize l.getD k noEv = ev at *
      obtain ⟨op, day, part, kind, into, slot, key, value, kl, kh, cl, cch, ll, lh⟩ := ev
      replace hrg : wr.rangeAt g (o + k * 14) [.int .i64 op, .int .i64 day, .string part, .string kind, .string into, .string slot, .string key, .string value, .int .i64 kl, .int .i64 kh, .int .i64 cl, .int .i64 cch, .int .i64 ll, .int .i64 lh] := hrg
      generalize textB ⟨op, day, part, kind, into, slot, key, value, kl, kh, cl, cch, ll, lh⟩ = tx at *
      have HTX : Hid (∀ W, Calls Tryz.prog 28 #[.agg #[.int .i64 op, .int .i64 day, .string part, .string kind, .string into, .string slot, .string key, .string value, .int .i64 kl, .int .i64 kh, .int .i64 cl, .int .i64 cch, .int .i64 ll, .int .i64 lh]] W fun r w' => r = .returned (.tuple #[.string tx, .int .i64 0]) ∧ Below W.heap.size W w') := htx
      have hq1 : (tx.size : Int) ≤ 8388608 := by omega
      have hq2 : ((tx ++ (⟨#[10]⟩ : ByteArray)).size : Int) ≤ 8388608 := by rw [ByteArray.size_append]; show ((tx.size + 1 : Nat) : Int) ≤ _; omega
      have hq3 : (b.size : Int) ≤ 8388608 := by omega
      have HN : Hid ((b ++ (tx ++ ⟨#[10]⟩)).data.toList = nlL ((lines textB l false (k + 1)).map (·.data.toList))) := by
        show (b ++ (tx ++ ⟨#[10]⟩)).data.toList = _
        rw [hsucc.out, List.map_append, nlL_app, ← HD.out, List.map_cons, List.map_nil, nlL_one, app_data, app_data]
      have HNZ : Hid ((b ++ (tx ++ (⟨#[10]⟩ : ByteArray))).size ≤ (1 + (k + 1)) * 700) := by
        show (b ++ (tx ++ (⟨#[10]⟩ : ByteArray))).size ≤ _
        rw [ByteArray.size_append, ByteArray.size_append]
        show b.size + (tx.size + 1) ≤ _
        omega
      clear htx hts HD
      go_wp2_with (first | ((with_reducible show wpList _ _ _ (Oper.mk (some 25) _ _ _ _ _ :: _) _ _); refine wpList_load_mid rfl 49 _ rfl g (o + k * 14) rfl _ _ hrg Tryz.underlying49 rfl rfl ?_) | (go_at_call 28; refine (HTX.out _).mono ?_; rintro e w5 ⟨rfl, hb5⟩; have HX5 := Lib.hid (HX.out.below hb5 HX.out.lt); have HB5 := Lib.hid (HB.out.trans (hb5.mono HB.out.size)); clear hb5 xr yr))
      go_roundw
      case rel => exact ⟨k + 1, _, by omega, rfl, by go_num, HN.out, HNZ.out, HX5.out, HB5.out⟩
      case measure => simp [intOf]; omega
    · have hke : k = l.length := by omega
      have HR : Hid (b = textR ⟨l, false⟩) := ba_ext (by rw [textR_data, HD.out, hke]; rfl)
      have hki : ¬ (k : Int) < (l.length : Int) := by omega
      clear hke
      go_wp2_with fail
      go_ret2
      exact ⟨by rw [HR.out]; rfl, HB.out⟩
set_option maxRecDepth 100000 in
set_option maxHeartbeats 8000000 in
theorem refRT_t (v : Value) (l : List Ev) (w : World) (hv : Sl w v l.length 14 (evF l)) (hs : ∀ e ∈ l, e.short) (hok : repOk l = true) :
    Calls Tryz.prog 13 #[.agg #[v, .bool true]] w fun e w' => e = .returned (.tuple #[.string (textR ⟨l, true⟩), .int .i64 0]) ∧ Below w.heap.size w w' := by
  have hl4 := repOk_le hok
  have hall := rep_all (r := ⟨l, true⟩) hok
  obtain ⟨A, c, rfl, hn, hc⟩ := hv
  have HV := Lib.hid (show Sl w (.slice A l.length c) l.length 14 (evF l) from ⟨A, c, rfl, hn, hc⟩)
  have HC := Lib.hid hc
  have HS := Lib.hid hs
  have HOK := Lib.hid hok
  have HALL := Lib.hid hall
  clear hc hs hok hall
  go_enter Tryz.func13, Tryz.ntmps13
  go_wp2_with (go_at_call 15; refine (refRep_any _ l _ _ (HV.out.below ((Below.refl _ _).alloc (Nat.le_refl _) _)) HS.out (by omega)).mono ?_; rintro e w2 ⟨rfl, hb2⟩; rw [HOK.out]; obtain ⟨hE2, hB2, hz2⟩ := boxed hb2; obtain ⟨hc2, hf2⟩ := hE2.facts; have HB2 := Lib.hid hB2; have HE2 := Lib.hid hE2; clear hb2 hE2 hB2)
  go_loopw [4, 5] (fun s i wr => ∃ (k : Nat) (b : ByteArray), k ≤ l.length ∧ s = .string b ∧ i = .int .i64 k ∧ Hid (b.data.toList = nlL ((lines textB l true k).map (·.data.toList))) ∧ b.size ≤ (1 + k) * 700 ∧ Hid (Has wr w.heap.size 31 #[.slice A l.length c, .bool true]) ∧ Hid (Below w.heap.size w wr)) (fun _ i _ => l.length - (intOf i).toNat)
  case atStart => exact ⟨0, ⟨#[112, 101, 114, 104, 97, 112, 115, 10]⟩, Nat.zero_le _, rfl, rfl, (by unfold lines; rw [List.take_zero]; rfl), (by decide), HE2.out, HB2.out⟩
  case round =>
    obtain ⟨k, b, hk, rfl, rfl, HD, hbz, HX, HB⟩ := hrel
    obtain ⟨xr, yr⟩ := HX.out.facts
    clear hc2 hf2
    by_cases hlt : k < l.length
    · rcases HC.out with h0 | ⟨g, o, rfl, hc⟩
      · omega
      have hrg : wr.rangeAt g (o + k * 14) (l.getD k noEv).cells.toList := ev_range (fun j hj => cell_later HB.out (hc j hj)) hlt
      have hsucc := Lib.hid (lines_succ textB l true k hlt)
      have hmem := getD_mem l k noEv hlt
      have htx := fun W => refText_any (l.getD k noEv) W (HS.out _ hmem)
      have hev := HALL.out _ hmem
      rw [hev] at htx
      simp only [if_true] at htx
      have hts := text_small hev
      clear hc hmem hev
      generalize l.getD k noEv = ev at *
      obtain ⟨op, day, part, kind, into, slot, key, value, kl, kh, cl, cch, ll, lh⟩ := ev
      replace hrg : wr.rangeAt g (o + k * 14) [.int .i64 op, .int .i64 day, .string part, .string kind, .string into, .string slot, .string key, .string value, .int .i64 kl, .int .i64 kh, .int .i64 cl, .int .i64 cch, .int .i64 ll, .int .i64 lh] := hrg
      generalize textB ⟨op, day, part, kind, into, slot, key, value, kl, kh, cl, cch, ll, lh⟩ = tx at *
      have HTX : Hid (∀ W, Calls Tryz.prog 28 #[.agg #[.int .i64 op, .int .i64 day, .string part, .string kind, .string into, .string slot, .string key, .string value, .int .i64 kl, .int .i64 kh, .int .i64 cl, .int .i64 cch, .int .i64 ll, .int .i64 lh]] W fun r w' => r = .returned (.tuple #[.string tx, .int .i64 0]) ∧ Below W.heap.size W w') := htx
      have hq1 : (tx.size : Int) ≤ 8388608 := by omega
      have hq2 : ((tx ++ (⟨#[10]⟩ : ByteArray)).size : Int) ≤ 8388608 := by rw [ByteArray.size_append]; show ((tx.size + 1 : Nat) : Int) ≤ _; omega
      have hq3 : (b.size : Int) ≤ 8388608 := by omega
      have HN : Hid ((b ++ (tx ++ ⟨#[10]⟩)).data.toList = nlL ((lines textB l true (k + 1)).map (·.data.toList))) := by
        show (b ++ (tx ++ ⟨#[10]⟩)).data.toList = _
        rw [hsucc.out, List.map_append, nlL_app, ← HD.out, List.map_cons, List.map_nil, nlL_one, app_data, app_data]
      have HNZ : Hid ((b ++ (tx ++ (⟨#[10]⟩ : ByteArray))).size ≤ (1 + (k + 1)) * 700) := by
        show (b ++ (tx ++ (⟨#[10]⟩ : ByteArray))).size ≤ _
        rw [ByteArray.size_append, ByteArray.size_append]
        show b.size + (tx.size + 1) ≤ _
        omega
      clear htx hts HD
      go_wp2_with (first | ((with_reducible show wpList _ _ _ (Oper.mk (some 25) _ _ _ _ _ :: _) _ _); refine wpList_load_mid rfl 49 _ rfl g (o + k * 14) rfl _ _ hrg Tryz.underlying49 rfl rfl ?_) | (go_at_call 28; refine (HTX.out _).mono ?_; rintro e w5 ⟨rfl, hb5⟩; have HX5 := Lib.hid (HX.out.below hb5 HX.out.lt); have HB5 := Lib.hid (HB.out.trans (hb5.mono HB.out.size)); clear hb5 xr yr))
      go_roundw
      case rel => exact ⟨k + 1, _, by omega, rfl, by go_num, HN.out, HNZ.out, HX5.out, HB5.out⟩
      case measure => simp [intOf]; omega
    · have hke : k = l.length := by omega
      have HR : Hid (b = textR ⟨l, true⟩) := ba_ext (by rw [textR_data, HD.out, hke]; rfl)
      have hki : ¬ (k : Int) < (l.length : Int) := by omega
      clear hke
      go_wp2_with fail
      go_ret2
      exact ⟨by rw [HR.out]; rfl, HB.out⟩
set_option maxRecDepth 100000 in
set_option maxHeartbeats 4000000 in
theorem refRT_no (v : Value) (l : List Ev) (d : Bool) (w : World) (hv : Sl w v l.length 14 (evF l)) (hs : ∀ e ∈ l, e.short) (hl : l.length ≤ 1000) (hok : repOk l = false) :
    Calls Tryz.prog 13 #[.agg #[v, .bool d]] w fun r w' => r = .returned (.tuple #[.string ⟨#[]⟩, .int .i64 1]) ∧ Below w.heap.size w w' := by
  have HV := Lib.hid hv
  have HS := Lib.hid hs
  have HOK := Lib.hid hok
  obtain ⟨A, c, rfl, hn⟩ := sl_len hv
  clear hv hs hok
  go_enter Tryz.func13, Tryz.ntmps13
  go_wp2_with (go_at_call 15; refine (refRep_any _ l _ _ (HV.out.below ((Below.refl _ _).alloc (Nat.le_refl _) _)) HS.out hl).mono ?_; rintro e w2 ⟨rfl, hb2⟩; rw [HOK.out]; obtain ⟨hE2, hB2, hz2⟩ := boxed hb2; have HB2 := Lib.hid hB2; clear hb2 hE2 hB2)
  go_ret2
  exact ⟨rfl, HB2.out⟩
theorem refRepText_any (v : Value) (r : Rep) (w : World) (hv : Sl w v r.opts.length 14 (evF r.opts)) (hs : ∀ e ∈ r.opts, e.short) (hl : r.opts.length ≤ 1000) :
    Calls Tryz.prog 13 #[.agg #[v, .bool r.doubt]] w fun e w' => e = .returned (.tuple #[.string (if repOk r.opts = true then textR r else ⟨#[]⟩), .int .i64 (if repOk r.opts = true then 0 else 1)]) ∧ Below w.heap.size w w' := by
  obtain ⟨l, d⟩ := r
  cases hok : repOk l with
  | false => exact refRT_no v l d w hv hs hl hok
  | true =>
    cases d with
    | false => exact refRT_f v l w hv hs hok
    | true => exact refRT_t v l w hv hs hok
theorem pickOk_len {L : List Rep} {ch : List Int} (h : L.length ≠ ch.length) : pickOk L ch = false := decide_eq_false fun ⟨h2, _⟩ => h h2
set_option maxRecDepth 100000 in
set_option maxHeartbeats 8000000 in
theorem are_any (v u : Value) (L : List Rep) (ch : List Int) (w : World) (hv : Reps w v L) (hu : Sl w u ch.length 1 (intF ch)) (hl : L.length ≤ 1000) (ho : ∀ r ∈ L, r.opts.length ≤ 1000) (hs : ∀ r ∈ L, ∀ e ∈ r.opts, e.short) :
    Calls Tryz.prog 22 #[v, u] w fun e w' => e = .returned (.bool (pickOk L ch)) ∧ Below w.heap.size w w' := by
  have HU := Lib.hid hu
  obtain ⟨A, c, rfl, hn⟩ := sl_len hu
  obtain ⟨A', c', rfl, hn', hc⟩ := hv
  have HC := Lib.hid hc
  have HO := Lib.hid ho
  have HS := Lib.hid hs
  clear hc ho hs hu
  by_cases hlen : L.length = ch.length
  · have hbn : ((L.length : Int) != ch.length) = false := by simp; omega
    have HL := Lib.hid hlen
    clear hlen
    go_enter Tryz.func22, Tryz.ntmps22
    go_wp2_with fail
    go_loopw [5] (fun i wr => ∃ k : Nat, k ≤ L.length ∧ i = .int .i64 k ∧ Hid (∀ j, j < k → isC (L.getD j noRep) (ch.getD j 0) = true) ∧ Hid (Below w.heap.size w wr)) (fun i _ => L.length - (intOf i).toNat)
    case atStart => exact ⟨0, Nat.zero_le _, rfl, fun j hj => absurd hj (by omega), Below.refl _ _⟩
    case round =>
      obtain ⟨k, hk, rfl, HR0, HB⟩ := hrel
      by_cases hlt : k < L.length
      · rcases HC.out with h0 | ⟨b, o, rfl, hc⟩
        · omega
        obtain ⟨A1, c1, he1, hn1, hu1⟩ := HU.out
        obtain ⟨rfl, rfl⟩ : A = A1 ∧ c = c1 := by injection he1; exact ⟨by assumption, by assumption⟩
        rcases hu1 with h0 | ⟨b', o', rfl, hu1⟩
        · have := HL.out; omega
        have hd0 : wr.cell? ⟨b', o' + k, none⟩ = some (.int .i64 (ch.getD k 0)) := cell_later HB.out (hu1 k (by have := HL.out; omega))
        obtain ⟨sv, hc1, hc2, hc3⟩ := hc k hlt
        have hd1 : wr.cell? ⟨b, o + k * 2, none⟩ = some sv := cell_later HB.out hc1
        have hd2 : wr.cell? ⟨b, o + k * 2 + 1, none⟩ = some (.bool (L.getD k noRep).doubt) := cell_later HB.out hc2
        have HSV := Lib.hid (hc3.below HB.out)
        have hshort := HS.out _ (getD_mem L k noRep hlt)
        have hol := HO.out _ (getD_mem L k noRep hlt)
        have hbad := Lib.hid (fun h => pickOk_bad (ch := ch) hlt h)
        have HR : Hid (∀ h : isC (L.getD k noRep) (ch.getD k 0) = true, ∀ j, j < k + 1 → isC (L.getD j noRep) (ch.getD j 0) = true) := fun h j hj => by
          rcases Nat.lt_or_ge j k with h1 | h1
          · exact HR0.out j h1
          · obtain rfl : j = k := by omega
            exact h
        clear hc hu1 he1 hc1 hc2 hc3
        generalize L.getD k noRep = r at *
        generalize ch.getD k 0 = n at *
        obtain ⟨A2, c2, rfl, hn2⟩ := sl_len HSV.out
        have hkc : k < ch.length := by have := HL.out; omega
        have hki : (k : Int) < (L.length : Int) := by omega
        have hkci : (k : Int) < (ch.length : Int) := by omega
        have HCH : Hid (Calls Tryz.prog 17 #[.agg #[.slice A2 r.opts.length c2, .bool r.doubt]] wr.drew fun q w' => q = .returned (.int .i64 (numC r.opts r.doubt)) ∧ Below wr.drew.heap.size wr.drew w') := refChoices_any _ r.opts r.doubt _ (HSV.out.below (Below.refl _ _).drew) hshort hol
        by_cases h0 : n < 0
        · have hb := Lib.hid (hbad.out (decide_eq_false (by omega)))
          have hdn : decide (n < 0) = true := decide_eq_true h0
          go_wp2_with fail
          refine wp_region_held_drew (S := fun W => W.cell? ⟨b', o' + k, none⟩ = some (.int .i64 n) ∧ W.cell? ⟨b, o + k * 2, none⟩ = some (.slice A2 r.opts.length c2) ∧ W.cell? ⟨b, o + k * 2 + 1, none⟩ = some (.bool r.doubt)) (by kernel_rfl) (⟨hd0, hd1, hd2⟩) (fun hHeld => ?_)
          refine plI [(0, false), (1, false), (2, false), (3, false), (4, false), (5, false), (6, true), (7, true), (8, true), (9, true), (10, true), (11, true), (12, true), (13, true), (14, true), (15, true), (16, false)] ?_
          repeat ((first | ((with_reducible show Plan ((_, true) :: _) _); refine plF ?_) | (refine plR (v := ?_) ?_ ?_; rotate_left; focus (intro W hSW; (try dsimp only at hSW); go_simp; all_goals (with_reducible rfl)))); try simp only [Act.put, List.setIfInBounds_toArray, List.set_cons_zero, List.set_cons_succ])
          refine plE ?_
          refine wpAnyH_done (by kernel_rfl) ?_ _
          clear hHeld
          go_wp2_with fail
          go_ret
          exact ⟨ret_bool (by rw [hb.out]), HB.out.drew⟩
        · have hdn : decide (n < 0) = false := decide_eq_false h0
          have hnc : numC r.opts r.doubt ≤ 1001 := by unfold numC; split <;> (try split) <;> omega
          by_cases h1 : n < numC r.opts r.doubt
          · have hok := Lib.hid (HR.out (decide_eq_true ⟨by omega, h1⟩))
            have h1' : ¬ (numC r.opts r.doubt : Int) ≤ n := by omega
            go_wp2_with fail
            refine wp_region_held_drew (S := fun W => W.cell? ⟨b', o' + k, none⟩ = some (.int .i64 n) ∧ W.cell? ⟨b, o + k * 2, none⟩ = some (.slice A2 r.opts.length c2) ∧ W.cell? ⟨b, o + k * 2 + 1, none⟩ = some (.bool r.doubt)) (by kernel_rfl) (⟨hd0, hd1, hd2⟩) (fun hHeld => ?_)
            refine plI [(0, false), (1, false), (2, false), (3, false), (4, false), (5, false), (6, false), (7, false), (8, false), (9, false), (10, false), (11, false), (12, false), (13, false)] ?_
            repeat ((first | ((with_reducible show Plan ((_, true) :: _) _); refine plF ?_) | (refine plR (v := ?_) ?_ ?_; rotate_left; focus (intro W hSW; (try dsimp only at hSW); go_simp; all_goals (with_reducible rfl)))); try simp only [Act.put, List.setIfInBounds_toArray, List.set_cons_zero, List.set_cons_succ])
            refine plE ?_
            refine wpAnyH_ready (rs := [14]) (by kernel_rfl) (by simp) ?_
            refine AllReadyH.cons (o := ⟨_, _, _, _, _, _⟩) rfl (fun K hK => ?_) AllReadyH.nil
            go_simp
            go_at_call 17; refine HCH.out.mono ?_; rintro q w2 ⟨rfl, hb2⟩; have HB2 := Lib.hid (HB.out.trans ((show Below wr.heap.size wr wr.drew from (Below.refl _ _).drew).mono HB.out.size)); have HB3 := Lib.hid (HB2.out.trans (hb2.mono HB2.out.size)); have HF := Lib.hid (show (fun W => W.cell? ⟨b', o' + k, none⟩ = some (.int .i64 n) ∧ W.cell? ⟨b, o + k * 2, none⟩ = some (.slice A2 r.opts.length c2) ∧ W.cell? ⟨b, o + k * 2 + 1, none⟩ = some (.bool r.doubt)) w2 from ⟨cell_later hb2 hd0, cell_later hb2 hd1, cell_later hb2 hd2⟩); clear hb2
            refine hK.out _ _ (HF.out) (fun hHeld => ?_)
            clear hK K
            try simp only [Act.put, List.setIfInBounds_toArray, List.set_cons_zero, List.set_cons_succ]
            refine plI [(15, false), (16, false)] ?_
            repeat ((first | ((with_reducible show Plan ((_, true) :: _) _); refine plF ?_) | (refine plR (v := ?_) ?_ ?_; rotate_left; focus (intro W hSW; (try dsimp only at hSW); go_simp; all_goals (with_reducible rfl)))); try simp only [Act.put, List.setIfInBounds_toArray, List.set_cons_zero, List.set_cons_succ])
            refine plE ?_
            refine wpAnyH_done (by kernel_rfl) ?_ _
            clear hHeld
            go_wp2_with fail
            go_roundw
            case rel => exact ⟨k + 1, by omega, by go_num, hok.out, HB3.out⟩
            case measure => simp [intOf]; omega
          · have hb := Lib.hid (hbad.out (decide_eq_false (by omega)))
            have h1' : (numC r.opts r.doubt : Int) ≤ n := by omega
            go_wp2_with fail
            refine wp_region_held_drew (S := fun W => W.cell? ⟨b', o' + k, none⟩ = some (.int .i64 n) ∧ W.cell? ⟨b, o + k * 2, none⟩ = some (.slice A2 r.opts.length c2) ∧ W.cell? ⟨b, o + k * 2 + 1, none⟩ = some (.bool r.doubt)) (by kernel_rfl) (⟨hd0, hd1, hd2⟩) (fun hHeld => ?_)
            refine plI [(0, false), (1, false), (2, false), (3, false), (4, false), (5, false), (6, false), (7, false), (8, false), (9, false), (10, false), (11, false), (12, false), (13, false)] ?_
            repeat ((first | ((with_reducible show Plan ((_, true) :: _) _); refine plF ?_) | (refine plR (v := ?_) ?_ ?_; rotate_left; focus (intro W hSW; (try dsimp only at hSW); go_simp; all_goals (with_reducible rfl)))); try simp only [Act.put, List.setIfInBounds_toArray, List.set_cons_zero, List.set_cons_succ])
            refine plE ?_
            refine wpAnyH_ready (rs := [14]) (by kernel_rfl) (by simp) ?_
            refine AllReadyH.cons (o := ⟨_, _, _, _, _, _⟩) rfl (fun K hK => ?_) AllReadyH.nil
            go_simp
            go_at_call 17; refine HCH.out.mono ?_; rintro q w2 ⟨rfl, hb2⟩; have HB2 := Lib.hid (HB.out.trans ((show Below wr.heap.size wr wr.drew from (Below.refl _ _).drew).mono HB.out.size)); have HB3 := Lib.hid (HB2.out.trans (hb2.mono HB2.out.size)); have HF := Lib.hid (show (fun W => W.cell? ⟨b', o' + k, none⟩ = some (.int .i64 n) ∧ W.cell? ⟨b, o + k * 2, none⟩ = some (.slice A2 r.opts.length c2) ∧ W.cell? ⟨b, o + k * 2 + 1, none⟩ = some (.bool r.doubt)) w2 from ⟨cell_later hb2 hd0, cell_later hb2 hd1, cell_later hb2 hd2⟩); clear hb2
            refine hK.out _ _ (HF.out) (fun hHeld => ?_)
            clear hK K
            try simp only [Act.put, List.setIfInBounds_toArray, List.set_cons_zero, List.set_cons_succ]
            refine plI [(15, false), (16, false)] ?_
            repeat ((first | ((with_reducible show Plan ((_, true) :: _) _); refine plF ?_) | (refine plR (v := ?_) ?_ ?_; rotate_left; focus (intro W hSW; (try dsimp only at hSW); go_simp; all_goals (with_reducible rfl)))); try simp only [Act.put, List.setIfInBounds_toArray, List.set_cons_zero, List.set_cons_succ])
            refine plE ?_
            refine wpAnyH_done (by kernel_rfl) ?_ _
            clear hHeld
            go_wp2_with fail
            go_ret
            exact ⟨ret_bool (by rw [hb.out]), HB3.out⟩
      · have hke : k = L.length := by omega
        have hb : Hid (pickOk L ch = true) := by
          have h := HR0.out
          rw [hke] at h
          exact decide_eq_true ⟨HL.out, h⟩
        have hki : ¬ (k : Int) < (L.length : Int) := by omega
        clear hke
        go_wp2_with fail
        go_ret
        exact ⟨ret_bool (by rw [hb.out]), HB.out⟩
  · have hbn : ((L.length : Int) != ch.length) = true := by rw [bne_iff_ne]; omega
    have hb := Lib.hid (pickOk_len hlen)
    clear hlen
    go_enter Tryz.func22, Tryz.ntmps22
    go_wp2_with fail
    go_ret
    exact ⟨ret_bool (by rw [hb.out]), Below.refl _ _⟩
set_option maxRecDepth 100000 in
set_option maxHeartbeats 8000000 in
theorem refPicked_no (v u : Value) (L : List Rep) (ch : List Int) (w : World) (hv : Reps w v L) (hu : Sl w u ch.length 1 (intF ch)) (hl : L.length ≤ 1000) (ho : ∀ r ∈ L, r.opts.length ≤ 1000) (hs : ∀ r ∈ L, ∀ e ∈ r.opts, e.short) (hpk : pickOk L ch = false) :
    Calls Tryz.prog 7 #[v, u] w fun r w' => r = .returned (.tuple #[.slice none 0 0, .int .i64 1]) ∧ Below w.heap.size w w' := by
  have HARE := Lib.hid (are_any v u L ch w hv hu hl ho hs)
  rw [hpk] at HARE
  clear hpk hv hu hl ho hs
  go_enter Tryz.func7, Tryz.ntmps7
  go_wp2_with (go_at_call 22; refine HARE.out.mono ?_; rintro e w2 ⟨rfl, hb2⟩; have HB2 := Lib.hid hb2; clear hb2)
  go_ret2
  exact ⟨rfl, HB2.out⟩
set_option maxRecDepth 100000 in
set_option maxHeartbeats 8000000 in
theorem refPicked_yes (v u : Value) (L : List Rep) (ch : List Int) (w : World) (hv : Reps w v L) (hu : Sl w u ch.length 1 (intF ch)) (hl : L.length ≤ 1000) (ho : ∀ r ∈ L, r.opts.length ≤ 1000) (hs : ∀ r ∈ L, ∀ e ∈ r.opts, e.short) (hpk : pickOk L ch = true) :
    Calls Tryz.prog 7 #[v, u] w fun r w' => ∃ v', r = .returned (.tuple #[v', .int .i64 0]) ∧ Sl w' v' (pk L ch L.length).length 14 (evF (pk L ch L.length)) ∧ Below w.heap.size w w' := by
  have HARE := Lib.hid (are_any v u L ch w hv hu hl ho hs)
  have HU := Lib.hid hu
  have HV := Lib.hid hv
  obtain ⟨A, c, rfl, hn⟩ := sl_len hu
  obtain ⟨A', c', rfl, hn', hc⟩ := hv
  have HC := Lib.hid hc
  clear hc hs hu
  rw [hpk] at HARE
  obtain ⟨hlen, hall⟩ := of_decide_eq_true hpk
  have HALL := Lib.hid hall
  have HL := Lib.hid hlen
  obtain ⟨i0, hi, hz0, hq1, hq2⟩ := info_parts info_ev
  have HI := Lib.hid hi
  have HZ := Lib.hid hz0
  clear hi hz0 hpk hall hlen
  go_enter Tryz.func7, Tryz.ntmps7
  go_wp2_with (go_at_call 22; refine HARE.out.mono ?_; rintro e w2 ⟨rfl, hb2⟩; have HB2 := Lib.hid hb2; clear hb2)
  go_loopw [6, 7] (fun o i wr => ∃ (k : Nat) (A1 : Option Addr) (c1 : Nat), k ≤ L.length ∧ o = .slice A1 (pk L ch k).length c1 ∧ i = .int .i64 k ∧ Hid (wr.ownsRow w.heap.size 49 14 (.slice A1 (pk L ch k).length c1) (pk L ch k).length (evCells (pk L ch k))) ∧ Hid (Below w.heap.size w wr)) (fun _ i _ => L.length - (intOf i).toNat)
  case atStart => exact ⟨0, none, 0, Nat.zero_le _, rfl, rfl, World.ownsRow_nil _ _ _ _, HB2.out⟩
  case round =>
    obtain ⟨k, A9, c9, hk, rfl, rfl, HO, HB⟩ := hrel
    by_cases hlt : k < L.length
    · rcases HC.out with h0 | ⟨b, o, rfl, hc⟩
      · omega
      obtain ⟨A1, c1, he1, hn1, hu1⟩ := HU.out
      obtain ⟨rfl, rfl⟩ : A = A1 ∧ c = c1 := by injection he1; exact ⟨by assumption, by assumption⟩
      rcases hu1 with h0 | ⟨b', o', rfl, hu1⟩
      · have := HL.out; omega
      have hd00 : w.cell? ⟨b', o' + k, none⟩ = some (.int .i64 (ch.getD k 0)) := hu1 k (by have := HL.out; omega)
      obtain ⟨sv, hc1, hc2, hc3⟩ := hc k hlt
      have hisc := HALL.out k hlt
      have hsucc := Lib.hid (pk_succ L ch k)
      have hple := pk_le L ch k
      have hkc : k < ch.length := by have := HL.out; omega
      have hki : (k : Int) < (L.length : Int) := by omega
      have hkci : (k : Int) < (ch.length : Int) := by omega
      have hol := ho _ (getD_mem L k noRep hlt)
      clear hc hu1 he1 hc2
      generalize L.getD k noRep = r at *
      generalize ch.getD k 0 = n at *
      obtain ⟨hn0, hn1⟩ := of_decide_eq_true hisc
      obtain ⟨m, rfl⟩ := Int.eq_ofNat_of_zero_le hn0
      obtain ⟨A2, c2, rfl, hn2⟩ := sl_len hc3
      have hd0 : wr.cell? ⟨b', o' + k, none⟩ = some (.int .i64 (m : Nat)) := cell_later HB.out hd00
      have hd1 : wr.cell? ⟨b, o + k * 2, none⟩ = some (.slice A2 r.opts.length c2) := cell_later HB.out hc1
      have hnc : numC r.opts r.doubt ≤ r.opts.length + 1 := by unfold numC; split <;> (try split) <;> omega
      by_cases h2 : m < r.opts.length
      · have hml : (m : Int) < (r.opts.length : Int) := by omega
        have hdl : decide ((m : Int) < (r.opts.length : Int)) = true := decide_eq_true hml
        have hone := Lib.hid (show one r (m : Int) = [r.opts.getD m noEv] by unfold one; rw [if_neg (by omega)]; rfl)
        rcases hc3 with ⟨A3, c3, he3, hn3, h03 | ⟨b3, o3, rfl, hc3⟩⟩
        · omega
        obtain ⟨rfl, rfl⟩ : A2 = some ⟨b3, o3, none⟩ ∧ c2 = c3 := by injection he3; exact ⟨by assumption, by assumption⟩
        have hrg0 : w.rangeAt b3 (o3 + m * 14) (r.opts.getD m noEv).cells.toList := ev_range hc3 h2
        generalize hrl : r.opts.length = rl at *
        clear hc3 he3 hrl hisc hn0 hn1 hnc
        generalize r.opts.getD m noEv = ev at *
        obtain ⟨op, day, part, kind, into, slot, key, value, kl, kh, cl, cch, ll, lh⟩ := ev
        replace hrg0 : w.rangeAt b3 (o3 + m * 14) [.int .i64 op, .int .i64 day, .string part, .string kind, .string into, .string slot, .string key, .string value, .int .i64 kl, .int .i64 kh, .int .i64 cl, .int .i64 cch, .int .i64 ll, .int .i64 lh] := hrg0
        have hrg : wr.rangeAt b3 (o3 + m * 14) [.int .i64 op, .int .i64 day, .string part, .string kind, .string into, .string slot, .string key, .string value, .int .i64 kl, .int .i64 kh, .int .i64 cl, .int .i64 cch, .int .i64 ll, .int .i64 lh] := fun j v hj => cell_later HB.out (hrg0 j v hj)
        have hkeep : ∀ W, Below w.heap.size w W → (fun W => W.cell? ⟨b', o' + k, none⟩ = some (.int .i64 (m : Nat)) ∧ W.cell? ⟨b, o + k * 2, none⟩ = some (.slice (some ⟨b3, o3, none⟩) rl c2) ∧ W.rangeAt b3 (o3 + m * 14) [.int .i64 op, .int .i64 day, .string part, .string kind, .string into, .string slot, .string key, .string value, .int .i64 kl, .int .i64 kh, .int .i64 cl, .int .i64 cch, .int .i64 ll, .int .i64 lh]) W := fun W hb => ⟨cell_later hb hd00, cell_later hb hc1, fun j v hj => cell_later hb (hrg0 j v hj)⟩
        have src8 : ∀ (V : World) (j : Nat) u, ([.int .i64 op, .int .i64 day, .string part, .string kind, .string into, .string slot, .string key, .string value, .int .i64 kl, .int .i64 kh, .int .i64 cl, .int .i64 cch, .int .i64 ll, .int .i64 lh] : List Value)[j]? = some u → (V.drew.alloc (.cells #[.int .i64 op, .int .i64 day, .string part, .string kind, .string into, .string slot, .string key, .string value, .int .i64 kl, .int .i64 kh, .int .i64 cl, .int .i64 cch, .int .i64 ll, .int .i64 lh] 49)).cell? ((⟨V.heap.size, 0, none⟩ : Addr).add j) = some u := fun V j u hj => by
          rw [Addr.add_mid, Nat.zero_add]
          exact ((Has.new V.drew 49 #[.int .i64 op, .int .i64 day, .string part, .string kind, .string into, .string slot, .string key, .string value, .int .i64 kl, .int .i64 kh, .int .i64 cl, .int .i64 cch, .int .i64 ll, .int .i64 lh]).cell j).trans (by simpa using hj)
        have one8 : ∀ u ∈ ([.int .i64 op, .int .i64 day, .string part, .string kind, .string into, .string slot, .string key, .string value, .int .i64 kl, .int .i64 kh, .int .i64 cl, .int .i64 cch, .int .i64 ll, .int .i64 lh] : List Value), u.oneCell' = true := by intro u hu; simp at hu; rcases hu with rfl | rfl | rfl | rfl | rfl | rfl | rfl | rfl | rfl | rfl | rfl | rfl | rfl | rfl <;> rfl
        have hlen8 : (pk L ch k).length + 1 ≤ maxLen := by unfold maxLen; omega
        have hlen9 : ((pk L ch k).length + 1) * 160 ≤ 140737488355328 := by omega
        go_wp2_with fail
        go_quiet (fail)
        go_wp2_with fail
        generalize hW8 : wr.drewN _ = V8
        have HB8 := Lib.hid (show Below w.heap.size w V8 by rw [← hW8]; exact below_drewN HB.out _)
        have HO8 := Lib.hid (show V8.ownsRow w.heap.size 49 14 (.slice A9 (pk L ch k).length c9) (pk L ch k).length (evCells (pk L ch k)) by rw [← hW8]; exact HO.out)
        obtain ⟨q0, q1, q2⟩ := hkeep V8 HB8.out
        clear hW8
        refine wp_region_held_drew (S := fun W => W.cell? ⟨b', o' + k, none⟩ = some (.int .i64 (m : Nat)) ∧ W.cell? ⟨b, o + k * 2, none⟩ = some (.slice (some ⟨b3, o3, none⟩) rl c2) ∧ W.rangeAt b3 (o3 + m * 14) [.int .i64 op, .int .i64 day, .string part, .string kind, .string into, .string slot, .string key, .string value, .int .i64 kl, .int .i64 kh, .int .i64 cl, .int .i64 cch, .int .i64 ll, .int .i64 lh]) (by kernel_rfl) (⟨q0, q1, q2⟩) (fun hHeld => ?_)
        refine plI [(0, false), (1, false), (2, false), (3, false), (4, false), (5, false), (6, false), (7, false), (8, false), (9, false), (10, false)] ?_
        repeat ((first | ((with_reducible show Plan ((_, true) :: _) _); refine plF ?_) | (refine plR (v := ?_) ?_ ?_; rotate_left; focus (intro W hSW; (try dsimp only at hSW); go_simp; all_goals (with_reducible rfl)))); try simp only [Act.put, List.setIfInBounds_toArray, List.set_cons_zero, List.set_cons_succ])
        refine plE ?_
        refine wpAnyH_take (i := 11) (oi := ⟨_, _, _, _, _, _⟩) (v := _) rfl (by kernel_rfl) (by kernel_rfl) (by kernel_rfl) (fun _ _ _ h => h) (yieldsIf_load_mid (by rfl) 49 _ rfl b3 (o3 + m * 14) rfl [.int .i64 op, .int .i64 day, .string part, .string kind, .string into, .string slot, .string key, .string value, .int .i64 kl, .int .i64 kh, .int .i64 cl, .int .i64 cch, .int .i64 ll, .int .i64 lh] _ (fun W h => h.2.2) Tryz.underlying49 rfl rfl) (by assumption) ?_
        try simp only [Act.put, List.setIfInBounds_toArray, List.set_cons_zero, List.set_cons_succ]
        refine wpAnyH_ready (rs := [12]) (by kernel_rfl) (by simp) ?_
        refine AllReadyH.cons (o := ⟨_, _, _, _, _, _⟩) rfl (fun K hK => ?_) AllReadyH.nil
        go_simp
        have hbA := ((Below.refl V8.heap.size V8).drew).alloc (Nat.le_refl _) (.cells #[.int .i64 op, .int .i64 day, .string part, .string kind, .string into, .string slot, .string key, .string value, .int .i64 kl, .int .i64 kh, .int .i64 cl, .int .i64 cch, .int .i64 ll, .int .i64 lh] 49)
        have HF := Lib.hid (show (fun W => W.cell? ⟨b', o' + k, none⟩ = some (.int .i64 (m : Nat)) ∧ W.cell? ⟨b, o + k * 2, none⟩ = some (.slice (some ⟨b3, o3, none⟩) rl c2) ∧ W.rangeAt b3 (o3 + m * 14) [.int .i64 op, .int .i64 day, .string part, .string kind, .string into, .string slot, .string key, .string value, .int .i64 kl, .int .i64 kh, .int .i64 cl, .int .i64 cch, .int .i64 ll, .int .i64 lh]) (V8.drew.alloc (.cells #[.int .i64 op, .int .i64 day, .string part, .string kind, .string into, .string slot, .string key, .string value, .int .i64 kl, .int .i64 kh, .int .i64 cl, .int .i64 cch, .int .i64 ll, .int .i64 lh] 49)) from ⟨cell_later hbA q0, cell_later hbA q1, fun j v hj => cell_later hbA (q2 j v hj)⟩)
        clear hbA
        refine hK.out _ _ (HF.out) (fun hHeld => ?_)
        clear hK K
        try simp only [Act.put, List.setIfInBounds_toArray, List.set_cons_zero, List.set_cons_succ]
        refine wpAnyH_ready (rs := [13]) (by kernel_rfl) (by simp) ?_
        refine AllReadyH.cons (o := ⟨_, _, _, _, _, _⟩) rfl (fun K hK => ?_) AllReadyH.nil
        rw [if_pos (show Region.wanted _ _ = true by rfl)]
        refine wp_append_own _ (.tmp 29) (.tmp 41) 26 rfl w.heap.size 49 i0 (.agg zeroEv.cells) 14 160 Tryz.underlying26 HI.out HZ.out hq1 hq2 rfl (by decide) _ _ _ rfl ((HO8.out.drew).alloc _) ⟨_, 0, none⟩ 1 1 [.int .i64 op, .int .i64 day, .string part, .string kind, .string into, .string slot, .string key, .string value, .int .i64 kl, .int .i64 kh, .int .i64 cl, .int .i64 cch, .int .i64 ll, .int .i64 lh] rfl rfl (src8 V8) one8 hlen8 hlen9 (by have := HB8.out.size; simp; omega) fun v9 w9 ho9 hg9 _ => ?_
        have hb9 := ((HB8.out.drew.alloc HB8.out.size (.cells #[.int .i64 op, .int .i64 day, .string part, .string kind, .string into, .string slot, .string key, .string value, .int .i64 kl, .int .i64 kh, .int .i64 cl, .int .i64 cch, .int .i64 ll, .int .i64 lh] 49)).grown hg9 (by have := HB8.out.size; simp; omega) (fun j hj => (HO8.out.lt j hj).1))
        have HB9 := Lib.hid hb9
        have HO9 := Lib.hid ho9
        obtain ⟨g9, c9, rfl⟩ : ∃ g c, v9 = .slice (some ⟨g, 0, none⟩) ((pk L ch k).length + 1) c := by
          rcases ho9.2 with ⟨_, h⟩ | ⟨g, cap, cur, rfl, _⟩
          · omega
          · exact ⟨_, _, rfl⟩
        have HF9 := Lib.hid (show (fun W => W.cell? ⟨b', o' + k, none⟩ = some (.int .i64 (m : Nat)) ∧ W.cell? ⟨b, o + k * 2, none⟩ = some (.slice (some ⟨b3, o3, none⟩) rl c2) ∧ W.rangeAt b3 (o3 + m * 14) [.int .i64 op, .int .i64 day, .string part, .string kind, .string into, .string slot, .string key, .string value, .int .i64 kl, .int .i64 kh, .int .i64 cl, .int .i64 cch, .int .i64 ll, .int .i64 lh]) w9 from ⟨(hkeep w9 HB9.out).1, (hkeep w9 HB9.out).2.1, (hkeep w9 HB9.out).2.2⟩)
        clear hb9 ho9 hg9
        refine hK.out _ _ (HF9.out) (fun hHeld => ?_)
        clear hK K
        try simp only [Act.put, List.setIfInBounds_toArray, List.set_cons_zero, List.set_cons_succ]
        refine plI [(14, false)] ?_
        repeat ((first | ((with_reducible show Plan ((_, true) :: _) _); refine plF ?_) | (refine plR (v := ?_) ?_ ?_; rotate_left; focus (intro W hSW; (try dsimp only at hSW); go_simp; all_goals (with_reducible rfl)))); try simp only [Act.put, List.setIfInBounds_toArray, List.set_cons_zero, List.set_cons_succ])
        refine plE ?_
        refine wpAnyH_done (by kernel_rfl) ?_ _
        clear hHeld
        go_wp2_with fail
        go_roundw
        case rel => exact ⟨k + 1, _, c9, by omega, by rw [hsucc.out, hone.out, List.length_append]; rfl, by go_num, by
          rw [hsucc.out, hone.out, List.length_append]
          have h := HO9.out
          have e : evCells (pk L ch k ++ [⟨op, day, part, kind, into, slot, key, value, kl, kh, cl, cch, ll, lh⟩]) = evCells (pk L ch k) ++ [.int .i64 op, .int .i64 day, .string part, .string kind, .string into, .string slot, .string key, .string value, .int .i64 kl, .int .i64 kh, .int .i64 cl, .int .i64 cch, .int .i64 ll, .int .i64 lh] := by simp [evCells, Ev.cells]
          rw [e]; exact h, HB9.out⟩
        case measure => simp [intOf]; omega
      · have hml : ¬ (m : Int) < (r.opts.length : Int) := by omega
        have hdl : decide ((m : Int) < (r.opts.length : Int)) = false := decide_eq_false hml
        have hone := Lib.hid (show one r (m : Int) = [] by unfold one; rw [if_pos (by omega)])
        go_wp2_with fail
        go_quiet (fail)
        go_wp2_with fail
        go_roundw
        case rel => exact ⟨k + 1, A9, c9, by omega, by rw [hsucc.out, hone.out, List.append_nil], by go_num, by rw [hsucc.out, hone.out, List.append_nil]; exact HO.out, below_drewN HB.out _⟩
        case measure => simp [intOf]; omega
    · have hke : k = L.length := by omega
      have hki : ¬ (k : Int) < (L.length : Int) := by omega
      have HS9 : Hid (Sl wr (.slice A9 (pk L ch L.length).length c9) (pk L ch L.length).length 14 (evF (pk L ch L.length))) := sl_own (hke ▸ HO.out)
      have hkl : pk L ch k = pk L ch L.length := by rw [hke]
      rw [hkl]
      clear hke hkl
      go_wp2_with fail
      go_ret2
      exact ⟨_, rfl, HS9.out, HB.out⟩
end Go.Proofs.YtjlpllnhefafkaaGreatDoor
