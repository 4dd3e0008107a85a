/- rule.text: the text of a valid condition. Condition: the condition lies in memory, and is valid. rule.Text: the text of a rule, or an error. Condition: the table of powers of ten; the rule lies in memory, its strings fit. The step from a walk to a row, for a law: it returns true, and memory below is as it was. No condition. -/
import Derived.BigQuiet
import Derived.Carry
import Derived.Deep.DeepHandedRow
import Derived.Lib.LaidTab
import Derived.OpenShut
import Derived.ProofKit
import Derived.WalkKit
import Derived.Test.YtppoeiofdmlpeaaGreatDoorProg
import Derived.Test.YtppoeiofdmlpeaaGreatDoorU09
import Derived.Test.YtppoeiofdmlpeaaGreatDoorU10
namespace Go.Proofs.YtppoeiofdmlpeaaGreatDoor
open Go Go.RowKit
theorem texs_len (op : Int) (ks : List Ex) : (texs op ks).length = ks.length := by rw [texs_map, List.length_map]
theorem texs_take (op : Int) (ks : List Ex) (k : Nat) (h : k < ks.length) : (texs op ks).take (k + 1) = (texs op ks).take k ++ [kidT op ks[k].op (texE ks[k])] := by
  have h2 : k < (texs op ks).length := by rw [texs_len]; exact h
  rw [List.take_add_one, List.getElem?_eq_getElem h2]
  congr 1
  show [(texs op ks)[k]] = _
  simp only [texs_map, List.getElem_map]
set_option maxRecDepth 100000 in
set_option maxHeartbeats 8000000 in
theorem text_rec (w0 : World) (ht : Tab w0) : ∀ (m : Nat) (e : Ex) (kv : Value) (w : World), cnt e ≤ m → m ≤ 100 → allB e = true → Below w0.heap.size w0 w → Lay w kv e.kids →
    Calls Tryz.prog 19 #[.agg #[.int .i64 e.op, .string e.name, .string e.value, .int .i64 e.n, .int .i64 e.extra, kv]] w fun r w' => r = .returned (.string (texE e)) ∧ Below w.heap.size w w' := by
  intro m
  induction m with
  | zero => intro e kv w hc; have := cnt_pos e; omega
  | succ m ih =>
    intro e kv w hc hm ha hb0 hl
    have hlen0 := texE_len e ha
    have hab := ha
    rw [allB_eq, Bool.and_eq_true] at hab
    obtain ⟨hnb, hkb⟩ := hab
    have hok := node_parts hnb
    have hc2 := cnt_eq e
    have hlc := len_cnts e.kids
    have hT := texE_eq e
    obtain ⟨op, name, value, n, extra, ks⟩ := e
    dsimp only [Ex.op, Ex.name, Ex.value, Ex.n, Ex.extra, Ex.kids] at *
    have hsz0 := hb0.size
    have hnn : 0 ≤ n ∧ n ≤ 9999999 := by
      obtain ⟨_, _, _, _, _, h, _⟩ := hok
      revert h
      split
      · exact id
      · split
        · intro h; omega
        · intro h; omega
    have hxx : 0 ≤ extra ∧ extra ≤ 9999999 := by
      obtain ⟨_, _, _, _, _, _, h⟩ := hok
      revert h
      split
      · exact id
      · intro h; omega
    have HIN := Lib.hid (fun W (h : Below w.heap.size w W) => itoaQ w0 ht n (by omega) W (hb0.trans (h.mono hsz0)))
    have HIX := Lib.hid (fun W (h : Below w.heap.size w W) => itoaQ w0 ht extra (by omega) W (hb0.trans (h.mono hsz0)))
    have HKID := Lib.hid (fun (k : Nat) (h : k < ks.length) (kv : Value) (W : World) (hb : Below w.heap.size w W) (hl : Lay W kv ks[k].kids) => ih ks[k] kv W (by have := cnt_mem (List.getElem_mem h); omega) (by omega) (by rw [allsB_all] at hkb; exact List.all_eq_true.1 hkb _ (List.getElem_mem h)) (hb0.trans (hb.mono hsz0)) hl)
    have HTL := Lib.hid (fun (k : Nat) (h : k < ks.length) => show (texE ks[k]).size ≤ 50000 by have := texE_len ks[k] (by rw [allsB_all] at hkb; exact List.all_eq_true.1 hkb _ (List.getElem_mem h)); have := cnt_mem (List.getElem_mem h); omega)
    have hkl : ks.length ≤ 100 := by omega
    have HTX := Lib.hid hT
    have HOK := Lib.hid hok
    have HSZ := Lib.hid (show (texE (.mk op name value n extra ks)).size ≤ 100000 by omega)
    obtain ⟨i0, hi, hz0, hq1, hq2⟩ := info_parts info_str
    have HI := Lib.hid hi
    have HZ := Lib.hid hz0
    have hb : Below w.heap.size w (w.alloc (.cells #[.int .i64 op, .string name, .string value, .int .i64 n, .int .i64 extra, kv] 24)) := (Below.refl _ _).alloc (Nat.le_refl _) _
    have HB := Lib.hid hb
    have HL := Lib.hid (hl.later hb)
    have hl0 := hl
    obtain ⟨A, c, rfl, hcl⟩ := hl.slice
    have HX := Lib.hid (Has.new w 24 #[.int .i64 op, .string name, .string value, .int .i64 n, .int .i64 extra, .slice A ks.length c])
    clear hi hz0 hT hok hb hl hb0 ih hnb hkb ha hlen0 hc hc2 hlc hm ht hnn hxx
    go_enter Tryz.func19, Tryz.ntmps19
    go_wp2_with fail
    go_loopw [3, 11] (fun v i wr => ∃ (k : Nat) (A3 : Option Addr) (c3 : Nat), k ≤ ks.length ∧ v = .slice A3 k c3 ∧ i = .int .i64 k ∧ Hid (wr.ownsRow (w.heap.size + 1) 9 1 (.slice A3 k c3) k (((texs op ks).take k).map .string)) ∧ Hid (Has wr w.heap.size 24 #[.int .i64 op, .string name, .string value, .int .i64 n, .int .i64 extra, .slice A ks.length c]) ∧ Hid (Below w.heap.size w wr) ∧ Hid (Lay wr (.slice A ks.length c) ks)) (fun _ i _ => ks.length - (intOf i).toNat)
    case atStart => exact ⟨0, none, 0, Nat.zero_le _, rfl, rfl, World.ownsRow_nil _ _ _ _, HX.out, HB.out, HL.out⟩
    case round =>
      obtain ⟨k, A3, c3, hk, rfl, rfl, HO, HXr, HBr, HLr⟩ := hrel
      clear HX HB HL
      by_cases hlt : k < ks.length
      · obtain ⟨_, _, hkid⟩ := HLr.out.kid
        obtain ⟨b, o, kv, rfl, hcell, hkk⟩ := hkid k hlt
        have hc0 := hcell 0 (by decide)
        have hc1 := hcell 1 (by decide)
        have hc2 := hcell 2 (by decide)
        have hc3 := hcell 3 (by decide)
        have hc4 := hcell 4 (by decide)
        have hc5 := hcell 5 (by decide)
        simp only [exF, if_true, if_false, Nat.reduceEqDiff, Nat.add_one_ne_zero, ← Nat.add_assoc, Nat.add_zero] at hc0 hc1 hc2 hc3 hc4 hc5
        have HTK := Lib.hid (texs_take op ks k hlt)
        have HC := Lib.hid (HKID.out k hlt kv)
        have htl := HTL.out k hlt
        have hkb : Below wr.heap.size wr (wr.alloc (.cells #[.int .i64 ks[k].op, .string ks[k].name, .string ks[k].value, .int .i64 ks[k].n, .int .i64 ks[k].extra, kv] 24)) := (Below.refl _ _).alloc (Nat.le_refl _) _
        have HL1 := Lib.hid (hkk.later hkb)
        generalize ks[k] = ke at *
        obtain ⟨kop, knm, kvl, kn, kx, kks⟩ := ke
        dsimp only [Ex.op, Ex.name, Ex.value, Ex.n, Ex.extra, Ex.kids] at *
        generalize texE (.mk kop knm kvl kn kx kks) = tx at *
        have q1 : ¬ 9223372036854775807 < 1 + tx.size := by omega
        have q2 : ¬ 9223372036854775807 < 1 + tx.size + 1 := by omega
        have HX1 := Lib.hid (HXr.out.alloc (.cells #[.int .i64 kop, .string knm, .string kvl, .int .i64 kn, .int .i64 kx, kv] 24))
        have HB1 := Lib.hid (HBr.out.alloc HBr.out.size (.cells #[.int .i64 kop, .string knm, .string kvl, .int .i64 kn, .int .i64 kx, kv] 24))
        have HO1 := Lib.hid (HO.out.alloc (.cells #[.int .i64 kop, .string knm, .string kvl, .int .i64 kn, .int .i64 kx, kv] 24))
        have HKB := Lib.hid (Has.new wr 24 #[.int .i64 kop, .string knm, .string kvl, .int .i64 kn, .int .i64 kx, kv])
        have HLw := Lib.hid hl0
        have hsz1 : w.heap.size + 1 ≤ (wr.alloc (.cells #[.int .i64 kop, .string knm, .string kvl, .int .i64 kn, .int .i64 kx, kv] 24)).heap.size := by have := HXr.out.lt; simp; omega
        obtain ⟨d0, f0⟩ := HXr.out.facts
        obtain ⟨dk1, fk1⟩ := HKB.out.facts
        obtain ⟨Ak, ck, rfl, _⟩ := hkk.slice
        clear hkid hcell hkk hkb HXr HBr HO HKID HTL
        by_cases h4 : op ≤ 4
        · have h4b : decide (op ≤ 4) = true := decide_eq_true h4
          by_cases hk3 : kop = 3
          · subst hk3
            have HT := Lib.hid (show kidT op 3 tx = ((⟨#[40]⟩ : ByteArray) ++ tx ++ ⟨#[41]⟩) from if_pos ⟨.inl rfl, h4⟩)
            go_wp2_with (first
              | (go_at_call 19; refine (HC.out _ HB1.out HL1.out).mono ?_; rintro e w2 ⟨rfl, hb2⟩; have HX2 := Lib.hid (HX1.out.below hb2 HX1.out.lt); have HB2 := Lib.hid (HB1.out.trans (hb2.mono HB1.out.size)); have HO2 := Lib.hid (HO1.out.kept (row := none) (grown_of_below hb2) (by cases Value.ownBlock _ <;> simp)); have HK2 := Lib.hid (HKB.out.below hb2 HKB.out.lt); have hsz2 : w.heap.size + 1 ≤ w2.heap.size := Nat.le_trans hsz1 hb2.size; obtain ⟨d2, f2⟩ := HX2.out.facts; obtain ⟨dk2, fk2⟩ := HK2.out.facts; clear hb2 HC dk1 fk1)
              | (at_builtin; refine wpList_append_own _ rfl (.tmp 33) (.tmp 35) 66 rfl (w.heap.size + 1) 9 i0 (.string ⟨#[]⟩) 1 16 Tryz.underlying66 HI.out HZ.out hq1 hq2 rfl (by decide) _ _ _ rfl (HO2.out.alloc _) ⟨w2.heap.size, 0, none⟩ 1 1 [.string ((⟨#[40]⟩ : ByteArray) ++ tx ++ ⟨#[41]⟩)] rfl rfl ?c1 ?c2 ?c3 ?c4 ?c5 ?_))
            case c1 =>
              intro j u hj
              rw [Addr.add_mid, Nat.zero_add]
              exact ((Has.new w2 9 #[.string ((⟨#[40]⟩ : ByteArray) ++ tx ++ ⟨#[41]⟩)]).cell j).trans (by simpa using hj)
            case c2 => intro u hu; simp at hu; subst hu; rfl
            case c3 => unfold maxLen; omega
            case c4 => omega
            case c5 => simp; omega
            · intro v' w6 hown6 hg6 _
              rw [← HT.out] at hown6 hg6 ⊢
              have hbg : Below (w.heap.size + 1) (w2.alloc (.cells #[.string (kidT op 3 tx)] 9)) w6 := (Below.refl _ _).grown hg6 (by simp; omega) (fun j hj => (HO2.out.lt j hj).1)
              have HX6 := Lib.hid ((HX2.out.alloc (.cells #[.string (kidT op 3 tx)] 9)).below hbg (by omega))
              have HB6 := Lib.hid ((HB2.out.alloc HB2.out.size (.cells #[.string (kidT op 3 tx)] 9)).trans (hbg.mono (by omega)))
              obtain ⟨g6, c6, rfl⟩ := ownsRow_succ hown6
              have HO6 := Lib.hid (show w6.ownsRow (w.heap.size + 1) 9 1 (.slice (some ⟨g6, 0, none⟩) (k + 1) c6) (k + 1) (((texs op ks).take (k + 1)).map .string) by rw [HTK.out, List.map_append, List.map_take]; exact hown6)
              clear hown6 hg6 hbg
              have HL6 := Lib.hid (HLw.out.later HB6.out)
              go_wp2_with fail
              go_roundw
              case rel => exact ⟨k + 1, some ⟨g6, 0, none⟩, c6, hlt, rfl, by go_num, HO6, HX6, HB6, HL6⟩
              case measure => simp [intOf]; omega
          · have e3 : (kop == 3) = false := by rw [beq_eq_false_iff_ne]; exact hk3
            by_cases hk4 : kop = 4
            · subst hk4
              have HT := Lib.hid (show kidT op 4 tx = ((⟨#[40]⟩ : ByteArray) ++ tx ++ ⟨#[41]⟩) from if_pos ⟨.inr rfl, h4⟩)
              go_wp2_with (first
                | (go_at_call 19; refine (HC.out _ HB1.out HL1.out).mono ?_; rintro e w2 ⟨rfl, hb2⟩; have HX2 := Lib.hid (HX1.out.below hb2 HX1.out.lt); have HB2 := Lib.hid (HB1.out.trans (hb2.mono HB1.out.size)); have HO2 := Lib.hid (HO1.out.kept (row := none) (grown_of_below hb2) (by cases Value.ownBlock _ <;> simp)); have HK2 := Lib.hid (HKB.out.below hb2 HKB.out.lt); have hsz2 : w.heap.size + 1 ≤ w2.heap.size := Nat.le_trans hsz1 hb2.size; obtain ⟨d2, f2⟩ := HX2.out.facts; obtain ⟨dk2, fk2⟩ := HK2.out.facts; clear hb2 HC dk1 fk1)
                | (at_builtin; refine wpList_append_own _ rfl (.tmp 33) (.tmp 35) 66 rfl (w.heap.size + 1) 9 i0 (.string ⟨#[]⟩) 1 16 Tryz.underlying66 HI.out HZ.out hq1 hq2 rfl (by decide) _ _ _ rfl (HO2.out.alloc _) ⟨w2.heap.size, 0, none⟩ 1 1 [.string ((⟨#[40]⟩ : ByteArray) ++ tx ++ ⟨#[41]⟩)] rfl rfl ?c1 ?c2 ?c3 ?c4 ?c5 ?_))
              case c1 =>
                intro j u hj
                rw [Addr.add_mid, Nat.zero_add]
                exact ((Has.new w2 9 #[.string ((⟨#[40]⟩ : ByteArray) ++ tx ++ ⟨#[41]⟩)]).cell j).trans (by simpa using hj)
              case c2 => intro u hu; simp at hu; subst hu; rfl
              case c3 => unfold maxLen; omega
              case c4 => omega
              case c5 => simp; omega
              · intro v' w6 hown6 hg6 _
                rw [← HT.out] at hown6 hg6 ⊢
                have hbg : Below (w.heap.size + 1) (w2.alloc (.cells #[.string (kidT op 4 tx)] 9)) w6 := (Below.refl _ _).grown hg6 (by simp; omega) (fun j hj => (HO2.out.lt j hj).1)
                have HX6 := Lib.hid ((HX2.out.alloc (.cells #[.string (kidT op 4 tx)] 9)).below hbg (by omega))
                have HB6 := Lib.hid ((HB2.out.alloc HB2.out.size (.cells #[.string (kidT op 4 tx)] 9)).trans (hbg.mono (by omega)))
                obtain ⟨g6, c6, rfl⟩ := ownsRow_succ hown6
                have HO6 := Lib.hid (show w6.ownsRow (w.heap.size + 1) 9 1 (.slice (some ⟨g6, 0, none⟩) (k + 1) c6) (k + 1) (((texs op ks).take (k + 1)).map .string) by rw [HTK.out, List.map_append, List.map_take]; exact hown6)
                clear hown6 hg6 hbg
                have HL6 := Lib.hid (HLw.out.later HB6.out)
                go_wp2_with fail
                go_roundw
                case rel => exact ⟨k + 1, some ⟨g6, 0, none⟩, c6, hlt, rfl, by go_num, HO6, HX6, HB6, HL6⟩
                case measure => simp [intOf]; omega
            · have e4 : (kop == 4) = false := by rw [beq_eq_false_iff_ne]; exact hk4
              have HT := Lib.hid (show kidT op kop tx = tx from if_neg (fun h => h.1.elim hk3 hk4))
              go_wp2_with (first
                | (go_at_call 19; refine (HC.out _ HB1.out HL1.out).mono ?_; rintro e w2 ⟨rfl, hb2⟩; have HX2 := Lib.hid (HX1.out.below hb2 HX1.out.lt); have HB2 := Lib.hid (HB1.out.trans (hb2.mono HB1.out.size)); have HO2 := Lib.hid (HO1.out.kept (row := none) (grown_of_below hb2) (by cases Value.ownBlock _ <;> simp)); have HK2 := Lib.hid (HKB.out.below hb2 HKB.out.lt); have hsz2 : w.heap.size + 1 ≤ w2.heap.size := Nat.le_trans hsz1 hb2.size; obtain ⟨d2, f2⟩ := HX2.out.facts; obtain ⟨dk2, fk2⟩ := HK2.out.facts; clear hb2 HC dk1 fk1)
                | (at_builtin; refine wpList_append_own _ rfl (.tmp 33) (.tmp 35) 66 rfl (w.heap.size + 1) 9 i0 (.string ⟨#[]⟩) 1 16 Tryz.underlying66 HI.out HZ.out hq1 hq2 rfl (by decide) _ _ _ rfl (HO2.out.alloc _) ⟨w2.heap.size, 0, none⟩ 1 1 [.string tx] rfl rfl ?c1 ?c2 ?c3 ?c4 ?c5 ?_))
              case c1 =>
                intro j u hj
                rw [Addr.add_mid, Nat.zero_add]
                exact ((Has.new w2 9 #[.string tx]).cell j).trans (by simpa using hj)
              case c2 => intro u hu; simp at hu; subst hu; rfl
              case c3 => unfold maxLen; omega
              case c4 => omega
              case c5 => simp; omega
              · intro v' w6 hown6 hg6 _
                rw [← HT.out] at hown6 hg6 ⊢
                have hbg : Below (w.heap.size + 1) (w2.alloc (.cells #[.string (kidT op kop tx)] 9)) w6 := (Below.refl _ _).grown hg6 (by simp; omega) (fun j hj => (HO2.out.lt j hj).1)
                have HX6 := Lib.hid ((HX2.out.alloc (.cells #[.string (kidT op kop tx)] 9)).below hbg (by omega))
                have HB6 := Lib.hid ((HB2.out.alloc HB2.out.size (.cells #[.string (kidT op kop tx)] 9)).trans (hbg.mono (by omega)))
                obtain ⟨g6, c6, rfl⟩ := ownsRow_succ hown6
                have HO6 := Lib.hid (show w6.ownsRow (w.heap.size + 1) 9 1 (.slice (some ⟨g6, 0, none⟩) (k + 1) c6) (k + 1) (((texs op ks).take (k + 1)).map .string) by rw [HTK.out, List.map_append, List.map_take]; exact hown6)
                clear hown6 hg6 hbg
                have HL6 := Lib.hid (HLw.out.later HB6.out)
                go_wp2_with fail
                go_roundw
                case rel => exact ⟨k + 1, some ⟨g6, 0, none⟩, c6, hlt, rfl, by go_num, HO6, HX6, HB6, HL6⟩
                case measure => simp [intOf]; omega
        · have h4b : decide (op ≤ 4) = false := decide_eq_false h4
          by_cases hk3 : kop = 3
          · subst hk3
            have HT := Lib.hid (show kidT op 3 tx = tx from if_neg (fun h => h4 h.2))
            go_wp2_with (first
              | (go_at_call 19; refine (HC.out _ HB1.out HL1.out).mono ?_; rintro e w2 ⟨rfl, hb2⟩; have HX2 := Lib.hid (HX1.out.below hb2 HX1.out.lt); have HB2 := Lib.hid (HB1.out.trans (hb2.mono HB1.out.size)); have HO2 := Lib.hid (HO1.out.kept (row := none) (grown_of_below hb2) (by cases Value.ownBlock _ <;> simp)); have HK2 := Lib.hid (HKB.out.below hb2 HKB.out.lt); have hsz2 : w.heap.size + 1 ≤ w2.heap.size := Nat.le_trans hsz1 hb2.size; obtain ⟨d2, f2⟩ := HX2.out.facts; obtain ⟨dk2, fk2⟩ := HK2.out.facts; clear hb2 HC dk1 fk1)
              | (at_builtin; refine wpList_append_own _ rfl (.tmp 33) (.tmp 35) 66 rfl (w.heap.size + 1) 9 i0 (.string ⟨#[]⟩) 1 16 Tryz.underlying66 HI.out HZ.out hq1 hq2 rfl (by decide) _ _ _ rfl (HO2.out.alloc _) ⟨w2.heap.size, 0, none⟩ 1 1 [.string tx] rfl rfl ?c1 ?c2 ?c3 ?c4 ?c5 ?_))
            case c1 =>
              intro j u hj
              rw [Addr.add_mid, Nat.zero_add]
              exact ((Has.new w2 9 #[.string tx]).cell j).trans (by simpa using hj)
            case c2 => intro u hu; simp at hu; subst hu; rfl
            case c3 => unfold maxLen; omega
            case c4 => omega
            case c5 => simp; omega
            · intro v' w6 hown6 hg6 _
              rw [← HT.out] at hown6 hg6 ⊢
              have hbg : Below (w.heap.size + 1) (w2.alloc (.cells #[.string (kidT op 3 tx)] 9)) w6 := (Below.refl _ _).grown hg6 (by simp; omega) (fun j hj => (HO2.out.lt j hj).1)
              have HX6 := Lib.hid ((HX2.out.alloc (.cells #[.string (kidT op 3 tx)] 9)).below hbg (by omega))
              have HB6 := Lib.hid ((HB2.out.alloc HB2.out.size (.cells #[.string (kidT op 3 tx)] 9)).trans (hbg.mono (by omega)))
              obtain ⟨g6, c6, rfl⟩ := ownsRow_succ hown6
              have HO6 := Lib.hid (show w6.ownsRow (w.heap.size + 1) 9 1 (.slice (some ⟨g6, 0, none⟩) (k + 1) c6) (k + 1) (((texs op ks).take (k + 1)).map .string) by rw [HTK.out, List.map_append, List.map_take]; exact hown6)
              clear hown6 hg6 hbg
              have HL6 := Lib.hid (HLw.out.later HB6.out)
              go_wp2_with fail
              go_roundw
              case rel => exact ⟨k + 1, some ⟨g6, 0, none⟩, c6, hlt, rfl, by go_num, HO6, HX6, HB6, HL6⟩
              case measure => simp [intOf]; omega
          · have e3 : (kop == 3) = false := by rw [beq_eq_false_iff_ne]; exact hk3
            by_cases hk4 : kop = 4
            · subst hk4
              have HT := Lib.hid (show kidT op 4 tx = tx from if_neg (fun h => h4 h.2))
              go_wp2_with (first
                | (go_at_call 19; refine (HC.out _ HB1.out HL1.out).mono ?_; rintro e w2 ⟨rfl, hb2⟩; have HX2 := Lib.hid (HX1.out.below hb2 HX1.out.lt); have HB2 := Lib.hid (HB1.out.trans (hb2.mono HB1.out.size)); have HO2 := Lib.hid (HO1.out.kept (row := none) (grown_of_below hb2) (by cases Value.ownBlock _ <;> simp)); have HK2 := Lib.hid (HKB.out.below hb2 HKB.out.lt); have hsz2 : w.heap.size + 1 ≤ w2.heap.size := Nat.le_trans hsz1 hb2.size; obtain ⟨d2, f2⟩ := HX2.out.facts; obtain ⟨dk2, fk2⟩ := HK2.out.facts; clear hb2 HC dk1 fk1)
                | (at_builtin; refine wpList_append_own _ rfl (.tmp 33) (.tmp 35) 66 rfl (w.heap.size + 1) 9 i0 (.string ⟨#[]⟩) 1 16 Tryz.underlying66 HI.out HZ.out hq1 hq2 rfl (by decide) _ _ _ rfl (HO2.out.alloc _) ⟨w2.heap.size, 0, none⟩ 1 1 [.string tx] rfl rfl ?c1 ?c2 ?c3 ?c4 ?c5 ?_))
              case c1 =>
                intro j u hj
                rw [Addr.add_mid, Nat.zero_add]
                exact ((Has.new w2 9 #[.string tx]).cell j).trans (by simpa using hj)
              case c2 => intro u hu; simp at hu; subst hu; rfl
              case c3 => unfold maxLen; omega
              case c4 => omega
              case c5 => simp; omega
              · intro v' w6 hown6 hg6 _
                rw [← HT.out] at hown6 hg6 ⊢
                have hbg : Below (w.heap.size + 1) (w2.alloc (.cells #[.string (kidT op 4 tx)] 9)) w6 := (Below.refl _ _).grown hg6 (by simp; omega) (fun j hj => (HO2.out.lt j hj).1)
                have HX6 := Lib.hid ((HX2.out.alloc (.cells #[.string (kidT op 4 tx)] 9)).below hbg (by omega))
                have HB6 := Lib.hid ((HB2.out.alloc HB2.out.size (.cells #[.string (kidT op 4 tx)] 9)).trans (hbg.mono (by omega)))
                obtain ⟨g6, c6, rfl⟩ := ownsRow_succ hown6
                have HO6 := Lib.hid (show w6.ownsRow (w.heap.size + 1) 9 1 (.slice (some ⟨g6, 0, none⟩) (k + 1) c6) (k + 1) (((texs op ks).take (k + 1)).map .string) by rw [HTK.out, List.map_append, List.map_take]; exact hown6)
                clear hown6 hg6 hbg
                have HL6 := Lib.hid (HLw.out.later HB6.out)
                go_wp2_with fail
                go_roundw
                case rel => exact ⟨k + 1, some ⟨g6, 0, none⟩, c6, hlt, rfl, by go_num, HO6, HX6, HB6, HL6⟩
                case measure => simp [intOf]; omega
            · have e4 : (kop == 4) = false := by rw [beq_eq_false_iff_ne]; exact hk4
              have HT := Lib.hid (show kidT op kop tx = tx from if_neg (fun h => h4 h.2))
              go_wp2_with (first
                | (go_at_call 19; refine (HC.out _ HB1.out HL1.out).mono ?_; rintro e w2 ⟨rfl, hb2⟩; have HX2 := Lib.hid (HX1.out.below hb2 HX1.out.lt); have HB2 := Lib.hid (HB1.out.trans (hb2.mono HB1.out.size)); have HO2 := Lib.hid (HO1.out.kept (row := none) (grown_of_below hb2) (by cases Value.ownBlock _ <;> simp)); have HK2 := Lib.hid (HKB.out.below hb2 HKB.out.lt); have hsz2 : w.heap.size + 1 ≤ w2.heap.size := Nat.le_trans hsz1 hb2.size; obtain ⟨d2, f2⟩ := HX2.out.facts; obtain ⟨dk2, fk2⟩ := HK2.out.facts; clear hb2 HC dk1 fk1)
                | (at_builtin; refine wpList_append_own _ rfl (.tmp 33) (.tmp 35) 66 rfl (w.heap.size + 1) 9 i0 (.string ⟨#[]⟩) 1 16 Tryz.underlying66 HI.out HZ.out hq1 hq2 rfl (by decide) _ _ _ rfl (HO2.out.alloc _) ⟨w2.heap.size, 0, none⟩ 1 1 [.string tx] rfl rfl ?c1 ?c2 ?c3 ?c4 ?c5 ?_))
              case c1 =>
                intro j u hj
                rw [Addr.add_mid, Nat.zero_add]
                exact ((Has.new w2 9 #[.string tx]).cell j).trans (by simpa using hj)
              case c2 => intro u hu; simp at hu; subst hu; rfl
              case c3 => unfold maxLen; omega
              case c4 => omega
              case c5 => simp; omega
              · intro v' w6 hown6 hg6 _
                rw [← HT.out] at hown6 hg6 ⊢
                have hbg : Below (w.heap.size + 1) (w2.alloc (.cells #[.string (kidT op kop tx)] 9)) w6 := (Below.refl _ _).grown hg6 (by simp; omega) (fun j hj => (HO2.out.lt j hj).1)
                have HX6 := Lib.hid ((HX2.out.alloc (.cells #[.string (kidT op kop tx)] 9)).below hbg (by omega))
                have HB6 := Lib.hid ((HB2.out.alloc HB2.out.size (.cells #[.string (kidT op kop tx)] 9)).trans (hbg.mono (by omega)))
                obtain ⟨g6, c6, rfl⟩ := ownsRow_succ hown6
                have HO6 := Lib.hid (show w6.ownsRow (w.heap.size + 1) 9 1 (.slice (some ⟨g6, 0, none⟩) (k + 1) c6) (k + 1) (((texs op ks).take (k + 1)).map .string) by rw [HTK.out, List.map_append, List.map_take]; exact hown6)
                clear hown6 hg6 hbg
                have HL6 := Lib.hid (HLw.out.later HB6.out)
                go_wp2_with fail
                go_roundw
                case rel => exact ⟨k + 1, some ⟨g6, 0, none⟩, c6, hlt, rfl, by go_num, HO6, HX6, HB6, HL6⟩
                case measure => simp [intOf]; omega
      · obtain rfl : k = ks.length := by omega
        have HSL := Lib.hid (str_own (l := texs op ks) (by have h := HO.out; rw [← texs_len op ks, List.take_length] at h; rw [texs_len op ks] at h ⊢; exact h))
        obtain ⟨d0, f0⟩ := HXr.out.facts
        clear HKID HLr hlt
        obtain ⟨hop, hkn, hnm, _, hval, hnn, hxx⟩ := HOK.out
        obtain rfl | rfl | rfl | rfl | rfl | rfl | rfl | rfl | rfl | rfl | rfl | rfl : op = 1 ∨ op = 2 ∨ op = 3 ∨ op = 4 ∨ op = 5 ∨ op = 6 ∨ op = 7 ∨ op = 8 ∨ op = 9 ∨ op = 10 ∨ op = 11 ∨ op = 12 := by omega
        · clear hop HOK
          clear hkn
          clear hnm
          clear hval
          clear hnn
          clear hxx
          have hE : texE (.mk 1 name value n extra ks) = wTrue := by rw [HTX.out]; rfl
          go_wp2_with (go_at_call 37; refine (HIN.out _ HBr.out).mono ?_; rintro e w2 ⟨rfl, hb2⟩; have HX2 := Lib.hid (HXr.out.below hb2 HXr.out.lt); have HB2 := Lib.hid (HBr.out.trans (hb2.mono HBr.out.size)); have HS2 := Lib.hid (HSL.out.below hb2); obtain ⟨d2, f2⟩ := HX2.out.facts; clear hb2 HIN d0 f0)
          go_ret
          exact ⟨by rw [hE]; rfl, HB2.out⟩
        · clear hop HOK
          rw [if_pos (by omega)] at hkn
          clear hnm
          clear hval
          clear hnn
          clear hxx
          have hk1 : ks.length = 1 := hkn
          have hlt : 0 < ks.length := by omega
          obtain ⟨tk, htk⟩ : ∃ tk, (texs 2 ks).getD 0 e0 = tk := ⟨_, rfl⟩
          have hE : texE (.mk 2 name value n extra ks) = ⟨#[110, 111, 116, 32]⟩ ++ tk := by rw [HTX.out, ← htk]; rfl
          have htl : tk.size ≤ 60000 := by
            have h1 := HTL.out 0 hlt
            have h2 := kidT_len 2 ks[0].op (texE ks[0])
            rw [← htk, texs_map, List.getD_eq_getElem?_getD, List.getElem?_map, List.getElem?_eq_getElem hlt]
            show (kidT 2 ks[0].op (texE ks[0])).size ≤ 60000
            omega
          obtain ⟨b3, o3, rfl, hc3⟩ : ∃ b3 o3, A3 = some ⟨b3, o3, none⟩ ∧ wr.cell? ⟨b3, o3, none⟩ = some (.string tk) := by
            obtain ⟨A4, c4, hv4, _, h0 | ⟨b3, o3, rfl, h3⟩⟩ := HSL.out
            · rw [texs_len] at h0; omega
            · injection hv4 with hv4
              refine ⟨b3, o3, hv4, ?_⟩
              have h4 := h3 0 (by rw [texs_len]; omega)
              rw [Nat.add_zero] at h4
              rw [h4]
              show some (Value.string ((texs 2 ks).getD 0 e0)) = _
              rw [htk]
          have HC3 := Lib.hid hc3
          have HO3 := Lib.hid HO.out
          rw [hk1] at *
          clear hk1 hlt htk HTL hc3 HSL
          go_wp2_with (go_at_call 37; refine (HIN.out _ HBr.out).mono ?_; rintro e w2 ⟨rfl, hb2⟩; have HX2 := Lib.hid (HXr.out.below hb2 HXr.out.lt); have HB2 := Lib.hid (HBr.out.trans (hb2.mono HBr.out.size)); have hc3 := cell_later hb2 HC3.out; obtain ⟨d2, f2⟩ := HX2.out.facts; clear hb2 HIN d0 f0)
          all_goals first
            | (exfalso; omega)
            | skip
          go_ret
          exact ⟨by rw [hE]; rfl, HB2.out⟩
        · clear hop HOK
          clear hkn
          clear hnm
          clear hval
          clear hnn
          clear hxx
          have hE : texE (.mk 3 name value n extra ks) = joined (texs 3 ks) sAnd := by rw [HTX.out]; rfl
          have HS0 := Lib.hid (show Sl wr (.slice A3 ks.length c3) (texs 3 ks).length 1 (strF (texs 3 ks)) from HSL.out)
          clear HS0
          go_wp2_with (first | (go_at_call 37; refine (HIN.out _ HBr.out).mono ?_; rintro e w2 ⟨rfl, hb2⟩; have HX2 := Lib.hid (HXr.out.below hb2 HXr.out.lt); have HB2 := Lib.hid (HBr.out.trans (hb2.mono HBr.out.size)); have HS2 := Lib.hid (HSL.out.below hb2); obtain ⟨d2, f2⟩ := HX2.out.facts; clear hb2 HIN d0 f0) | (go_at_call 38; refine (join_any _ (texs 3 ks) sAnd _ HS2.out (by rw [texs_len]; omega) (by rw [← hE]; have := HSZ.out; omega)).mono ?_; rintro e w3 ⟨rfl, hb3⟩; have HB3 := Lib.hid (HB2.out.trans (hb3.mono HB2.out.size)); clear hb3))
          go_ret
          exact ⟨by rw [hE]; rfl, HB3.out⟩
        · clear hop HOK
          clear hkn
          clear hnm
          clear hval
          clear hnn
          clear hxx
          have hE : texE (.mk 4 name value n extra ks) = joined (texs 4 ks) sOr := by rw [HTX.out]; rfl
          have HS0 := Lib.hid (show Sl wr (.slice A3 ks.length c3) (texs 4 ks).length 1 (strF (texs 4 ks)) from HSL.out)
          clear HS0
          go_wp2_with (first | (go_at_call 37; refine (HIN.out _ HBr.out).mono ?_; rintro e w2 ⟨rfl, hb2⟩; have HX2 := Lib.hid (HXr.out.below hb2 HXr.out.lt); have HB2 := Lib.hid (HBr.out.trans (hb2.mono HBr.out.size)); have HS2 := Lib.hid (HSL.out.below hb2); obtain ⟨d2, f2⟩ := HX2.out.facts; clear hb2 HIN d0 f0) | (go_at_call 38; refine (join_any _ (texs 4 ks) sOr _ HS2.out (by rw [texs_len]; omega) (by rw [← hE]; have := HSZ.out; omega)).mono ?_; rintro e w3 ⟨rfl, hb3⟩; have HB3 := Lib.hid (HB2.out.trans (hb3.mono HB2.out.size)); clear hb3))
          go_ret
          exact ⟨by rw [hE]; rfl, HB3.out⟩
        · clear hop HOK
          clear hkn
          rw [if_neg (by omega)] at hnm
          clear hval
          rw [if_pos (by omega)] at hnn
          rw [if_pos (by omega)] at hxx
          have hnl : name.size ≤ 24 := name_le hnm
          have hi1 : (itoaB n).size ≤ 24 := itoa_len hnn.1 hnn.2
          have hi2 : (itoaB extra).size ≤ 24 := itoa_len hxx.1 hxx.2
          by_cases hx0 : 0 < extra
          · have hx0b : decide (0 < extra) = true := decide_eq_true hx0
            have hE : texE (.mk 5 name value n extra ks) = ⟨#[108, 105, 109, 105, 116, 32]⟩ ++ name ++ ⟨#[32]⟩ ++ (itoaB n ++ (⟨#[32, 112, 108, 117, 115, 32]⟩ ++ itoaB extra)) := by rw [HTX.out]; show sLimit ++ name ++ sSpace ++ (if 0 < extra then itoaB n ++ (sPlus ++ itoaB extra) else itoaB n) = _; rw [if_pos hx0]; rfl
            generalize itoaB n = tn at *
            generalize itoaB extra = te at *
            go_wp2_with (first | ((with_reducible show Calls _ _ #[.int .i64 n] _ _); go_at_call 37; refine (HIN.out _ HBr.out).mono ?_; rintro e w2 ⟨rfl, hb2⟩; have HX2 := Lib.hid (HXr.out.below hb2 HXr.out.lt); have HB2 := Lib.hid (HBr.out.trans (hb2.mono HBr.out.size)); have HS2 := Lib.hid (HSL.out.below hb2); obtain ⟨d2, f2⟩ := HX2.out.facts; clear hb2 HIN d0 f0) | (go_at_call 37; refine (HIX.out _ HB2.out).mono ?_; rintro e w3 ⟨rfl, hb3⟩; have HX3 := Lib.hid (HX2.out.below hb3 HX2.out.lt); have HB3 := Lib.hid (HB2.out.trans (hb3.mono HB2.out.size)); obtain ⟨d3, f3⟩ := HX3.out.facts; clear hb3 HIX d2 f2))
            all_goals first
              | (exfalso; omega)
              | skip
            go_ret
            exact ⟨by rw [hE]; rfl, HB3.out⟩
          · have hx0b : decide (0 < extra) = false := decide_eq_false hx0
            have hE : texE (.mk 5 name value n extra ks) = ⟨#[108, 105, 109, 105, 116, 32]⟩ ++ name ++ ⟨#[32]⟩ ++ itoaB n := by rw [HTX.out]; show sLimit ++ name ++ sSpace ++ (if 0 < extra then itoaB n ++ (sPlus ++ itoaB extra) else itoaB n) = _; rw [if_neg hx0]; rfl
            generalize itoaB n = tn at *
            go_wp2_with (go_at_call 37; refine (HIN.out _ HBr.out).mono ?_; rintro e w2 ⟨rfl, hb2⟩; have HX2 := Lib.hid (HXr.out.below hb2 HXr.out.lt); have HB2 := Lib.hid (HBr.out.trans (hb2.mono HBr.out.size)); have HS2 := Lib.hid (HSL.out.below hb2); obtain ⟨d2, f2⟩ := HX2.out.facts; clear hb2 HIN d0 f0)
            all_goals first
              | (exfalso; omega)
              | skip
            go_ret
            exact ⟨by rw [hE]; rfl, HB2.out⟩
        · clear hop HOK
          clear hkn
          rw [if_neg (by omega)] at hnm
          clear hval
          rw [if_pos (by omega)] at hnn
          clear hxx
          have hnl : name.size ≤ 24 := name_le hnm
          have hi1 : (itoaB n).size ≤ 24 := itoa_len hnn.1 hnn.2
          have hE : texE (.mk 6 name value n extra ks) = ⟨#[111, 118, 101, 114, 32]⟩ ++ name ++ ⟨#[32]⟩ ++ itoaB n := by rw [HTX.out]; rfl
          generalize itoaB n = tn at *
          go_wp2_with (go_at_call 37; refine (HIN.out _ HBr.out).mono ?_; rintro e w2 ⟨rfl, hb2⟩; have HX2 := Lib.hid (HXr.out.below hb2 HXr.out.lt); have HB2 := Lib.hid (HBr.out.trans (hb2.mono HBr.out.size)); have HS2 := Lib.hid (HSL.out.below hb2); obtain ⟨d2, f2⟩ := HX2.out.facts; clear hb2 HIN d0 f0)
          all_goals first
            | (exfalso; omega)
            | skip
          go_ret
          exact ⟨by rw [hE]; rfl, HB2.out⟩
        · clear hop HOK
          clear hkn
          rw [if_neg (by omega)] at hnm
          rw [if_pos (by omega)] at hval
          clear hnn
          clear hxx
          have hnl : name.size ≤ 24 := name_le hnm
          have hvl : value.size ≤ 200 := hval.2
          have hE : texE (.mk 7 name value n extra ks) = name ++ ⟨#[32, 61, 32]⟩ ++ quoteB value := by rw [HTX.out]; rfl
          have HQ := Lib.hid (fun W => quote_any value W (by omega))
          have hql := quote_size value
          generalize quoteB value = tq at *
          have m1 : ¬ 9223372036854775807 < name.size + 3 := by omega
          have m2 : ¬ 9223372036854775807 < name.size + 3 + tq.size := by omega
          go_wp2_with (go_at_call 37; refine (HIN.out _ HBr.out).mono ?_; rintro e w2 ⟨rfl, hb2⟩; have HX2 := Lib.hid (HXr.out.below hb2 HXr.out.lt); have HB2 := Lib.hid (HBr.out.trans (hb2.mono HBr.out.size)); have HS2 := Lib.hid (HSL.out.below hb2); obtain ⟨d2, f2⟩ := HX2.out.facts; clear hb2 HIN d0 f0)
          refine wp_region_held_drew (S := fun W => W.cell? ⟨w.heap.size, 1, none⟩ = some (.string name) ∧ W.cell? ⟨w.heap.size, 2, none⟩ = some (.string value)) (by kernel_rfl) (⟨HX2.out.drew.cell 1, HX2.out.drew.cell 2⟩) (fun hHeld => ?_)
          refine plI [(0, false), (1, false), (2, false), (3, false), (4, false)] ?_
          repeat ((first | ((with_reducible show Plan ((_, true) :: _) _); refine plF ?_) | (refine plR (v := ?_) ?_ ?_; rotate_left; focus (intro W hSW; (try dsimp only at hSW); go_simp; all_goals (with_reducible rfl)))); try simp only [Act.put, List.setIfInBounds_toArray, List.set_cons_zero, List.set_cons_succ])
          refine plE ?_
          refine wpAnyH_ready (rs := [5]) (by kernel_rfl) (by simp) ?_
          refine AllReadyH.cons (o := ⟨_, _, _, _, _, _⟩) rfl (fun K hK => ?_) AllReadyH.nil
          go_simp
          go_at_call 39; refine (HQ.out _).mono ?_; rintro e w4 ⟨rfl, hb4⟩; have HX4 := Lib.hid (HX2.out.drew.below hb4 HX2.out.drew.lt); have HB4 := Lib.hid (HB2.out.drew.trans (hb4.mono HB2.out.drew.size)); clear hb4
          refine hK.out _ _ (⟨HX4.out.cell 1, HX4.out.cell 2⟩) (fun hHeld => ?_)
          clear hK K
          try simp only [Act.put, List.setIfInBounds_toArray, List.set_cons_zero, List.set_cons_succ]
          refine plI [(6, false), (7, false)] ?_
          repeat ((first | ((with_reducible show Plan ((_, true) :: _) _); refine plF ?_) | (refine plR (v := ?_) ?_ ?_; rotate_left; focus (intro W hSW; (try dsimp only at hSW); go_simp; all_goals (with_reducible rfl)))); try simp only [Act.put, List.setIfInBounds_toArray, List.set_cons_zero, List.set_cons_succ])
          refine plE ?_
          refine wpAnyH_done (by kernel_rfl) ?_ _
          clear hHeld
          go_wp2_with fail
          go_ret
          exact ⟨by rw [hE]; rfl, HB4.out⟩
        · clear hop HOK
          clear hkn
          rw [if_neg (by omega)] at hnm
          clear hval
          clear hnn
          clear hxx
          have hnl : name.size ≤ 24 := name_le hnm
          have hE : texE (.mk 8 name value n extra ks) = ⟨#[104, 97, 115, 32]⟩ ++ name := by rw [HTX.out]; rfl
          go_wp2_with (go_at_call 37; refine (HIN.out _ HBr.out).mono ?_; rintro e w2 ⟨rfl, hb2⟩; have HX2 := Lib.hid (HXr.out.below hb2 HXr.out.lt); have HB2 := Lib.hid (HBr.out.trans (hb2.mono HBr.out.size)); have HS2 := Lib.hid (HSL.out.below hb2); obtain ⟨d2, f2⟩ := HX2.out.facts; clear hb2 HIN d0 f0)
          all_goals first
            | (exfalso; omega)
            | skip
          go_ret
          exact ⟨by rw [hE]; rfl, HB2.out⟩
        · clear hop HOK
          clear hkn
          rw [if_neg (by omega)] at hnm
          rw [if_neg (by omega), if_pos (by omega)] at hval
          clear hnn
          clear hxx
          have hnl : name.size ≤ 24 := name_le hnm
          have hvl : value.size ≤ 24 := name_le hval
          have hE : texE (.mk 9 name value n extra ks) = ⟨#[115, 108, 111, 116, 32]⟩ ++ name ++ ⟨#[32, 105, 115, 32]⟩ ++ value := by rw [HTX.out]; rfl
          go_wp2_with (go_at_call 37; refine (HIN.out _ HBr.out).mono ?_; rintro e w2 ⟨rfl, hb2⟩; have HX2 := Lib.hid (HXr.out.below hb2 HXr.out.lt); have HB2 := Lib.hid (HBr.out.trans (hb2.mono HBr.out.size)); have HS2 := Lib.hid (HSL.out.below hb2); obtain ⟨d2, f2⟩ := HX2.out.facts; clear hb2 HIN d0 f0)
          all_goals first
            | (exfalso; omega)
            | skip
          go_ret
          exact ⟨by rw [hE]; rfl, HB2.out⟩
        · clear hop HOK
          rw [if_pos (by omega)] at hkn
          rw [if_neg (by omega)] at hnm
          clear hval
          clear hnn
          clear hxx
          have hk1 : ks.length = 1 := hkn
          have hlt : 0 < ks.length := by omega
          obtain ⟨tk, htk⟩ : ∃ tk, (texs 10 ks).getD 0 e0 = tk := ⟨_, rfl⟩
          have hE : texE (.mk 10 name value n extra ks) = ⟨#[97, 108, 108, 32]⟩ ++ name ++ ⟨#[32, 40]⟩ ++ tk ++ ⟨#[41]⟩ := by rw [HTX.out, ← htk]; rfl
          have htl : tk.size ≤ 60000 := by
            have h1 := HTL.out 0 hlt
            have h2 := kidT_len 10 ks[0].op (texE ks[0])
            rw [← htk, texs_map, List.getD_eq_getElem?_getD, List.getElem?_map, List.getElem?_eq_getElem hlt]
            show (kidT 10 ks[0].op (texE ks[0])).size ≤ 60000
            omega
          obtain ⟨b3, o3, rfl, hc3⟩ : ∃ b3 o3, A3 = some ⟨b3, o3, none⟩ ∧ wr.cell? ⟨b3, o3, none⟩ = some (.string tk) := by
            obtain ⟨A4, c4, hv4, _, h0 | ⟨b3, o3, rfl, h3⟩⟩ := HSL.out
            · rw [texs_len] at h0; omega
            · injection hv4 with hv4
              refine ⟨b3, o3, hv4, ?_⟩
              have h4 := h3 0 (by rw [texs_len]; omega)
              rw [Nat.add_zero] at h4
              rw [h4]
              show some (Value.string ((texs 10 ks).getD 0 e0)) = _
              rw [htk]
          have HC3 := Lib.hid hc3
          have HO3 := Lib.hid HO.out
          rw [hk1] at *
          clear hk1 hlt htk HTL hc3 HSL
          have hnl : name.size ≤ 24 := name_le hnm
          go_wp2_with (go_at_call 37; refine (HIN.out _ HBr.out).mono ?_; rintro e w2 ⟨rfl, hb2⟩; have HX2 := Lib.hid (HXr.out.below hb2 HXr.out.lt); have HB2 := Lib.hid (HBr.out.trans (hb2.mono HBr.out.size)); have hc3 := cell_later hb2 HC3.out; obtain ⟨d2, f2⟩ := HX2.out.facts; clear hb2 HIN d0 f0)
          all_goals first
            | (exfalso; omega)
            | skip
          have m1 : ¬ 9223372036854775807 < 4 + name.size := by omega
          have m2 : ¬ 9223372036854775807 < 4 + name.size + 2 := by omega
          have m3 : ¬ 9223372036854775807 < 4 + name.size + 2 + tk.size := by omega
          have m4 : ¬ 9223372036854775807 < 4 + name.size + 2 + tk.size + 1 := by omega
          refine wp_region_held_drew (S := fun W => W.cell? ⟨w.heap.size, 1, none⟩ = some (.string name) ∧ W.cell? ⟨b3, o3, none⟩ = some (.string tk)) (by kernel_rfl) (⟨HX2.out.drew.cell 1, hc3⟩) (fun hHeld => ?_)
          refine plI [(0, false), (1, false), (2, false), (3, false), (4, false), (5, false), (6, false), (7, false), (8, false), (9, false)] ?_
          repeat ((first | ((with_reducible show Plan ((_, true) :: _) _); refine plF ?_) | (refine plR (v := ?_) ?_ ?_; rotate_left; focus (intro W hSW; (try dsimp only at hSW); go_simp; all_goals (with_reducible rfl)))); try simp only [Act.put, List.setIfInBounds_toArray, List.set_cons_zero, List.set_cons_succ])
          refine plE ?_
          refine wpAnyH_done (by kernel_rfl) ?_ _
          clear hHeld
          go_wp2_with fail
          go_ret
          exact ⟨by rw [hE]; rfl, HB2.out.drew⟩
        · clear hop HOK
          rw [if_pos (by omega)] at hkn
          rw [if_neg (by omega)] at hnm
          clear hval
          clear hnn
          clear hxx
          have hk1 : ks.length = 1 := hkn
          have hlt : 0 < ks.length := by omega
          obtain ⟨tk, htk⟩ : ∃ tk, (texs 11 ks).getD 0 e0 = tk := ⟨_, rfl⟩
          have hE : texE (.mk 11 name value n extra ks) = ⟨#[97, 110, 121, 32]⟩ ++ name ++ ⟨#[32, 40]⟩ ++ tk ++ ⟨#[41]⟩ := by rw [HTX.out, ← htk]; rfl
          have htl : tk.size ≤ 60000 := by
            have h1 := HTL.out 0 hlt
            have h2 := kidT_len 11 ks[0].op (texE ks[0])
            rw [← htk, texs_map, List.getD_eq_getElem?_getD, List.getElem?_map, List.getElem?_eq_getElem hlt]
            show (kidT 11 ks[0].op (texE ks[0])).size ≤ 60000
            omega
          obtain ⟨b3, o3, rfl, hc3⟩ : ∃ b3 o3, A3 = some ⟨b3, o3, none⟩ ∧ wr.cell? ⟨b3, o3, none⟩ = some (.string tk) := by
            obtain ⟨A4, c4, hv4, _, h0 | ⟨b3, o3, rfl, h3⟩⟩ := HSL.out
            · rw [texs_len] at h0; omega
            · injection hv4 with hv4
              refine ⟨b3, o3, hv4, ?_⟩
              have h4 := h3 0 (by rw [texs_len]; omega)
              rw [Nat.add_zero] at h4
              rw [h4]
              show some (Value.string ((texs 11 ks).getD 0 e0)) = _
              rw [htk]
          have HC3 := Lib.hid hc3
          have HO3 := Lib.hid HO.out
          rw [hk1] at *
          clear hk1 hlt htk HTL hc3 HSL
          have hnl : name.size ≤ 24 := name_le hnm
          go_wp2_with (go_at_call 37; refine (HIN.out _ HBr.out).mono ?_; rintro e w2 ⟨rfl, hb2⟩; have HX2 := Lib.hid (HXr.out.below hb2 HXr.out.lt); have HB2 := Lib.hid (HBr.out.trans (hb2.mono HBr.out.size)); have hc3 := cell_later hb2 HC3.out; obtain ⟨d2, f2⟩ := HX2.out.facts; clear hb2 HIN d0 f0)
          all_goals first
            | (exfalso; omega)
            | skip
          have m1 : ¬ 9223372036854775807 < 4 + name.size := by omega
          have m2 : ¬ 9223372036854775807 < 4 + name.size + 2 := by omega
          have m3 : ¬ 9223372036854775807 < 4 + name.size + 2 + tk.size := by omega
          have m4 : ¬ 9223372036854775807 < 4 + name.size + 2 + tk.size + 1 := by omega
          refine wp_region_held_drew (S := fun W => W.cell? ⟨w.heap.size, 1, none⟩ = some (.string name) ∧ W.cell? ⟨b3, o3, none⟩ = some (.string tk)) (by kernel_rfl) (⟨HX2.out.drew.cell 1, hc3⟩) (fun hHeld => ?_)
          refine plI [(0, false), (1, false), (2, false), (3, false), (4, false), (5, false), (6, false), (7, false), (8, false), (9, false)] ?_
          repeat ((first | ((with_reducible show Plan ((_, true) :: _) _); refine plF ?_) | (refine plR (v := ?_) ?_ ?_; rotate_left; focus (intro W hSW; (try dsimp only at hSW); go_simp; all_goals (with_reducible rfl)))); try simp only [Act.put, List.setIfInBounds_toArray, List.set_cons_zero, List.set_cons_succ])
          refine plE ?_
          refine wpAnyH_done (by kernel_rfl) ?_ _
          clear hHeld
          go_wp2_with fail
          go_ret
          exact ⟨by rw [hE]; rfl, HB2.out.drew⟩
        · clear hop HOK
          clear hkn
          rw [if_neg (by omega)] at hnm
          clear hval
          rw [if_neg (by omega), if_pos (by omega)] at hnn
          have hnn : 0 ≤ n ∧ n ≤ 9999999 := ⟨by omega, hnn.2⟩
          clear hxx
          have hnl : name.size ≤ 24 := name_le hnm
          have hi1 : (itoaB n).size ≤ 24 := itoa_len hnn.1 hnn.2
          have hE : texE (.mk 12 name value n extra ks) = ⟨#[97, 116, 32, 108, 101, 97, 115, 116, 32]⟩ ++ itoaB n ++ ⟨#[32]⟩ ++ name := by rw [HTX.out]; rfl
          generalize itoaB n = tn at *
          go_wp2_with (go_at_call 37; refine (HIN.out _ HBr.out).mono ?_; rintro e w2 ⟨rfl, hb2⟩; have HX2 := Lib.hid (HXr.out.below hb2 HXr.out.lt); have HB2 := Lib.hid (HBr.out.trans (hb2.mono HBr.out.size)); have HS2 := Lib.hid (HSL.out.below hb2); obtain ⟨d2, f2⟩ := HX2.out.facts; clear hb2 HIN d0 f0)
          all_goals first
            | (exfalso; omega)
            | skip
          go_ret
          exact ⟨by rw [hE]; rfl, HB2.out⟩
end Go.Proofs.YtppoeiofdmlpeaaGreatDoor
namespace Go.Proofs.YtppoeiofdmlpeaaGreatDoor
open Go Go.RowKit
set_option maxRecDepth 100000 in
set_option maxHeartbeats 8000000 in
theorem rtext_no (r : Ru) (kv : Value) (w : World) (hc : cnt r.cond ≤ 1000000) (hf : FitE r.cond) (hn : r.name.size ≤ maxLen) (hk : r.kind.size ≤ maxLen) (hl : Lay w kv r.cond.kids) (hr : ruleB r = false) :
    Calls Tryz.prog 9 #[.agg (ruA r kv)] w fun e w' => e = .returned (.tuple #[.string (textU r).1, .int .i64 (textU r).2]) ∧ Below w.heap.size w w' := by
  have hb : Below w.heap.size w (w.alloc (.cells (ruA r kv) 26)) := (Below.refl _ _).alloc (Nat.le_refl _) _
  have HB := Lib.hid hb
  have HX := Lib.hid (Has.new w 26 (ruA r kv))
  have HL := Lib.hid (hl.later hb)
  have HV := Lib.hid (fun W h => valid_any r kv W hc hf hn hk h)
  obtain ⟨A, c, rfl, _⟩ := hl.slice
  have HE := Lib.hid (show textU r = (⟨#[]⟩, 1) by unfold textU; rw [if_neg (by rw [hr]; decide)]; rfl)
  rw [hr] at HV
  dsimp only [ruA] at *
  clear hb hl hn hk hc hf hr
  go_enter Tryz.func9, Tryz.ntmps9
  go_wp2_with (go_at_call 14; refine (HV.out _ HL.out).mono ?_; rintro e w2 ⟨rfl, hb2⟩; have HW2 := Lib.hid (HB.out.trans (hb2.mono HB.out.size)); clear hb2)
  go_ret2
  exact ⟨by rw [HE.out]; rfl, HW2.out⟩
set_option maxRecDepth 100000 in
set_option maxHeartbeats 8000000 in
theorem rtext_ok (w0 : World) (ht : Tab w0) (r : Ru) (kv : Value) (w : World) (hb0 : Below w0.heap.size w0 w) (hc : cnt r.cond ≤ 1000000) (hf : FitE r.cond) (hn : r.name.size ≤ maxLen) (hk : r.kind.size ≤ maxLen) (hl : Lay w kv r.cond.kids) (hr : ruleB r = true) :
    Calls Tryz.prog 9 #[.agg (ruA r kv)] w fun e w' => e = .returned (.tuple #[.string (textU r).1, .int .i64 (textU r).2]) ∧ Below w.heap.size w w' := by
  have hsz0 := hb0.size
  obtain ⟨h1, h2, h3, h4⟩ : nameB r.name = true ∧ nameB r.kind = true ∧ cnt r.cond ≤ 60 ∧ allB r.cond = true := by
    have h := hr
    unfold ruleB condB at h
    simpa only [Bool.and_eq_true, decide_eq_true_eq] using h
  have hnl := name_le h1
  have hkl := name_le h2
  have htl := texE_len r.cond h4
  have HT := Lib.hid (fun W (h : Below w.heap.size w W) (hl : Lay W kv r.cond.kids) => text_rec w0 ht 100 r.cond kv W (by omega) (by decide) h4 (hb0.trans (h.mono hsz0)) hl)
  have hb : Below w.heap.size w (w.alloc (.cells (ruA r kv) 26)) := (Below.refl _ _).alloc (Nat.le_refl _) _
  have HB := Lib.hid hb
  have HX := Lib.hid (Has.new w 26 (ruA r kv))
  have HL := Lib.hid (hl.later hb)
  have HV := Lib.hid (fun W h => valid_any r kv W hc hf hn hk h)
  obtain ⟨A, c, rfl, _⟩ := hl.slice
  have HE : ∀ tq, ruleT r = tq → textU r = if 20000 < tq.size then (⟨#[]⟩, 7) else (tq, 0) := fun tq h => by unfold textU; rw [if_pos hr, h]; rfl
  rw [hr] at HV
  have htx : (texE r.cond).size ≤ 100000 := by omega
  have HR : ruleT r = ⟨#[114, 117, 108, 101, 32]⟩ ++ r.name ++ ⟨#[32, 102, 111, 114, 32]⟩ ++ r.kind ++ ⟨#[58, 32]⟩ ++ texE r.cond ++ ⟨#[59, 10]⟩ := rfl
  generalize texE r.cond = tx at *
  have m1 : ¬ 9223372036854775807 < 5 + r.name.size := by omega
  have m2 : ¬ 9223372036854775807 < 5 + r.name.size + 5 := by omega
  have m3 : ¬ 9223372036854775807 < 5 + r.name.size + 5 + r.kind.size := by omega
  have m4 : ¬ 9223372036854775807 < 5 + r.name.size + 5 + r.kind.size + 2 := by omega
  have m5 : ¬ 9223372036854775807 < 5 + r.name.size + 5 + r.kind.size + 2 + tx.size := by omega
  have m6 : ¬ 9223372036854775807 < 5 + r.name.size + 5 + r.kind.size + 2 + tx.size + 2 := by omega
  dsimp only [ruA] at *
  clear hb hl hn hk hc hf hr hb0 h1 h2 h3 h4 ht htl
  go_enter Tryz.func9, Tryz.ntmps9
  go_wp2_with (go_at_call 14; refine (HV.out _ HL.out).mono ?_; rintro e w2 ⟨rfl, hb2⟩; have HW2 := Lib.hid (HB.out.trans (hb2.mono HB.out.size)); have HX2 := Lib.hid (HX.out.below hb2 HX.out.lt); have HL2 := Lib.hid (HL.out.later hb2); clear hb2)
  refine wp_region_held_drew (S := fun W => W.cell? ⟨w.heap.size, 0, none⟩ = some (.string r.name) ∧ W.cell? ⟨w.heap.size, 1, none⟩ = some (.string r.kind) ∧ W.cell? ⟨w.heap.size, 2, none⟩ = some (.int .i64 r.cond.op) ∧ W.cell? ⟨w.heap.size, 3, none⟩ = some (.string r.cond.name) ∧ W.cell? ⟨w.heap.size, 4, none⟩ = some (.string r.cond.value) ∧ W.cell? ⟨w.heap.size, 5, none⟩ = some (.int .i64 r.cond.n) ∧ W.cell? ⟨w.heap.size, 6, none⟩ = some (.int .i64 r.cond.extra) ∧ W.cell? ⟨w.heap.size, 7, none⟩ = some (.slice A r.cond.kids.length c)) (by kernel_rfl) (⟨HX2.out.drew.cell 0, HX2.out.drew.cell 1, HX2.out.drew.cell 2, HX2.out.drew.cell 3, HX2.out.drew.cell 4, HX2.out.drew.cell 5, HX2.out.drew.cell 6, HX2.out.drew.cell 7⟩) (fun hHeld => ?_)
  refine plI [(0, false), (1, false), (2, false), (3, false), (4, false), (5, false), (6, false), (7, false), (8, false), (9, false)] ?_
  repeat ((first | ((with_reducible show Plan ((_, true) :: _) _); refine plF ?_) | (refine plR (v := ?_) ?_ ?_; rotate_left; focus (intro W hSW; (try dsimp only at hSW); go_simp; all_goals (with_reducible rfl)))); try simp only [Act.put, List.setIfInBounds_toArray, List.set_cons_zero, List.set_cons_succ])
  refine plE ?_
  refine wpAnyH_ready (rs := [10]) (by kernel_rfl) (by simp) ?_
  refine AllReadyH.cons (o := ⟨_, _, _, _, _, _⟩) rfl (fun K hK => ?_) AllReadyH.nil
  go_simp
  go_at_call 19; refine (HT.out _ HW2.out.drew (HL2.out.keeps (KeepsC.refl _).drew)).mono ?_; rintro e w4 ⟨rfl, hb4⟩; have HX4 := Lib.hid (HX2.out.drew.below hb4 HX2.out.drew.lt); have HB4 := Lib.hid (HW2.out.drew.trans (hb4.mono HW2.out.drew.size)); clear hb4
  refine hK.out _ _ (⟨HX4.out.cell 0, HX4.out.cell 1, HX4.out.cell 2, HX4.out.cell 3, HX4.out.cell 4, HX4.out.cell 5, HX4.out.cell 6, HX4.out.cell 7⟩) (fun hHeld => ?_)
  clear hK K
  try simp only [Act.put, List.setIfInBounds_toArray, List.set_cons_zero, List.set_cons_succ]
  refine plI [(11, false), (12, false), (13, false)] ?_
  repeat ((first | ((with_reducible show Plan ((_, true) :: _) _); refine plF ?_) | (refine plR (v := ?_) ?_ ?_; rotate_left; focus (intro W hSW; (try dsimp only at hSW); go_simp; all_goals (with_reducible rfl)))); try simp only [Act.put, List.setIfInBounds_toArray, List.set_cons_zero, List.set_cons_succ])
  refine plE ?_
  refine wpAnyH_done (by kernel_rfl) ?_ _
  clear hHeld
  obtain ⟨tq, htq⟩ : ∃ tq, ruleT r = tq := ⟨_, rfl⟩
  have HEq := HE _ htq
  rw [show ⟨#[114, 117, 108, 101, 32]⟩ ++ r.name ++ ⟨#[32, 102, 111, 114, 32]⟩ ++ r.kind ++ ⟨#[58, 32]⟩ ++ tx ++ ⟨#[59, 10]⟩ = tq from HR.symm.trans htq]
  clear HE HR m1 m2 m3 m4 m5 m6
  by_cases hq : 20000 < tq.size
  · have hqi : (20000 : Int) < (tq.size : Int) := by omega
    rw [if_pos hq] at HEq
    go_wp2_with fail
    go_ret2
    exact ⟨by first | rfl | (rw [HEq]; rfl), HB4.out⟩
  · have hqi : ¬ (20000 : Int) < (tq.size : Int) := by omega
    rw [if_neg hq] at HEq
    go_wp2_with fail
    go_ret2
    exact ⟨by first | rfl | (rw [HEq]; rfl), HB4.out⟩
theorem rtext_any (w0 : World) (ht : Tab w0) (r : Ru) (kv : Value) (w : World) (hb0 : Below w0.heap.size w0 w) (hc : cnt r.cond ≤ 1000000) (hf : FitE r.cond) (hn : r.name.size ≤ maxLen) (hk : r.kind.size ≤ maxLen) (hl : Lay w kv r.cond.kids) :
    Calls Tryz.prog 9 #[.agg (ruA r kv)] w fun e w' => e = .returned (.tuple #[.string (textU r).1, .int .i64 (textU r).2]) ∧ Below w.heap.size w w' := by
  cases hr : ruleB r with
  | true => exact rtext_ok w0 ht r kv w hb0 hc hf hn hk hl hr
  | false => exact rtext_no r kv w hc hf hn hk hl hr
end Go.Proofs.YtppoeiofdmlpeaaGreatDoor
namespace Go.Proofs.YtppoeiofdmlpeaaGreatDoor
open Go Go.RowKit Go.ChangeShapes Go.WideShapes Go.ChangeAt
section
variable {H : Type} {enc : TypeId × Value → H} {P : Program} {W W' : World}
theorem trodAll_below (hl : laidOutB P = true) (hb : Below W.heap.size W W') : ∀ (ts : List TypeId) (vs : List Value) (ds : List (DataW H)) (ps : List MemPlace),
    (ts.all fun t => P.readableRec t && decide (t < P.types.size)) = true → DataW.TrodAll enc P W 0 (fun _ => true) true ts vs ds ps → (∀ x ∈ ps, x.block < W.heap.size) →
    DataW.TrodAll enc P W' 0 (fun b => decide (b < W.heap.size)) true ts vs ds ps
  | [], vs, ds, ps, _, h, _ => by
    obtain ⟨rfl, rfl, rfl⟩ := trodAll_nil h
    exact trodAll_mk0
  | t :: ts, vs, ds, ps, ht, h, hp => by
    obtain ⟨v, vs', d, ds', p, q, rfl, rfl, rfl, h1, h2⟩ := trodAll_cons h
    simp only [List.all_cons, Bool.and_eq_true, decide_eq_true_eq] at ht
    exact trodAll_cons_mk (Below.trod hl ht.1.1 ht.1.2 h1 hb fun x hx => hp x (List.mem_append.2 (.inl hx))) (trodAll_below hl hb ts vs' ds' q ht.2 h2 fun x hx => hp x (List.mem_append.2 (.inr hx)))
/-- What a law owes behind its walk. -/
theorem law_post {f : Func} {s : ChangeSpec} {args : Array Value} {ds gs : List (DataW H)} {before : List MemPlace} {T : TypeId} (hsv : s.vars = []) (hl : laidOutB P = true)
    (hread : (f.params.toList.all fun t => P.readableRec t && decide (t < P.types.size)) = true) (hrt : f.resultTypes = #[T]) (hT : P.underlying T = some .bool)
    (hW : DataW.Whole enc P f.params.toList s.vars false W args.toList ds gs before) (hspec : s.fn H (ds ++ gs) = { results := [.lit (.bool true)], args := ds }) (hb : Below W.heap.size W W') :
    s.post enc P f false true false false W args (.bool true) W' := by
  have hW' := hW
  obtain ⟨p, q, hA, hV, rfl, hfz, hnd⟩ := hW
  rw [hsv] at hV
  obtain ⟨rfl, rfl⟩ := trodVars_none hV
  refine ⟨ds, [], p ++ [], [], p, [], hW', ?_, ?_, ?_, hb.frame _, fun h => by cases h⟩
  · rw [hspec, hrt]
    exact trodAll_cons_mk (shut_bool hT true) trodAll_mk0
  · rw [hspec]
    exact trodAll_below hl hb _ _ _ _ hread hA fun x hx => hW'.lt x (by simpa using hx)
  · rw [hspec, hsv]
    exact rfl
/-- The value that a slice argument is, as a list of one cell. -/
theorem slice_cells {base : Nat} {spare : Nat → Bool} {held : Bool} {t e : TypeId} {v : Value} {d : DataW H} {ps : List MemPlace} {r : Reach} {b0 : Nat} (ht : P.underlying t = some (.slice e))
    (hv : Value.okWide P W r b0 t v) (h : DataW.Trod enc P W base spare held t v d ps) : ∃ fuel, DataW.trod enc P W base spare held fuel t [v] = some (d, ps) := by
  obtain ⟨a, n, c, rfl⟩ := okWide_slice ht hv
  exact h
theorem string_cells {base : Nat} {spare : Nat → Bool} {held : Bool} {t : TypeId} {v : Value} {d : DataW H} {ps : List MemPlace} {r : Reach} {b0 : Nat} (ht : P.underlying t = some .string)
    (hv : Value.okWide P W r b0 t v) (h : DataW.Trod enc P W base spare held t v d ps) : ∃ s : ByteArray, v = .string s ∧ s.size ≤ maxLen := by
  obtain ⟨s, rfl⟩ := okWide_string ht hv
  obtain ⟨fuel, hf⟩ := h
  obtain ⟨a, ha, _, hs⟩ := DataW.trod_string ht hf
  have : s = a := by simpa [Value.cells] using ha
  subst this
  exact ⟨s, rfl, hs⟩
theorem struct_cells {base : Nat} {spare : Nat → Bool} {held : Bool} {t : TypeId} {fs : Array Field} {v : Value} {d : DataW H} {ps : List MemPlace} {r : Reach} {b0 : Nat} (ht : P.underlying t = some (.struct fs))
    (hv : Value.okWide P W r b0 t v) (h : DataW.Trod enc P W base spare held t v d ps) : ∃ cs : Array Value, v = .agg cs ∧ cs.size = P.cellsOf t ∧ ∃ fuel, DataW.trod enc P W base spare held fuel t cs.toList = some (d, ps) := by
  obtain ⟨cs, rfl, hs⟩ := okWide_struct ht hv
  exact ⟨cs, rfl, hs, h⟩
end
theorem own : ownKnob Tryz.prog.godebug = none := by kernel_rfl
theorem laidOut : laidOutB Tryz.prog = true := by kernel_rfl
end Go.Proofs.YtppoeiofdmlpeaaGreatDoor
