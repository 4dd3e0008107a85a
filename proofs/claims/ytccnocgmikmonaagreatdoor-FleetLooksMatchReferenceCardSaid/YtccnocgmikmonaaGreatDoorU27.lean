/- fleet.Find: the state of a part. bogieref10.SamePart: are two parts equal? The cells of a part. No condition. bogieref10.Same: are two states equal? digest.mix, digest.digits: what they return; a string copied into a row of bytes. No condition but that the number has 64 bits. digest.Sum$1: one block mixed into the state. No condition but that the piece has at most 8 bytes. -/
import Derived.BigQuiet
import Derived.Deep.QuietTactic
import Derived.Deep.RegionHeld3
import Derived.Laws.Bits64
import Derived.Laws.Bits64b
import Derived.Laws.BytesArg
import Derived.Lib.BufferWrite
import Derived.Test.YtccnocgmikmonaaGreatDoorU01
import Derived.Test.YtccnocgmikmonaaGreatDoorU02
import Derived.Test.YtccnocgmikmonaaGreatDoorU04
import Derived.Test.YtccnocgmikmonaaGreatDoorU07
import Derived.Test.YtccnocgmikmonaaGreatDoorU25
import Derived.Test.YtccnocgmikmonaaGreatDoorU26
namespace Go.Proofs.YtccnocgmikmonaaGreatDoor
open Go Go.RowKit
theorem pfind_at {l : List Pa} {x : ByteArray} {k : Nat} (hk : k < l.length) (h : ∀ q ∈ l.take k, q.name ≠ x) (he : (l.getD k noPa).name = x) : pfind l x = some (l.getD k noPa) := by
  have hg : l.getD k noPa = l[k] := by rw [List.getD_eq_getElem?_getD, List.getElem?_eq_getElem hk]; rfl
  rw [hg] at he ⊢
  unfold pfind
  rw [List.find?_eq_some_iff_getElem]
  refine ⟨by simpa using he, k, hk, rfl, fun j hj => ?_⟩
  have := h l[j] (List.mem_take_iff_getElem.2 ⟨j, by omega, rfl⟩)
  simpa using this
theorem pfind_all {l : List Pa} {x : ByteArray} (h : ∀ q ∈ l.take l.length, q.name ≠ x) : pfind l x = none := by
  rw [List.take_length] at h
  unfold pfind; rw [List.find?_eq_none]
  intro q hq; simpa using h q hq
theorem take_next {l : List Pa} {x : ByteArray} {k : Nat} (hk : k < l.length) (h : ∀ q ∈ l.take k, q.name ≠ x) (he : (l.getD k noPa).name ≠ x) : ∀ q ∈ l.take (k + 1), q.name ≠ x := by
  intro q hq
  rw [List.take_succ_eq_append_getElem hk, List.mem_append, List.mem_singleton] at hq
  rcases hq with hq | rfl
  · exact h q hq
  · rwa [List.getD_eq_getElem?_getD, List.getElem?_eq_getElem hk] at he
theorem new_range (w : World) (t : TypeId) (cs : List Value) : (w.alloc (.cells cs.toArray t)).rangeAt w.heap.size 0 cs := by
  intro j v hv
  have h1 := (Has.new w t cs.toArray).facts.1 j
  rw [Nat.zero_add, h1]
  simpa using hv
theorem thereH {w : World} {g t n : Nat} {cs : Array Value} (h : Has w g t cs) (hn : n ≤ cs.size) : w.there g 0 n := fun j hj => ⟨by rw [Nat.zero_add, h.cell, Array.getElem?_eq_getElem (by omega)]; rfl, h.free _⟩
theorem setAllH {w : World} {g t : Nat} {cs : Array Value} (h : Has w g t cs) (ds : List Value) (hl : ds.length = cs.size) : Has (w.setCells g 0 ds) g t ds.toArray := by
  have := setCells_block g t ds 0 cs.toList w (by have := h; unfold Has at this; simpa using this) (by simp; omega)
  unfold Has; rw [this]; unfold splice; simp; omega
theorem sizePt : (Tryz.prog.info? 33).map (·.size) = some 14 := by kernel_rfl
theorem onePt (a b c d : ByteArray) (e f : Int) (g : Bool) (A : Option Addr) (n m : Nat) (h i j k l o : Int) : (#[.string a, .string b, .string c, .string d, .int .i64 e, .int .i64 f, .bool g, .slice A n m, .int .i64 h, .int .i64 i, .int .i64 j, .int .i64 k, .int .i64 l, .int .i64 o] : Array Value).all (·.oneCell') = true := by
  simp [Value.oneCell']
/-- A row stored into a block: what is known of the world behind it. -/
theorem stored {w0 w : World} {g t B : Nat} {cs : Array Value} (h : Has w g t cs) (hb : Below B w0 w) (hg : B ≤ g) (ds : Array Value) (hl : ds.size = cs.size) : ∃ W, w.setCells g 0 ds.toList = W ∧ Has W g t ds ∧ Below B w0 W :=
  ⟨_, rfl, by have := setAllH h ds.toList (by simpa using hl); simpa using this, below_setCells hg ds.toList 0 w hb⟩
set_option maxRecDepth 100000 in
set_option maxHeartbeats 2000000 in
theorem fpart_any (w0 : World) (v : Value) (l : List Pa) (x : ByteArray) (w : World) (hb0 : Below w0.heap.size w0 w) (hv : Sta w0 v l) (hl : l.length ≤ 1000000) :
    Calls Tryz.prog 7 #[.agg #[v], .string x] w fun e w' => ∃ A m, e = .returned (.tuple #[.agg #[.string ((pfind l x).getD noPa).name, .string ((pfind l x).getD noPa).kind, .string ((pfind l x).getD noPa).into, .string ((pfind l x).getD noPa).slot, .int .i64 ((pfind l x).getD noPa).made, .int .i64 ((pfind l x).getD noPa).since, .bool ((pfind l x).getD noPa).gone, .slice A ((pfind l x).getD noPa).props.length m, .int .i64 ((pfind l x).getD noPa).kl, .int .i64 ((pfind l x).getD noPa).kh, .int .i64 ((pfind l x).getD noPa).cl, .int .i64 ((pfind l x).getD noPa).ch, .int .i64 ((pfind l x).getD noPa).dl, .int .i64 ((pfind l x).getD noPa).dh], .bool (pfind l x).isSome]) ∧ Rd 2 PrR w0 (.slice A ((pfind l x).getD noPa).props.length m) ((pfind l x).getD noPa).props ∧ Below w.heap.size w w' := by
  obtain ⟨A, cc, rfl, hn⟩ := hv.form
  have h2 := Has.new (w.alloc (.cells #[.slice A l.length cc] 24)) 33 #[.string ⟨#[]⟩, .string ⟨#[]⟩, .string ⟨#[]⟩, .string ⟨#[]⟩, .int .i64 0, .int .i64 0, .bool false, .slice none 0 0, .int .i64 0, .int .i64 0, .int .i64 0, .int .i64 0, .int .i64 0, .int .i64 0]
  simp only [World.size_alloc] at h2
  have hb : Below w.heap.size w ((w.alloc (.cells #[.slice A l.length cc] 24)).alloc (.cells #[.string ⟨#[]⟩, .string ⟨#[]⟩, .string ⟨#[]⟩, .string ⟨#[]⟩, .int .i64 0, .int .i64 0, .bool false, .slice none 0 0, .int .i64 0, .int .i64 0, .int .i64 0, .int .i64 0, .int .i64 0, .int .i64 0] 33)) := ((Below.refl _ _).alloc (Nat.le_refl _) _).alloc (by simp) _
  have HV := Lib.hid hv
  have HB0 := Lib.hid hb0
  have HP1 := Lib.hid h2
  have HB1 := Lib.hid hb
  clear hv hb0 h2 hb
  go_enter Tryz.func7, Tryz.ntmps7
  go_wp2_with fail
  go_loopw [11] (fun i wr => ∃ k : Nat, k ≤ l.length ∧ i = .int .i64 k ∧ Hid (∀ q ∈ l.take k, q.name ≠ x) ∧ Hid (Has wr (w.heap.size + 1) 33 #[.string ⟨#[]⟩, .string ⟨#[]⟩, .string ⟨#[]⟩, .string ⟨#[]⟩, .int .i64 0, .int .i64 0, .bool false, .slice none 0 0, .int .i64 0, .int .i64 0, .int .i64 0, .int .i64 0, .int .i64 0, .int .i64 0]) ∧ Hid (Below w.heap.size w wr)) (fun i _ => l.length - (intOf i).toNat)
  case atStart => exact ⟨0, Nat.zero_le _, rfl, fun q hq => by simp at hq, HP1.out, HB1.out⟩
  case round =>
    obtain ⟨k, hk, rfl, HT, HP, HB⟩ := hrel
    clear HP1 HB1
    have hwr : w.heap.size + 1 < wr.heap.size := HP.out.lt
    by_cases hlt : k < l.length
    · obtain ⟨b, o, c', cs, he, _, ⟨sv, rfl, hsv⟩, _, hrg⟩ := HV.out.get hlt noPa
      injection he with e1 e2 e3
      subst e1; subst e3
      obtain ⟨A2, c2, rfl, hn2⟩ := hsv.form
      have HSV := Lib.hid hsv
      have hrg' := range_later hrg (HB0.out.trans (HB.out.mono HB0.out.size))
      have HAT := Lib.hid (fun he => pfind_at hlt HT.out he)
      have HNX := Lib.hid (fun he => take_next hlt HT.out he)
      have hki : (k : Int) < (l.length : Int) := by omega
      clear hrg hsv
      generalize l.getD k noPa = q at *
      obtain ⟨name, kind, into, slot, made, since, gone, props, kl, kh, cl, ch, dl, dh⟩ := q
      replace hrg' : wr.rangeAt b (o + k * 14) [.string name, .string kind, .string into, .string slot, .int .i64 made, .int .i64 since, .bool gone, .slice A2 props.length c2, .int .i64 kl, .int .i64 kh, .int .i64 cl, .int .i64 ch, .int .i64 dl, .int .i64 dh] := hrg'
      have hp1 := HP.out.alloc (.cells #[.string name, .string kind, .string into, .string slot, .int .i64 made, .int .i64 since, .bool gone, .slice A2 props.length c2, .int .i64 kl, .int .i64 kh, .int .i64 cl, .int .i64 ch, .int .i64 dl, .int .i64 dh] 33)
      have HP2 := Lib.hid hp1
      clear hp1
      cases he : (name.toList == x.toList)
      · have hne : name ≠ x := by rw [beq_bytes] at he; exact of_decide_eq_false he
        have HN := Lib.hid (HNX.out hne)
        clear hne
        go_wp2_with ((with_reducible show wpList _ _ _ (Oper.mk (some 14) _ _ _ _ _ :: _) _ _); refine wpList_load_mid rfl 33 _ rfl b (o + k * 14) rfl _ _ hrg' Tryz.underlying33 rfl rfl ?_)
        go_roundw
        case rel => exact ⟨k + 1, by omega, by go_num, HN.out, HP2.out, HB.out.alloc (by omega) _⟩
        case measure => simp [intOf]; omega
      · have heq : name = x := by rw [beq_bytes] at he; exact of_decide_eq_true he
        have HE := Lib.hid (HAT.out heq)
        clear heq
        have HT7 := Lib.hid (thereH (n := 14) HP2.out (by simp))
        obtain ⟨W, hWe, hW, hB⟩ := stored HP2.out (HB.out.alloc HB.out.size (.cells #[.string name, .string kind, .string into, .string slot, .int .i64 made, .int .i64 since, .bool gone, .slice A2 props.length c2, .int .i64 kl, .int .i64 kh, .int .i64 cl, .int .i64 ch, .int .i64 dl, .int .i64 dh] 33)) (by omega : w.heap.size ≤ w.heap.size + 1) #[.string name, .string kind, .string into, .string slot, .int .i64 made, .int .i64 since, .bool gone, .slice A2 props.length c2, .int .i64 kl, .int .i64 kh, .int .i64 cl, .int .i64 ch, .int .i64 dl, .int .i64 dh] rfl
        obtain ⟨n4, n5⟩ := hW.facts
        have HB9 := Lib.hid hB
        clear hB hW
        have hr2 : (wr.alloc (.cells #[.string name, .string kind, .string into, .string slot, .int .i64 made, .int .i64 since, .bool gone, .slice A2 props.length c2, .int .i64 kl, .int .i64 kh, .int .i64 cl, .int .i64 ch, .int .i64 dl, .int .i64 dh] 33)).rangeAt wr.heap.size 0 [.string name, .string kind, .string into, .string slot, .int .i64 made, .int .i64 since, .bool gone, .slice A2 props.length c2, .int .i64 kl, .int .i64 kh, .int .i64 cl, .int .i64 ch, .int .i64 dl, .int .i64 dh] := new_range wr _ _
        go_wp2_with (first | ((with_reducible show wpList _ _ _ (Oper.mk (some 14) _ _ _ _ _ :: _) _ _); refine wpList_load_mid rfl 33 _ rfl b (o + k * 14) rfl _ _ hrg' Tryz.underlying33 rfl rfl ?_) | ((with_reducible show wpList _ _ _ (Oper.mk (some 19) _ _ _ _ _ :: _) _ _); refine wpList_load_mid rfl 33 _ rfl wr.heap.size 0 rfl _ _ hr2 Tryz.underlying33 rfl rfl ?_) | ((with_reducible show wpList _ _ _ (Oper.mk none (Op.store 33 (Operand.tmp 4) _) _ _ _ _ :: _) _ _); refine wpList_store_mid rfl 33 _ _ rfl (w.heap.size + 1) 0 #[.string name, .string kind, .string into, .string slot, .int .i64 made, .int .i64 since, .bool gone, .slice A2 props.length c2, .int .i64 kl, .int .i64 kh, .int .i64 cl, .int .i64 ch, .int .i64 dl, .int .i64 dh] rfl rfl HT7.out sizePt (onePt ..) ?_; rw [hWe]))
        refine bodyPost_ret (v := .tuple #[.agg #[.string name, .string kind, .string into, .string slot, .int .i64 made, .int .i64 since, .bool gone, .slice A2 props.length c2, .int .i64 kl, .int .i64 kh, .int .i64 cl, .int .i64 ch, .int .i64 dl, .int .i64 dh], .bool true]) (by simp [results, Tryz.results7, go_sem, n4]) rfl ?_
        exact ⟨A2, c2, by rw [HE.out]; rfl, by rw [HE.out]; exact HSV.out, HB9.out⟩
    · obtain rfl : k = l.length := by omega
      have HE := Lib.hid (pfind_all HT.out)
      have HT7 := Lib.hid (thereH (n := 14) HP.out (by simp))
      obtain ⟨W, hWe, hW, hB⟩ := stored HP.out HB.out (by omega : w.heap.size ≤ w.heap.size + 1) #[.string ⟨#[]⟩, .string ⟨#[]⟩, .string ⟨#[]⟩, .string ⟨#[]⟩, .int .i64 0, .int .i64 0, .bool false, .slice none 0 0, .int .i64 0, .int .i64 0, .int .i64 0, .int .i64 0, .int .i64 0, .int .i64 0] rfl
      obtain ⟨n4, n5⟩ := hW.facts
      have HB9 := Lib.hid hB
      clear hB hW
      go_wp2_with ((with_reducible show wpList _ _ _ (Oper.mk none (Op.store 33 (Operand.tmp 4) _) _ _ _ _ :: _) _ _); refine wpList_store_mid rfl 33 _ _ rfl (w.heap.size + 1) 0 #[.string ⟨#[]⟩, .string ⟨#[]⟩, .string ⟨#[]⟩, .string ⟨#[]⟩, .int .i64 0, .int .i64 0, .bool false, .slice none 0 0, .int .i64 0, .int .i64 0, .int .i64 0, .int .i64 0, .int .i64 0, .int .i64 0] rfl rfl HT7.out sizePt (onePt ..) ?_; rw [hWe])
      refine bodyPost_ret (v := .tuple #[.agg #[.string ⟨#[]⟩, .string ⟨#[]⟩, .string ⟨#[]⟩, .string ⟨#[]⟩, .int .i64 0, .int .i64 0, .bool false, .slice none 0 0, .int .i64 0, .int .i64 0, .int .i64 0, .int .i64 0, .int .i64 0, .int .i64 0], .bool false]) (by simp [results, Tryz.results7, go_sem, n4]) rfl ?_
      exact ⟨none, 0, by rw [HE.out]; rfl, by rw [HE.out]; exact Rd.nil _ _, HB9.out⟩
end Go.Proofs.YtccnocgmikmonaaGreatDoor
namespace Go.Proofs.YtccnocgmikmonaaGreatDoor
open Go Go.RowKit
theorem Pr_ext {l m : List Pr} (hl : l.length = m.length) (h : ∀ j, j < l.length → l.getD j noPr = m.getD j noPr) : l = m := by
  apply List.ext_getElem?
  intro j
  by_cases hj : j < l.length
  · have := h j hj
    rw [List.getD_eq_getElem?_getD, List.getD_eq_getElem?_getD, List.getElem?_eq_getElem hj, List.getElem?_eq_getElem (by omega)] at this
    rw [List.getElem?_eq_getElem hj, List.getElem?_eq_getElem (by omega)]
    simpa using this
  · rw [List.getElem?_eq_none (by omega), List.getElem?_eq_none (by omega)]
theorem neS {a b : ByteArray} (h : a ≠ b) : (a.toList != b.toList) = true := by
  rw [bne, beq_bytes, decide_eq_false h]; rfl
theorem beS {a b : ByteArray} (h : ¬ a = b) : (a.toList == b.toList) = false := by rw [beq_bytes, decide_eq_false h]
theorem beB {a b : Bool} (h : ¬ a = b) : (a == b) = false := by simpa using h
theorem eqS (a : ByteArray) : (a.toList != a.toList) = false := by simp
theorem neI {a b : Int} (h : a ≠ b) : (a != b) = true := by simpa using h
theorem neB {a b : Bool} (h : a ≠ b) : (a != b) = true := by simpa using h
set_option maxRecDepth 100000 in
set_option maxHeartbeats 4000000 in
theorem samePart_any (pname pkind pinto pslot : ByteArray) (pmade psince : Int) (pgone : Bool) (pprops : List Pr) (pkl pkh pcl pch pdl pdh : Int) (qname qkind qinto qslot : ByteArray) (qmade qsince : Int) (qgone : Bool) (qprops : List Pr) (qkl qkh qcl qch qdl qdh : Int)
    (A1 A2 : Option Addr) (c1 c2 : Nat) (w : World) (h1 : Rd 2 PrR w (.slice A1 pprops.length c1) pprops) (h2 : Rd 2 PrR w (.slice A2 qprops.length c2) qprops) (hl1 : pprops.length ≤ 100000) (_hl2 : qprops.length ≤ 100000) :
    Calls Tryz.prog 9 #[.agg #[.string pname, .string pkind, .string pinto, .string pslot, .int .i64 pmade, .int .i64 psince, .bool pgone, .slice A1 pprops.length c1, .int .i64 pkl, .int .i64 pkh, .int .i64 pcl, .int .i64 pch, .int .i64 pdl, .int .i64 pdh], .agg #[.string qname, .string qkind, .string qinto, .string qslot, .int .i64 qmade, .int .i64 qsince, .bool qgone, .slice A2 qprops.length c2, .int .i64 qkl, .int .i64 qkh, .int .i64 qcl, .int .i64 qch, .int .i64 qdl, .int .i64 qdh]] w fun e w' => e = .returned (.bool (decide ((⟨pname, pkind, pinto, pslot, pmade, psince, pgone, pprops, pkl, pkh, pcl, pch, pdl, pdh⟩ : Pa) = ⟨qname, qkind, qinto, qslot, qmade, qsince, qgone, qprops, qkl, qkh, qcl, qch, qdl, qdh⟩))) ∧ Below w.heap.size w w' := by
  have HB := Lib.hid (((Below.refl w.heap.size w).alloc (Nat.le_refl _) (.cells #[.string pname, .string pkind, .string pinto, .string pslot, .int .i64 pmade, .int .i64 psince, .bool pgone, .slice A1 pprops.length c1, .int .i64 pkl, .int .i64 pkh, .int .i64 pcl, .int .i64 pch, .int .i64 pdl, .int .i64 pdh] 33)).alloc (by simp) (.cells #[.string qname, .string qkind, .string qinto, .string qslot, .int .i64 qmade, .int .i64 qsince, .bool qgone, .slice A2 qprops.length c2, .int .i64 qkl, .int .i64 qkh, .int .i64 qcl, .int .i64 qch, .int .i64 qdl, .int .i64 qdh] 33))
  have H1 := Lib.hid h1
  have H2 := Lib.hid h2
  clear h1 h2
  by_cases ename : ¬ pname = qname
  · have hb := neS ename
    have hb2 := beS ename
    have hd := Lib.hid (show decide ((⟨pname, pkind, pinto, pslot, pmade, psince, pgone, pprops, pkl, pkh, pcl, pch, pdl, pdh⟩ : Pa) = ⟨qname, qkind, qinto, qslot, qmade, qsince, qgone, qprops, qkl, qkh, qcl, qch, qdl, qdh⟩) = false from decide_eq_false fun e => ename (by injection e))
    clear ename
    rw [hd.out]
    go_enter Tryz.func9, Tryz.ntmps9
    go_wp2_with fail
    all_goals
      go_ret
      exact ⟨rfl, ((Below.refl _ _).alloc (Nat.le_refl _) _).alloc (by simp) _⟩
  obtain rfl := Classical.not_not.1 ename
  have rname := eqS pname
  by_cases ekind : ¬ pkind = qkind
  · have hb := neS ekind
    have hb2 := beS ekind
    have hd := Lib.hid (show decide ((⟨pname, pkind, pinto, pslot, pmade, psince, pgone, pprops, pkl, pkh, pcl, pch, pdl, pdh⟩ : Pa) = ⟨pname, qkind, qinto, qslot, qmade, qsince, qgone, qprops, qkl, qkh, qcl, qch, qdl, qdh⟩) = false from decide_eq_false fun e => ekind (by injection e))
    clear ekind
    rw [hd.out]
    go_enter Tryz.func9, Tryz.ntmps9
    go_wp2_with fail
    all_goals
      go_ret
      exact ⟨rfl, ((Below.refl _ _).alloc (Nat.le_refl _) _).alloc (by simp) _⟩
  obtain rfl := Classical.not_not.1 ekind
  have rkind := eqS pkind
  by_cases einto : ¬ pinto = qinto
  · have hb := neS einto
    have hb2 := beS einto
    have hd := Lib.hid (show decide ((⟨pname, pkind, pinto, pslot, pmade, psince, pgone, pprops, pkl, pkh, pcl, pch, pdl, pdh⟩ : Pa) = ⟨pname, pkind, qinto, qslot, qmade, qsince, qgone, qprops, qkl, qkh, qcl, qch, qdl, qdh⟩) = false from decide_eq_false fun e => einto (by injection e))
    clear einto
    rw [hd.out]
    go_enter Tryz.func9, Tryz.ntmps9
    go_wp2_with fail
    all_goals
      go_ret
      exact ⟨rfl, ((Below.refl _ _).alloc (Nat.le_refl _) _).alloc (by simp) _⟩
  obtain rfl := Classical.not_not.1 einto
  have rinto := eqS pinto
  by_cases eslot : ¬ pslot = qslot
  · have hb := neS eslot
    have hb2 := beS eslot
    have hd := Lib.hid (show decide ((⟨pname, pkind, pinto, pslot, pmade, psince, pgone, pprops, pkl, pkh, pcl, pch, pdl, pdh⟩ : Pa) = ⟨pname, pkind, pinto, qslot, qmade, qsince, qgone, qprops, qkl, qkh, qcl, qch, qdl, qdh⟩) = false from decide_eq_false fun e => eslot (by injection e))
    clear eslot
    rw [hd.out]
    go_enter Tryz.func9, Tryz.ntmps9
    go_wp2_with fail
    all_goals
      go_ret
      exact ⟨rfl, ((Below.refl _ _).alloc (Nat.le_refl _) _).alloc (by simp) _⟩
  obtain rfl := Classical.not_not.1 eslot
  have rslot := eqS pslot
  by_cases emade : ¬ pmade = qmade
  · have hb := neI emade
    have hb2 := neI emade
    have hd := Lib.hid (show decide ((⟨pname, pkind, pinto, pslot, pmade, psince, pgone, pprops, pkl, pkh, pcl, pch, pdl, pdh⟩ : Pa) = ⟨pname, pkind, pinto, pslot, qmade, qsince, qgone, qprops, qkl, qkh, qcl, qch, qdl, qdh⟩) = false from decide_eq_false fun e => emade (by injection e))
    clear emade
    rw [hd.out]
    go_enter Tryz.func9, Tryz.ntmps9
    go_wp2_with fail
    all_goals
      go_ret
      exact ⟨rfl, ((Below.refl _ _).alloc (Nat.le_refl _) _).alloc (by simp) _⟩
  obtain rfl := Classical.not_not.1 emade
  by_cases esince : ¬ psince = qsince
  · have hb := neI esince
    have hb2 := neI esince
    have hd := Lib.hid (show decide ((⟨pname, pkind, pinto, pslot, pmade, psince, pgone, pprops, pkl, pkh, pcl, pch, pdl, pdh⟩ : Pa) = ⟨pname, pkind, pinto, pslot, pmade, qsince, qgone, qprops, qkl, qkh, qcl, qch, qdl, qdh⟩) = false from decide_eq_false fun e => esince (by injection e))
    clear esince
    rw [hd.out]
    go_enter Tryz.func9, Tryz.ntmps9
    go_wp2_with fail
    all_goals
      go_ret
      exact ⟨rfl, ((Below.refl _ _).alloc (Nat.le_refl _) _).alloc (by simp) _⟩
  obtain rfl := Classical.not_not.1 esince
  by_cases egone : ¬ pgone = qgone
  · have hb := neB egone
    have hb2 := beB egone
    have hd := Lib.hid (show decide ((⟨pname, pkind, pinto, pslot, pmade, psince, pgone, pprops, pkl, pkh, pcl, pch, pdl, pdh⟩ : Pa) = ⟨pname, pkind, pinto, pslot, pmade, psince, qgone, qprops, qkl, qkh, qcl, qch, qdl, qdh⟩) = false from decide_eq_false fun e => egone (by injection e))
    clear egone
    rw [hd.out]
    go_enter Tryz.func9, Tryz.ntmps9
    go_wp2_with fail
    all_goals
      go_ret
      exact ⟨rfl, ((Below.refl _ _).alloc (Nat.le_refl _) _).alloc (by simp) _⟩
  obtain rfl := Classical.not_not.1 egone
  by_cases elife : ¬ (pkl = qkl ∧ pkh = qkh ∧ pcl = qcl ∧ pch = qch ∧ pdl = qdl ∧ pdh = qdh)
  · have hd := Lib.hid (show decide ((⟨pname, pkind, pinto, pslot, pmade, psince, pgone, pprops, pkl, pkh, pcl, pch, pdl, pdh⟩ : Pa) = ⟨pname, pkind, pinto, pslot, pmade, psince, pgone, qprops, qkl, qkh, qcl, qch, qdl, qdh⟩) = false from decide_eq_false fun e => elife (by injection e; exact ⟨by assumption, by assumption, by assumption, by assumption, by assumption, by assumption⟩))
    rw [hd.out]
    have HL := Lib.hid elife
    clear elife
    go_enter Tryz.func9, Tryz.ntmps9
    go_wp2_with fail
    all_goals first | (go_ret; exact ⟨rfl, ((Below.refl _ _).alloc (Nat.le_refl _) _).alloc (by simp) _⟩) | (exfalso; exact HL.out ⟨by assumption, by assumption, by assumption, by assumption, by assumption, by assumption⟩)
  obtain ⟨rfl, rfl, rfl, rfl, rfl, rfl⟩ := Classical.not_not.1 elife
  have hpp : decide ((⟨pname, pkind, pinto, pslot, pmade, psince, pgone, pprops, pkl, pkh, pcl, pch, pdl, pdh⟩ : Pa) = ⟨pname, pkind, pinto, pslot, pmade, psince, pgone, qprops, pkl, pkh, pcl, pch, pdl, pdh⟩) = decide (pprops = qprops) := by
    rw [decide_eq_decide]; exact ⟨fun e => by injection e, fun e => by rw [e]⟩
  rw [hpp]
  clear hpp
  by_cases hlen : ¬ pprops.length = qprops.length
  · have hb : ((pprops.length : Int) != (qprops.length : Int)) = true := by rw [bne_iff_ne]; omega
    have hd := Lib.hid (show decide (pprops = qprops) = false from decide_eq_false fun e => hlen (by rw [e]))
    rw [hd.out]
    clear hlen
    go_enter Tryz.func9, Tryz.ntmps9
    go_wp2_with fail
    go_ret
    exact ⟨rfl, HB.out⟩
  have HLN := Lib.hid (Classical.not_not.1 hlen)
  have hb : ((pprops.length : Int) != (qprops.length : Int)) = false := by rw [bne_eq_false_iff_eq]; have := Classical.not_not.1 hlen; omega
  clear hlen
  have k1 := (Has.new w 33 #[.string pname, .string pkind, .string pinto, .string pslot, .int .i64 pmade, .int .i64 psince, .bool pgone, .slice A1 pprops.length c1, .int .i64 pkl, .int .i64 pkh, .int .i64 pcl, .int .i64 pch, .int .i64 pdl, .int .i64 pdh]).alloc (.cells #[.string pname, .string pkind, .string pinto, .string pslot, .int .i64 pmade, .int .i64 psince, .bool pgone, .slice A2 qprops.length c2, .int .i64 pkl, .int .i64 pkh, .int .i64 pcl, .int .i64 pch, .int .i64 pdl, .int .i64 pdh] 33)
  have k2 := Has.new (w.alloc (.cells #[.string pname, .string pkind, .string pinto, .string pslot, .int .i64 pmade, .int .i64 psince, .bool pgone, .slice A1 pprops.length c1, .int .i64 pkl, .int .i64 pkh, .int .i64 pcl, .int .i64 pch, .int .i64 pdl, .int .i64 pdh] 33)) 33 #[.string pname, .string pkind, .string pinto, .string pslot, .int .i64 pmade, .int .i64 psince, .bool pgone, .slice A2 qprops.length c2, .int .i64 pkl, .int .i64 pkh, .int .i64 pcl, .int .i64 pch, .int .i64 pdl, .int .i64 pdh]
  simp only [World.size_alloc] at k2
  have K1 := Lib.hid k1
  have K2 := Lib.hid k2
  clear k1 k2
  go_enter Tryz.func9, Tryz.ntmps9
  go_wp2_with fail
  go_loopw [5] (fun i wr => ∃ k : Nat, k ≤ pprops.length ∧ i = .int .i64 k ∧ Hid (∀ j, j < k → pprops.getD j noPr = qprops.getD j noPr) ∧ Hid (Has wr w.heap.size 33 #[.string pname, .string pkind, .string pinto, .string pslot, .int .i64 pmade, .int .i64 psince, .bool pgone, .slice A1 pprops.length c1, .int .i64 pkl, .int .i64 pkh, .int .i64 pcl, .int .i64 pch, .int .i64 pdl, .int .i64 pdh]) ∧ Hid (Has wr (w.heap.size + 1) 33 #[.string pname, .string pkind, .string pinto, .string pslot, .int .i64 pmade, .int .i64 psince, .bool pgone, .slice A2 qprops.length c2, .int .i64 pkl, .int .i64 pkh, .int .i64 pcl, .int .i64 pch, .int .i64 pdl, .int .i64 pdh]) ∧ Hid (Below w.heap.size w wr)) (fun i _ => pprops.length - (intOf i).toNat)
  case atStart => exact ⟨0, Nat.zero_le _, rfl, fun j hj => absurd hj (by omega), K1.out, K2.out, HB.out⟩
  case round =>
    obtain ⟨k, hk, rfl, HT, HK1, HK2, HBB⟩ := hrel
    obtain ⟨x1, x2⟩ := HK1.out.facts
    obtain ⟨x3, x4⟩ := HK2.out.facts
    by_cases hlt : k < pprops.length
    · have hlq : k < qprops.length := by rw [← HLN.out]; exact hlt
      obtain ⟨b1, o1, c', cs', he, _, rfl, _, hr1⟩ := H1.out.get hlt noPr
      injection he with e1 e2 e3
      subst e1; subst e3
      obtain ⟨b2, o2, c'', cs'', he, _, rfl, _, hr2⟩ := H2.out.get hlq noPr
      injection he with e1 e2 e3
      subst e1; subst e3
      have hki : (k : Int) < (pprops.length : Int) := by omega
      have hkq : (k : Int) < (qprops.length : Int) := by omega
      have hd := Lib.hid (fun h : pprops.getD k noPr ≠ qprops.getD k noPr => (decide_eq_false fun e => h (by rw [e]) : decide (pprops = qprops) = false))
      have hs := Lib.hid (fun h : pprops.getD k noPr = qprops.getD k noPr => fun j (hj : j < k + 1) => (by
        rcases Nat.lt_or_ge j k with h1 | h1
        · exact HT.out j h1
        · obtain rfl : j = k := by omega
          exact h : pprops.getD j noPr = qprops.getD j noPr))
      have g1 := range_later hr1 HBB.out
      have g2 := range_later hr2 HBB.out
      clear hr1 hr2
      generalize pprops.getD k noPr = x at *
      generalize qprops.getD k noPr = y at *
      obtain ⟨xk, xv⟩ := x
      obtain ⟨yk, yv⟩ := y
      have y0 : wr.cell? ⟨b1, o1 + k * 2, none⟩ = some (.string xk) := g1 0 _ rfl
      have y1 : wr.cell? ⟨b1, o1 + k * 2 + 1, none⟩ = some (.string xv) := g1 1 _ rfl
      have y2 : wr.cell? ⟨b2, o2 + k * 2, none⟩ = some (.string yk) := g2 0 _ rfl
      have y3 : wr.cell? ⟨b2, o2 + k * 2 + 1, none⟩ = some (.string yv) := g2 1 _ rfl
      clear g1 g2
      cases ek : (xk.toList == yk.toList)
      · have hne := Lib.hid (hd.out (by rw [beq_bytes] at ek; have := of_decide_eq_false ek; simp [this]))
        go_wp2_with fail
        go_quiet (fail)
        go_wp2_with fail
        go_ret
        exact ⟨ret_bool (by rw [hne.out]), below_drewN HBB.out _⟩
      · cases ev : (xv.toList == yv.toList)
        · have hne := Lib.hid (hd.out (by rw [beq_bytes] at ev; have := of_decide_eq_false ev; simp [this]))
          go_wp2_with fail
          go_quiet (fail)
          go_wp2_with fail
          go_ret
          exact ⟨ret_bool (by rw [hne.out]), below_drewN HBB.out _⟩
        · have hst := Lib.hid (hs.out (by rw [beq_bytes] at ek ev; rw [of_decide_eq_true ek, of_decide_eq_true ev]))
          go_wp2_with fail
          go_quiet (fail)
          go_wp2_with fail
          go_roundw
          case rel => exact ⟨k + 1, by omega, by go_num, hst.out, HK1.out.drewN _, HK2.out.drewN _, below_drewN HBB.out _⟩
          case measure => simp [intOf]; omega
    · obtain rfl : k = pprops.length := by omega
      have hfin := Lib.hid (decide_eq_true (Pr_ext HLN.out HT.out) : decide (pprops = qprops) = true)
      go_wp2_with fail
      go_ret
      exact ⟨ret_bool (by rw [hfin.out]), HBB.out⟩
end Go.Proofs.YtccnocgmikmonaaGreatDoor
namespace Go.Proofs.YtccnocgmikmonaaGreatDoor
open Go Go.RowKit
theorem big_max {n : Nat} (h : n ≤ big) : n ≤ maxLen := by unfold big at h; unfold maxLen; omega
theorem part_facts {w : World} {b o : Nat} {x0 x1 x2 x3 x4 x5 x6 x7 x8 x9 x10 x11 x12 x13 : Value} (h : w.rangeAt b o [x0, x1, x2, x3, x4, x5, x6, x7, x8, x9, x10, x11, x12, x13]) :
    w.cell? ⟨b, o, none⟩ = some x0 ∧ w.cell? ⟨b, o + 1, none⟩ = some x1 ∧ w.cell? ⟨b, o + 2, none⟩ = some x2 ∧ w.cell? ⟨b, o + 3, none⟩ = some x3 ∧ w.cell? ⟨b, o + 4, none⟩ = some x4 ∧ w.cell? ⟨b, o + 5, none⟩ = some x5 ∧ w.cell? ⟨b, o + 6, none⟩ = some x6 ∧ w.cell? ⟨b, o + 7, none⟩ = some x7 ∧ w.cell? ⟨b, o + 8, none⟩ = some x8 ∧ w.cell? ⟨b, o + 9, none⟩ = some x9 ∧ w.cell? ⟨b, o + 10, none⟩ = some x10 ∧ w.cell? ⟨b, o + 11, none⟩ = some x11 ∧ w.cell? ⟨b, o + 12, none⟩ = some x12 ∧ w.cell? ⟨b, o + 13, none⟩ = some x13 :=
  ⟨h 0 _ rfl, h 1 _ rfl, h 2 _ rfl, h 3 _ rfl, h 4 _ rfl, h 5 _ rfl, h 6 _ rfl, h 7 _ rfl, h 8 _ rfl, h 9 _ rfl, h 10 _ rfl, h 11 _ rfl, h 12 _ rfl, h 13 _ rfl⟩
end Go.Proofs.YtccnocgmikmonaaGreatDoor
namespace Go.Proofs.YtccnocgmikmonaaGreatDoor
open Go Go.RowKit
theorem Pa_ext {l m : List Pa} (hl : l.length = m.length) (h : ∀ j, j < l.length → l.getD j noPa = m.getD j noPa) : l = m := by
  apply List.ext_getElem?
  intro j
  by_cases hj : j < l.length
  · have := h j hj
    rw [List.getD_eq_getElem?_getD, List.getD_eq_getElem?_getD, List.getElem?_eq_getElem hj, List.getElem?_eq_getElem (by omega)] at this
    rw [List.getElem?_eq_getElem hj, List.getElem?_eq_getElem (by omega)]
    simpa using this
  · rw [List.getElem?_eq_none (by omega), List.getElem?_eq_none (by omega)]
set_option maxRecDepth 100000 in
set_option maxHeartbeats 4000000 in
theorem same10_any (w0 : World) (v1 v2 : Value) (l m : List Pa) (w : World) (hb0 : Below w0.heap.size w0 w) (h1 : Sta w0 v1 l) (h2 : Sta w0 v2 m) (hl1 : l.length ≤ 1000000) (_hl2 : m.length ≤ 1000000) (hs1 : ∀ p ∈ l, p.props.length ≤ 100000) (hs2 : ∀ p ∈ m, p.props.length ≤ 100000) :
    Calls Tryz.prog 16 #[.agg #[v1], .agg #[v2]] w fun e w' => e = .returned (.bool (decide (l = m))) ∧ Below w.heap.size w w' := by
  obtain ⟨A1, c1, rfl, hn1⟩ := Rd.form h1
  obtain ⟨A2, c2, rfl, hn2⟩ := Rd.form h2
  have H1 := Lib.hid h1
  have H2 := Lib.hid h2
  have HB0 := Lib.hid hb0
  have HS1 := Lib.hid hs1
  have HS2 := Lib.hid hs2
  have k1 := (Has.new w 24 #[.slice A1 l.length c1]).alloc (.cells #[.slice A2 m.length c2] 24)
  have k2 := Has.new (w.alloc (.cells #[.slice A1 l.length c1] 24)) 24 #[.slice A2 m.length c2]
  simp only [World.size_alloc] at k2
  have K1 := Lib.hid k1
  have K2 := Lib.hid k2
  have HB := Lib.hid (((Below.refl w.heap.size w).alloc (Nat.le_refl _) (.cells #[.slice A1 l.length c1] 24)).alloc (by simp) (.cells #[.slice A2 m.length c2] 24))
  clear h1 h2 hb0 hs1 hs2 k1 k2
  by_cases hlen : ¬ l.length = m.length
  · have hb : ((l.length : Int) != (m.length : Int)) = true := by rw [bne_iff_ne]; omega
    have hd := Lib.hid (show decide (l = m) = false from decide_eq_false fun e => hlen (by rw [e]))
    rw [hd.out]
    clear hlen
    go_enter Tryz.func16, Tryz.ntmps16
    go_wp2_with fail
    go_ret
    exact ⟨rfl, HB.out⟩
  have HLN := Lib.hid (Classical.not_not.1 hlen)
  have hb : ((l.length : Int) != (m.length : Int)) = false := by rw [bne_eq_false_iff_eq]; have := Classical.not_not.1 hlen; omega
  clear hlen
  go_enter Tryz.func16, Tryz.ntmps16
  go_wp2_with fail
  go_loopw [5] (fun i wr => ∃ k : Nat, k ≤ l.length ∧ i = .int .i64 k ∧ Hid (∀ j, j < k → l.getD j noPa = m.getD j noPa) ∧ Hid (Has wr w.heap.size 24 #[.slice A1 l.length c1]) ∧ Hid (Has wr (w.heap.size + 1) 24 #[.slice A2 m.length c2]) ∧ Hid (Below w.heap.size w wr)) (fun i _ => l.length - (intOf i).toNat)
  case atStart => exact ⟨0, Nat.zero_le _, rfl, fun j hj => absurd hj (by omega), K1.out, K2.out, HB.out⟩
  case round =>
    obtain ⟨k, hk, rfl, HT, HK1, HK2, HBB⟩ := hrel
    by_cases hlt : k < l.length
    · have hlq : k < m.length := by rw [← HLN.out]; exact hlt
      obtain ⟨b1, o1, c', cs', he, _, ⟨sv1, rfl, hp1⟩, _, hr1⟩ := H1.out.get hlt noPa
      injection he with e1 e2 e3
      subst e1; subst e3
      obtain ⟨b2, o2, c'', cs'', he, _, ⟨sv2, rfl, hp2⟩, _, hr2⟩ := H2.out.get hlq noPa
      injection he with e1 e2 e3
      subst e1; subst e3
      obtain ⟨A3, c3, rfl, hn3⟩ := hp1.form
      obtain ⟨A4, c4, rfl, hn4⟩ := hp2.form
      have hki : (k : Int) < (l.length : Int) := by omega
      have hkq : (k : Int) < (m.length : Int) := by omega
      have hd := Lib.hid (fun h : l.getD k noPa ≠ m.getD k noPa => (decide_eq_false fun e => h (by rw [e]) : decide (l = m) = false))
      have hs := Lib.hid (fun h : l.getD k noPa = m.getD k noPa => fun j (hj : j < k + 1) => (by
        rcases Nat.lt_or_ge j k with h1 | h1
        · exact HT.out j h1
        · obtain rfl : j = k := by omega
          exact h : l.getD j noPa = m.getD j noPa))
      have hB0 := HB0.out.trans (HBB.out.mono HB0.out.size)
      have g1 := range_later hr1 hB0
      have g2 := range_later hr2 hB0
      have HP1 := Lib.hid (hp1.below PrR.stays hB0)
      have HP2 := Lib.hid (hp2.below PrR.stays hB0)
      have hl3 := HS1.out _ (getD_mem l k noPa hlt)
      have hl4 := HS2.out _ (getD_mem m k noPa hlq)
      have x1 : wr.cell? ⟨w.heap.size, 0, none⟩ = some (.slice (some ⟨b1, o1, none⟩) l.length c1) := HK1.out.facts.1 0
      have x2 : wr.cell? ⟨w.heap.size + 1, 0, none⟩ = some (.slice (some ⟨b2, o2, none⟩) m.length c2) := HK2.out.facts.1 0
      clear hr1 hr2 hp1 hp2 hB0
      generalize l.getD k noPa = x at *
      generalize m.getD k noPa = y at *
      obtain ⟨pname, pkind, pinto, pslot, pmade, psince, pgone, pprops, pkl, pkh, pcl, pch, pdl, pdh⟩ := x
      obtain ⟨qname, qkind, qinto, qslot, qmade, qsince, qgone, qprops, qkl, qkh, qcl, qch, qdl, qdh⟩ := y
      unfold Pa.cells at g1 g2
      dsimp only at g1 g2 hn3 hn4 HP1 HP2 hl3 hl4
      obtain ⟨y0, y1, y2, y3, y4, y5, y6, y7, y8, y9, y10, y11, y12, y13⟩ := part_facts g1
      obtain ⟨z0, z1, z2, z3, z4, z5, z6, z7, z8, z9, z10, z11, z12, z13⟩ := part_facts g2
      clear g1 g2 hn3 hn4
      have hbb : Below wr.heap.size wr wr := Below.refl _ _
      have HSP := Lib.hid (fun W (h : Below wr.heap.size wr W) => samePart_any pname pkind pinto pslot pmade psince pgone pprops pkl pkh pcl pch pdl pdh qname qkind qinto qslot qmade qsince qgone qprops qkl qkh qcl qch qdl qdh A3 A4 c3 c4 W (HP1.out.below PrR.stays h) (HP2.out.below PrR.stays h) hl3 hl4)
      cases hE : decide ((⟨pname, pkind, pinto, pslot, pmade, psince, pgone, pprops, pkl, pkh, pcl, pch, pdl, pdh⟩ : Pa) = ⟨qname, qkind, qinto, qslot, qmade, qsince, qgone, qprops, qkl, qkh, qcl, qch, qdl, qdh⟩)
      all_goals
        have hE2 := Lib.hid hE
        clear hE
        go_wp2_with fail
        go_region_held3 (fun w' => Below wr.heap.size wr w' ∧ w'.cell? ⟨w.heap.size, 0, none⟩ = some (.slice (some ⟨b1, o1, none⟩) l.length c1) ∧ w'.cell? ⟨w.heap.size + 1, 0, none⟩ = some (.slice (some ⟨b2, o2, none⟩) m.length c2) ∧ w'.cell? ⟨b1, o1 + k * 14, none⟩ = some (.string pname) ∧ w'.cell? ⟨b1, o1 + k * 14 + 1, none⟩ = some (.string pkind) ∧ w'.cell? ⟨b1, o1 + k * 14 + 2, none⟩ = some (.string pinto) ∧ w'.cell? ⟨b1, o1 + k * 14 + 3, none⟩ = some (.string pslot) ∧ w'.cell? ⟨b1, o1 + k * 14 + 4, none⟩ = some (.int .i64 pmade) ∧ w'.cell? ⟨b1, o1 + k * 14 + 5, none⟩ = some (.int .i64 psince) ∧ w'.cell? ⟨b1, o1 + k * 14 + 6, none⟩ = some (.bool pgone) ∧ w'.cell? ⟨b1, o1 + k * 14 + 7, none⟩ = some (.slice A3 pprops.length c3) ∧ w'.cell? ⟨b1, o1 + k * 14 + 8, none⟩ = some (.int .i64 pkl) ∧ w'.cell? ⟨b1, o1 + k * 14 + 9, none⟩ = some (.int .i64 pkh) ∧ w'.cell? ⟨b1, o1 + k * 14 + 10, none⟩ = some (.int .i64 pcl) ∧ w'.cell? ⟨b1, o1 + k * 14 + 11, none⟩ = some (.int .i64 pch) ∧ w'.cell? ⟨b1, o1 + k * 14 + 12, none⟩ = some (.int .i64 pdl) ∧ w'.cell? ⟨b1, o1 + k * 14 + 13, none⟩ = some (.int .i64 pdh) ∧ w'.cell? ⟨b2, o2 + k * 14, none⟩ = some (.string qname) ∧ w'.cell? ⟨b2, o2 + k * 14 + 1, none⟩ = some (.string qkind) ∧ w'.cell? ⟨b2, o2 + k * 14 + 2, none⟩ = some (.string qinto) ∧ w'.cell? ⟨b2, o2 + k * 14 + 3, none⟩ = some (.string qslot) ∧ w'.cell? ⟨b2, o2 + k * 14 + 4, none⟩ = some (.int .i64 qmade) ∧ w'.cell? ⟨b2, o2 + k * 14 + 5, none⟩ = some (.int .i64 qsince) ∧ w'.cell? ⟨b2, o2 + k * 14 + 6, none⟩ = some (.bool qgone) ∧ w'.cell? ⟨b2, o2 + k * 14 + 7, none⟩ = some (.slice A4 qprops.length c4) ∧ w'.cell? ⟨b2, o2 + k * 14 + 8, none⟩ = some (.int .i64 qkl) ∧ w'.cell? ⟨b2, o2 + k * 14 + 9, none⟩ = some (.int .i64 qkh) ∧ w'.cell? ⟨b2, o2 + k * 14 + 10, none⟩ = some (.int .i64 qcl) ∧ w'.cell? ⟨b2, o2 + k * 14 + 11, none⟩ = some (.int .i64 qch) ∧ w'.cell? ⟨b2, o2 + k * 14 + 12, none⟩ = some (.int .i64 qdl) ∧ w'.cell? ⟨b2, o2 + k * 14 + 13, none⟩ = some (.int .i64 qdh))
          (refine ⟨?_, ?_, ?_, ?_, ?_, ?_, ?_, ?_, ?_, ?_, ?_, ?_, ?_, ?_, ?_, ?_, ?_, ?_, ?_, ?_, ?_, ?_, ?_, ?_, ?_, ?_, ?_, ?_, ?_, ?_, ?_⟩ <;> first | assumption | exact hbb.drew | exact hbw | exact hbw.drew | exact cell_later hbb.drew (by assumption) | exact cell_later hbw (by assumption) | exact cell_later hbw.drew (by assumption))
          ((go_at_call 9; refine (HSP.out _ (by first | exact hbb | exact hbb.drew)).mono ?_; rintro e w5 ⟨rfl, hb5⟩; rw [hE2.out]; have hbw : Below wr.heap.size wr w5 := (by first | exact hb5 | exact hbb.drew.trans hb5); clear hb5))
        rename_i hHeld
        have hBW := hHeld.1
        clear hHeld
      · have hne := Lib.hid (hd.out (of_decide_eq_false hE2.out))
        go_wp2_with fail
        go_ret
        exact ⟨ret_bool (by rw [hne.out]), HBB.out.trans (hBW.mono HBB.out.size)⟩
      · have hst := Lib.hid (hs.out (of_decide_eq_true hE2.out))
        go_wp2_with fail
        go_roundw
        case rel => exact ⟨k + 1, by omega, by go_num, hst.out, HK1.out.below hBW HK1.out.lt, HK2.out.below hBW HK2.out.lt, HBB.out.trans (hBW.mono HBB.out.size)⟩
        case measure => simp [intOf]; omega
    · obtain rfl : k = l.length := by omega
      obtain ⟨x1, x2⟩ := HK1.out.facts
      have hfin := Lib.hid (decide_eq_true (Pa_ext HLN.out HT.out) : decide (l = m) = true)
      go_wp2_with fail
      go_ret
      exact ⟨ret_bool (by rw [hfin.out]), HBB.out⟩
end Go.Proofs.YtccnocgmikmonaaGreatDoor
namespace Go.Proofs.YtccnocgmikmonaaGreatDoor
open Go Go.RowKit
/-- A number mixed. -/
def mixN (x : Nat) : Nat :=
  let a := x * 6364136223846793005 % 18446744073709551616
  let b := a ^^^ a / 8589934592
  let c := b * 2685821657736338717 % 18446744073709551616
  c ^^^ c / 134217728
theorem xor_lt {a b : Nat} (ha : a < 18446744073709551616) (hb : b < 18446744073709551616) : a ^^^ b < 18446744073709551616 :=
  Nat.xor_lt_two_pow (n := 64) ha hb
theorem mixN_lt (x : Nat) : mixN x < 18446744073709551616 := by
  unfold mixN
  exact xor_lt (Nat.mod_lt _ (by decide)) (Nat.lt_of_le_of_lt (Nat.div_le_self _ _) (Nat.mod_lt _ (by decide)))
set_option maxRecDepth 100000 in
set_option maxHeartbeats 1000000 in
theorem mix_any (x : Nat) (hx : x < 18446744073709551616) (w : World) :
    Calls Tryz.prog 47 #[.int .u64 x] w fun e w' => e = .returned (.int .u64 (mixN x)) ∧ w = w' := by
  have h1 := Lib.hid (Tryz.bits_Mul64 x 6364136223846793005 hx (by decide))
  obtain ⟨a, ha⟩ : ∃ a, a = x * 6364136223846793005 % 18446744073709551616 := ⟨_, rfl⟩
  have hal : a < 18446744073709551616 := by rw [ha]; exact Nat.mod_lt _ (by decide)
  rw [← ha, show ((6364136223846793005 : Nat) : Int) = 6364136223846793005 from rfl] at h1
  have hb : bits .xor .u64 (a : Int) ((a : Int) / 8589934592) = ((a ^^^ a / 8589934592 : Nat) : Int) := xorShift_u64 a 8589934592 hal
  obtain ⟨b, hb0⟩ : ∃ b, b = a ^^^ a / 8589934592 := ⟨_, rfl⟩
  have hbl : b < 18446744073709551616 := by rw [hb0]; exact xor_lt hal (Nat.lt_of_le_of_lt (Nat.div_le_self _ _) hal)
  rw [← hb0] at hb
  have h2 := Lib.hid (Tryz.bits_Mul64 b 2685821657736338717 hbl (by decide))
  obtain ⟨c, hc⟩ : ∃ c, c = b * 2685821657736338717 % 18446744073709551616 := ⟨_, rfl⟩
  have hcl : c < 18446744073709551616 := by rw [hc]; exact Nat.mod_lt _ (by decide)
  rw [← hc, show ((2685821657736338717 : Nat) : Int) = 2685821657736338717 from rfl] at h2
  have hd : bits .xor .u64 (c : Int) ((c : Int) / 134217728) = ((c ^^^ c / 134217728 : Nat) : Int) := xorShift_u64 c 134217728 hcl
  have HM := Lib.hid (show mixN x = c ^^^ c / 134217728 by unfold mixN; rw [hc, hb0, ha])
  rw [← HM.out] at hd
  clear ha hb0 hc
  go_enter Tryz.func47, Tryz.ntmps47
  go_wp2_with (first | (go_at_call 82; refine (h1.out _).mono ?_; clear h1; rintro e w1 ⟨rfl, rfl⟩) | (go_at_call 82; refine (h2.out _).mono ?_; clear h2; rintro e w2 ⟨rfl, rfl⟩))
  go_ret
  exact ⟨rfl, rfl⟩
/-- The digit that stands for a number. -/
def hexN (j : Nat) : Nat := if j < 10 then 48 + j else 87 + j
def hexTo (k : Nat) : Array Value := row 16 fun j => .int .u8 (if j < k then (hexN j : Int) else 0)
def hexAll : Array Value := row 16 fun j => .int .u8 (hexN j : Int)
def zer16 : Array Value := row 16 fun _ => .int .u8 0
theorem zer16_eq : zer16 = #[.int .u8 0, .int .u8 0, .int .u8 0, .int .u8 0, .int .u8 0, .int .u8 0, .int .u8 0, .int .u8 0, .int .u8 0, .int .u8 0, .int .u8 0, .int .u8 0, .int .u8 0, .int .u8 0, .int .u8 0, .int .u8 0] := by kernel_rfl
theorem hexTo_zero : hexTo 0 = zer16 := row_congr fun i _ => by simp
theorem hexTo_all : hexTo 16 = hexAll := row_congr fun i hi => by rw [if_pos hi]
theorem hexTo_step (k : Nat) (c : Int) (hc : c = hexN k) : row 16 (fun j => if j = k then Value.int .u8 c else .int .u8 (if j < k then (hexN j : Int) else 0)) = hexTo (k + 1) := by
  subst hc
  refine row_congr fun i _ => ?_
  by_cases e : i = k
  · subst e; simp
  · rw [if_neg e]
    by_cases h3 : i < k
    · rw [if_pos h3, if_pos (by omega)]
    · rw [if_neg h3, if_neg (by omega)]
theorem hexAll_one : (hexAll.all fun x => x.oneCell') = true := row_one fun _ => rfl
theorem hexAll_info : (Tryz.prog.info? 91).map (·.size) = some hexAll.size := by rw [hexAll, row_size]; kernel_rfl
theorem hexAll_zero : zer16.size = hexAll.size := by rw [hexAll, zer16, row_size, row_size]
set_option maxRecDepth 100000 in
set_option maxHeartbeats 2000000 in
theorem digits_any (w : World) : Calls Tryz.prog 48 #[] w fun e w' => e = .returned (.agg hexAll) ∧ Below w.heap.size w w' := by
  go_enter Tryz.func48, Tryz.ntmps48
  go_wp2_with fail
  go_loopw [3] (fun i wr => ∃ k : Nat, k ≤ 16 ∧ i = .int .i64 k ∧ Has wr (w.heap.size + 1) 91 (hexTo k) ∧ Has wr w.heap.size 91 zer16 ∧ Below w.heap.size w wr) (fun i _ => 16 - (intOf i).toNat)
  case atStart =>
    refine ⟨0, by omega, rfl, ?_, ?_, ?_⟩
    · rw [hexTo_zero, zer16_eq]
      have := Has.new (w.alloc (.cells #[.int .u8 0, .int .u8 0, .int .u8 0, .int .u8 0, .int .u8 0, .int .u8 0, .int .u8 0, .int .u8 0, .int .u8 0, .int .u8 0, .int .u8 0, .int .u8 0, .int .u8 0, .int .u8 0, .int .u8 0, .int .u8 0] 91)) 91 #[.int .u8 0, .int .u8 0, .int .u8 0, .int .u8 0, .int .u8 0, .int .u8 0, .int .u8 0, .int .u8 0, .int .u8 0, .int .u8 0, .int .u8 0, .int .u8 0, .int .u8 0, .int .u8 0, .int .u8 0, .int .u8 0]
      simpa using this
    · rw [zer16_eq]
      exact (Has.new w 91 _).alloc _
    · exact ((Below.refl _ _).alloc (Nat.le_refl _) _).alloc (by simp) _
  case round =>
    obtain ⟨k, hk, rfl, hO, hR, hB⟩ := hrel
    by_cases hlt : k < 16
    · have c0 : wr.cell? ⟨w.heap.size + 1, k, none⟩ = some (.int .u8 0) := by
        have := hO.rcell k hlt
        simpa using this
      have f0 := hO.free k
      have HO := Lib.hid hO
      have HR := Lib.hid hR
      have HB := Lib.hid hB
      clear hO hR hB
      have fin : ∀ c : Int, c = hexN k → (Has (wr.setCell ⟨w.heap.size + 1, k, none⟩ (.int .u8 c)) (w.heap.size + 1) 91 (hexTo (k + 1)) ∧ Has (wr.setCell ⟨w.heap.size + 1, k, none⟩ (.int .u8 c)) w.heap.size 91 zer16 ∧ Below w.heap.size w (wr.setCell ⟨w.heap.size + 1, k, none⟩ (.int .u8 c))) := by
        intro c hc
        refine ⟨?_, HR.out.far _ (by simp) _, HB.out.setCell (by simp) _⟩
        have := HO.out.rput k (.int .u8 c)
        rwa [hexTo_step k c hc] at this
      have FIN := Lib.hid fin
      have fin2 : ∀ c d : Int, d = hexN k → (Has ((wr.setCell ⟨w.heap.size + 1, k, none⟩ (.int .u8 c)).setCell ⟨w.heap.size + 1, k, none⟩ (.int .u8 d)) (w.heap.size + 1) 91 (hexTo (k + 1)) ∧ Has ((wr.setCell ⟨w.heap.size + 1, k, none⟩ (.int .u8 c)).setCell ⟨w.heap.size + 1, k, none⟩ (.int .u8 d)) w.heap.size 91 zer16 ∧ Below w.heap.size w ((wr.setCell ⟨w.heap.size + 1, k, none⟩ (.int .u8 c)).setCell ⟨w.heap.size + 1, k, none⟩ (.int .u8 d))) := by
        intro c d hd
        refine ⟨?_, (HR.out.far _ (by simp) _).far _ (by simp) _, (HB.out.setCell (by simp) _).setCell (by simp) _⟩
        have := (HO.out.rput k (.int .u8 c)).rput k (.int .u8 d)
        rw [← hexTo_step k d hd]
        rwa [show row 16 (fun j => if j = k then Value.int .u8 d else if j = k then Value.int .u8 c else .int .u8 (if j < k then (hexN j : Int) else 0)) = row 16 (fun j => if j = k then Value.int .u8 d else .int .u8 (if j < k then (hexN j : Int) else 0)) from row_congr fun i _ => by by_cases e : i = k <;> simp [e]] at this
      have FIN2 := Lib.hid fin2
      clear fin fin2
      by_cases h10 : k < 10
      · go_wp2_with fail
        go_roundw
        case rel => exact ⟨k + 1, by omega, by go_num, FIN.out _ (by unfold hexN; rw [if_pos h10]; omega)⟩
        case measure => simp [intOf]; omega
      · go_wp2_with fail
        go_roundw
        case rel => exact ⟨k + 1, by omega, by go_num, FIN2.out _ _ (by unfold hexN; rw [if_neg h10]; omega)⟩
        case measure => simp [intOf]; omega
    · obtain rfl : k = 16 := by omega
      have hO' := hO
      rw [hexTo_all] at hO'
      have hR' := hR
      have hB' := hB
      clear hO hR hB
      go_wp2_with (first
        | ((with_reducible show wpList _ _ _ (Oper.mk (some 20) _ _ _ _ _ :: _) _ _); refine wpList_load_row rfl 91 _ rfl (w.heap.size + 1) rfl 91 hexAll (0, 0) _ hO' Tryz.underlying91 rfl hexAll_info ?_)
        | ((with_reducible show wpList _ _ _ (Oper.mk none (Op.store 91 _ _) _ _ _ _ :: _) _ _); refine wpList_store_row rfl 91 _ _ rfl w.heap.size hexAll rfl rfl 91 zer16 hR' hexAll_info hexAll_zero hexAll_one ?_))
      have hG := setRow_heap _ w.heap.size _ hexAll _ _ hR'
      show bodyPost _ _ _ _ _ _
      refine bodyPost_ret (v := .agg hexAll) ?_ rfl ?_
      · exact results_cell_row Tryz.results48 _ _ w.heap.size 91 hexAll (0, 0) _ rfl hG Tryz.underlying91 rfl hexAll_info
      · exact ⟨rfl, below_setRow hB' (Nat.le_refl _) _⟩
end Go.Proofs.YtccnocgmikmonaaGreatDoor
namespace Go.Proofs.YtccnocgmikmonaaGreatDoor
open Go Go.RowKit
section
variable {P : Program} {w w0 : World} {ops : Array Oper} {rest : List Oper} {o : Oper} {a : Act} {Q : Exit → Act → World → Prop}
/-- A string copied to the head of a row. -/
theorem wpList_copy_str (hgd : o.guard = none) (d s : Operand) (dT sT : TypeId) (ho : o.op = .call { callee := .builtin .copy, args := #[d, s], argTypes := #[dT, sT] })
    (elem : TypeId) (hu : P.underlying dT = some (.slice elem)) (hsz : (P.info? elem).map (·.size) = some 1) (g dLen dCap : Nat) (hd : a.eval d = .slice (some ⟨g, 0, none⟩) dLen dCap)
    (str : ByteArray) (hs : a.eval s = .string str) (cur : Array Value) (t : TypeId) (hg : Has w g t cur) (hle : str.size ≤ dLen) (hfit : str.size ≤ cur.size) (B : Nat) (hb : Below B w0 w) (hBg : B ≤ g)
    (h : ∀ w', Hid (Has w' g t (cur.toList.take 0 ++ Lib.byteCells str.data.toList ++ cur.toList.drop (0 + str.size)).toArray) → Hid (∀ g' t' cs, g' ≠ g → Has w g' t' cs → Has w' g' t' cs) → Below B w0 w' → wpList P ops Q rest (a.put o.dst (goInt str.size)) w') :
    wpList P ops Q (o :: rest) a w := by
  refine wpList_plain hgd fun K hK => ?_
  have hrun := Lib.run_copy_row_string (P := P) w dT sT o.type elem g 0 dLen dCap str cur t hu hsz hg hle (by simpa using hfit)
  unfold Oper.wp
  simp [execOp, ho, resolve, invoke, builtin, hd, hs, hrun, Result.andThen]
  refine hK _ _ (h _ ?_ ?_ ?_)
  · show _ = _
    simpa using setRow_heap w g _ (cur.toList.take 0 ++ Lib.byteCells str.data.toList ++ cur.toList.drop (0 + str.size)).toArray t _ hg
  · intro g' t' cs hne hh
    exact (setRow_other w g g' _ hne).trans hh
  · simpa using below_setRow hb hBg _
end
/-- One byte more. -/
def stepN (n b : Nat) : Nat := n * 256 % 18446744073709551616 ||| b
def blkTo (s : ByteArray) : Nat → Nat
  | 0 => 0
  | k + 1 => stepN (blkTo s k) (byteAt s k)
theorem byteAt_lt (s : ByteArray) (k : Nat) : byteAt s k < 256 := UInt8.toNat_lt _
theorem stepN_lt (n b : Nat) (hb : b < 256) : stepN n b < 18446744073709551616 := Nat.or_lt_two_pow (n := 64) (Nat.mod_lt _ (by decide)) (by omega)
theorem blkTo_lt (s : ByteArray) : ∀ k, blkTo s k < 18446744073709551616
  | 0 => by unfold blkTo; decide
  | k + 1 => stepN_lt _ _ (byteAt_lt s k)
def zer8 : Array Value := row 8 fun _ => .int .u8 0
theorem zer8_eq : zer8 = #[.int .u8 0, .int .u8 0, .int .u8 0, .int .u8 0, .int .u8 0, .int .u8 0, .int .u8 0, .int .u8 0] := by kernel_rfl
def blkRow (s : ByteArray) : Array Value := row 8 fun j => .int .u8 (byteAt s j : Int)
theorem blk_row {s : ByteArray} (h : s.size ≤ 8) : (zer8.toList.take 0 ++ Lib.byteCells s.data.toList ++ zer8.toList.drop (0 + s.size)).toArray = blkRow s := by
  unfold blkRow row zer8 row
  congr 1
  have hs : s.data.toList.length = s.size := rfl
  apply List.ext_getElem?
  intro i
  rw [List.take_zero, List.nil_append, Nat.zero_add]
  by_cases hi : i < s.size
  · rw [List.getElem?_append_left (by rw [Lib.byteCells_length, hs]; exact hi), List.getElem?_map, List.getElem?_range (by omega)]
    unfold Lib.byteCells
    rw [List.getElem?_map, List.getElem?_eq_getElem (by rw [hs]; exact hi)]
    simp [byteAt, List.getD_eq_getElem?_getD]
    rw [Array.getElem?_eq_getElem (show i < s.data.size from hi)]
    rfl
  · have hb : byteAt s i = 0 := by
      unfold byteAt
      rw [List.getD_eq_getElem?_getD, List.getElem?_eq_none (by rw [hs]; omega)]; rfl
    rw [List.getElem?_append_right (by rw [Lib.byteCells_length, hs]; omega), Lib.byteCells_length, hs, List.getElem?_drop, show s.size + (i - s.size) = i by omega, List.getElem?_map, List.getElem?_map]
    by_cases h8 : i < 8
    · rw [List.getElem?_range h8]; simp [hb]
    · rw [List.getElem?_eq_none (by simp; omega)]; simp
theorem or_step (n b : Nat) (hb : b < 256) : bits .or .u64 (IntKind.u64.wrap ((n : Int) * 256)) (b : Int) = ((stepN n b : Nat) : Int) := by
  rw [show IntKind.u64.wrap ((n : Int) * 256) = ((n * 256 % 18446744073709551616 : Nat) : Int) by rw [IntKind.wrap_u64]; omega]
  exact bits_or_u64_nat _ _ (Nat.mod_lt _ (by decide)) (by omega)
set_option maxRecDepth 100000 in
set_option maxHeartbeats 2000000 in
theorem take_any (s : ByteArray) (hs : s.size ≤ 8) (st : Nat) (hst : st < 18446744073709551616) (gs : Nat) (w : World) (h : Has w gs 86 #[.int .u64 st]) :
    Calls Tryz.prog 46 #[.string s, .pointer (some ⟨gs, 0, none⟩)] w fun e w' => e = .returned (.tuple #[]) ∧ Has w' gs 86 #[.int .u64 (mixN (st ^^^ blkTo s 8))] ∧ Below gs w w' := by
  have hgs := h.lt
  have hB := (Below.refl gs w).alloc (Nat.le_of_lt hgs) (.cells #[.int .u8 0, .int .u8 0, .int .u8 0, .int .u8 0, .int .u8 0, .int .u8 0, .int .u8 0, .int .u8 0] 87)
  have hG := h.alloc (.cells #[.int .u8 0, .int .u8 0, .int .u8 0, .int .u8 0, .int .u8 0, .int .u8 0, .int .u8 0, .int .u8 0] 87)
  have hZ := Has.new w 87 #[.int .u8 0, .int .u8 0, .int .u8 0, .int .u8 0, .int .u8 0, .int .u8 0, .int .u8 0, .int .u8 0]
  have HB := Lib.hid hB
  have HG := Lib.hid hG
  have HZ := Lib.hid hZ
  have HMX := Lib.hid (fun W => mix_any (st ^^^ blkTo s 8) (xor_lt hst (blkTo_lt s 8)) W)
  have hx := bits_xor_u64_nat st (blkTo s 8) hst (blkTo_lt s 8)
  have HX := Lib.hid hx
  clear h hB hG hZ hx
  go_enter Tryz.func46, Tryz.ntmps46
  go_wp2_with ((with_reducible show wpList _ _ _ (Oper.mk (some 8) _ _ _ _ _ :: _) _ _); refine wpList_copy_str (w0 := w) rfl (.tmp 6) (.tmp 7) 85 9 rfl 5 Tryz.underlying85 (by kernel_rfl) w.heap.size 8 8 rfl s rfl _ 87 HZ.out hs (by simpa using hs) gs HB.out (Nat.le_of_lt hgs) ?_; intro w1 hw1 hw2 hB1)
  have HR1 : Hid (Has w1 w.heap.size 87 (blkRow s)) := by
    have e := blk_row hs
    rw [zer8_eq] at e
    show Has w1 w.heap.size 87 (blkRow s)
    rw [← e]
    exact hw1.out
  have HG1 := Lib.hid (hw2.out gs 86 _ (Nat.ne_of_lt hgs) HG.out)
  have HB1 := Lib.hid hB1
  clear hw1 hw2 hB1
  go_loopw [4, 9] (fun n i wr => ∃ k : Nat, k ≤ 8 ∧ n = .int .u64 (blkTo s k) ∧ i = .int .i64 k ∧ Hid (Has wr w.heap.size 87 (blkRow s)) ∧ Hid (Has wr gs 86 #[.int .u64 st]) ∧ Hid (Below gs w wr)) (fun _ i _ => 8 - (intOf i).toNat)
  case atStart => exact ⟨0, by omega, rfl, rfl, HR1.out, HG1.out, HB1.out⟩
  case round =>
    obtain ⟨k, hk, rfl, rfl, HR, HGr, HBr⟩ := hrel
    by_cases hlt : k < 8
    · have c0 : wr.cell? ⟨w.heap.size, k, none⟩ = some (.int .u8 (byteAt s k : Int)) := HR.out.rcell k hlt
      have hor := or_step (blkTo s k) (byteAt s k) (byteAt_lt s k)
      have hbw : IntKind.u64.wrap (byteAt s k : Int) = (byteAt s k : Int) := by have := byteAt_lt s k; rw [IntKind.wrap_u64]; omega
      go_wp2_with fail
      go_roundw
      case rel => exact ⟨k + 1, by omega, rfl, by go_num, HR.out, HGr.out, HBr.out⟩
      case measure => simp [intOf]; omega
    · obtain rfl : k = 8 := by omega
      obtain ⟨x1, y1⟩ := HGr.out.facts
      have hx := HX.out
      go_wp2_with (go_at_call 47; refine (HMX.out _).mono ?_; rintro e w2 ⟨rfl, rfl⟩)
      go_end0
      exact ⟨rfl, HGr.out.put 0 _, HBr.out.setCell (Nat.le_refl _) _⟩
end Go.Proofs.YtccnocgmikmonaaGreatDoor
