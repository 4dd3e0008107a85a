/- checker.check: the first error of a condition. Condition: the checker lies in memory, over a valid catalog; the condition lay there before it. checker.check where a slot is asked for. Condition: as in Tyr. checker.check, whatever the condition. Condition: as in Tyr. -/
import Derived.StillTailTactics
import Derived.Test.YtcpakaiblelmlaaGreatDoorU05
import Derived.Test.YtcpakaiblelmlaaGreatDoorU06
namespace Go.Proofs.YtcpakaiblelmlaaGreatDoor
open Go Go.RowKit
/-- What stays while a condition is checked: its node in a block. -/
structure Mc (w0 : World) (cv : Value) (c : List Kd) (x g : Nat) (ce : Array Value) (W wr : World) : Prop where
  ck : ∃ m, Ck w0 cv c x g m wr
  aw : Aw g g W wr
  box : Has wr W.heap.size 27 ce
  hg : g < W.heap.size
section
variable {w0 W : World} {cv : Value} {c : List Kd} {x g : Nat} {m : List ((ByteArray × ByteArray) × Value)}
theorem Mc.below {ce : Array Value} {wr w' : World} (h : Mc w0 cv c x g ce W wr) (hb : Below wr.heap.size wr w') : Mc w0 cv c x g ce W w' := by
  obtain ⟨m, hm⟩ := h.ck
  exact ⟨⟨m, hm.below hb⟩, h.aw.trans (.of_below hb), h.box.below hb h.box.lt, h.hg⟩
theorem Mc.call {ce : Array Value} {wr w' : World} (h : Mc w0 cv c x g ce W wr) (ha : Aw g g wr w') (hc : ∃ m, Ck w0 cv c x g m w') : Mc w0 cv c x g ce W w' :=
  ⟨hc, h.aw.trans ha, h.box.aw ha (by have := h.hg; omega) (by have := h.hg; omega), h.hg⟩
/-- What check leaves. -/
def ChR (w0 : World) (cv : Value) (c : List Kd) (x g : Nat) (code : Int) (W : World) (r : Ending) (w' : World) : Prop := r = (if code = 0 then .returned (.tuple #[]) else errV code) ∧ Aw g g W w' ∧ ∃ m, Ck w0 cv c x g m w'
set_option maxRecDepth 100000 in
set_option maxHeartbeats 8000000 in
theorem check_plain (kind : ByteArray) (op : Int) (name value : ByteArray) (n extra : Int) (ks : List Ex) (A : Option Addr) (cc : Nat) (_hcv : Cat w0 cv c) (_hcat : catB c = true) (_hl : c.length ≤ 100000) (_hsh : ∀ k ∈ c, k.short)
    (hlay : Lay w0 (.slice A ks.length cc) ks) (hln : ks.length ≤ 1000) (hih : ∀ e ∈ ks, ∀ (kd : ByteArray) (kv : Value) (W : World) (m : List ((ByteArray × ByteArray) × Value)), Lay w0 kv e.kids → Ck w0 cv c x g m W → Calls Tryz.prog 26 #[.pointer (some ⟨x, 0, none⟩), .string kd, .agg #[.int .i64 e.op, .string e.name, .string e.value, .int .i64 e.n, .int .i64 e.extra, kv]] W (ChR w0 cv c x g (condT c kd e) W))
    (h : Ck w0 cv c x g m W) (ho : ¬ (op = 5 ∨ op = 6) ∧ op ≠ 9 ∧ ¬ (op = 10 ∨ op = 11 ∨ op = 12)) :
    Calls Tryz.prog 26 #[.pointer (some ⟨x, 0, none⟩), .string kind, .agg #[.int .i64 op, .string name, .string value, .int .i64 n, .int .i64 extra, .slice A ks.length cc]] W (ChR w0 cv c x g (condT c kind (.mk op name value n extra ks)) W) := by
  have HM := Lib.hid (show Mc w0 cv c x g #[.int .i64 op, .string name, .string value, .int .i64 n, .int .i64 extra, .slice A ks.length cc] W (W.alloc (.cells #[.int .i64 op, .string name, .string value, .int .i64 n, .int .i64 extra, .slice A ks.length cc] 27)) from ⟨⟨m, h.alloc _⟩, (Aw.refl _ _ _).alloc _, Has.new W _ _, h.mp.lt⟩)
  have HLay := Lib.hid hlay
  have HLN := Lib.hid hln
  have HIH := Lib.hid hih
  have HO := Lib.hid (show ownT c kind op name value n = 0 by unfold ownT; rw [if_neg ho.1, if_neg ho.2.1, if_neg ho.2.2])
  have HN := Lib.hid (show nextK kind op name = kind from if_neg ho.2.2)
  have ho5 : (op == 5) = false := by simp; omega
  have ho6 : (op == 6) = false := by simp; omega
  have ho9 : (op == 9) = false := by simp; omega
  have ho10 : (op == 10) = false := by simp; omega
  have ho11 : (op == 11) = false := by simp; omega
  have ho12 : (op == 12) = false := by simp; omega
  clear ho
  clear h hlay hln hih _hcv _hcat _hl _hsh
  go_enter Tryz.func26, Tryz.ntmps26
  obtain ⟨dz, fz⟩ := HM.out.box.facts
  go_wp2_with fail
  go_loopw [69] (fun i wr => ∃ k : Nat, i = .int .i64 k ∧ k ≤ ks.length ∧ Hid (condsT c kind (ks.take k) = 0) ∧ Hid (Mc w0 cv c x g #[.int .i64 op, .string name, .string value, .int .i64 n, .int .i64 extra, .slice A ks.length cc] W wr)) (fun i _ => ks.length - (intOf i).toNat)
  case atStart => exact ⟨0, rfl, Nat.zero_le _, Lib.hid (by rw [List.take_zero, condsT_nil]), HM⟩
  case round =>
    obtain ⟨k, rfl, hk, hz, HMr⟩ := hrel
    clear dz fz HM
    by_cases hlt : k < ks.length
    · have hki : (k : Int) < (ks.length : Int) := by omega
      have hs3 : IntKind.i64.wrap ((k : Int) + 1) = (k : Int) + 1 := IntWalk.i64_in _ (by have := HLN.out; omega)
      have HC := Lib.hid (HIH.out ks[k] (List.getElem_mem hlt))
      have HSN := Lib.hid (show condsT c kind (ks.take (k + 1)) = condT c kind ks[k] by rw [List.take_add_one, List.getElem?_eq_getElem hlt, Option.toList_some, condsT_snoc, if_neg (fun h => h hz.out)])
      obtain ⟨_, _, hkid⟩ := LayS.kid HLay.out
      obtain ⟨kb, ko, kv2, rfl, hcell, hkk⟩ := hkid k hlt
      obtain ⟨mr, hcr⟩ := HMr.out.ck
      have hb0 := hcr.b0
      have hc0 := cell_later hb0 (hcell 0 (by decide))
      have hc1 := cell_later hb0 (hcell 1 (by decide))
      have hc2 := cell_later hb0 (hcell 2 (by decide))
      have hc3 := cell_later hb0 (hcell 3 (by decide))
      have hc4 := cell_later hb0 (hcell 4 (by decide))
      have hc5 := cell_later hb0 (hcell 5 (by decide))
      simp only [exF, if_true, if_false, Nat.reduceEqDiff, Nat.add_one_ne_zero, ← Nat.add_assoc, Nat.add_zero] at hc0 hc1 hc2 hc3 hc4 hc5
      have HKK := Lib.hid hkk
      obtain ⟨Ak, ck, rfl, _⟩ := hkk.slice
      have HCR := Lib.hid hcr
      clear hkid hcell hkk hcr hb0
      have HMEM := Lib.hid (show condT c kind ks[k] ≠ 0 → condsT c kind ks = condT c kind ks[k] from fun h => (condsT_take ks (i := k + 1) (by rw [HSN.out]; exact h)).trans HSN.out)
      generalize ks[k] = ek at *
      by_cases hz2 : condT c kind ek = 0
      · have HSN2 := Lib.hid (HSN.out.trans hz2)
        have HZ2 := Lib.hid hz2
        clear hz2 HSN HMEM
        go_wp2_with (go_at_call 26; refine (HC.out kind _ _ mr HKK.out (HCR.out.alloc _)).mono ?_; (rw [HZ2.out]); rintro r w5 ⟨rfl, ha, hc⟩; have HM5 := Lib.hid ((HMr.out.below ((Below.refl _ _).alloc (Nat.le_refl _) _)).call ha hc); clear ha hc)
        go_roundw
        case rel => exact ⟨k + 1, by go_num, hlt, HSN2, HM5⟩
        case measure => simp [intOf]; omega
      · have HP := Lib.hid (show condT c kind (.mk op name value n extra ks) = condT c kind ek by rw [condT_eq]; show (if ownT c kind op name value n ≠ 0 then _ else condsT c (nextK kind op name) ks) = _; rw [HO.out, HN.out, if_neg (fun h => h rfl)]; exact HMEM.out hz2)
        have HZ2 := Lib.hid hz2
        clear hz2 HSN HMEM
        go_wp2_with (go_at_call 26; refine (HC.out kind _ _ mr HKK.out (HCR.out.alloc _)).mono ?_; rintro r w5 ⟨hr, ha, hc⟩; (rw [if_neg HZ2.out] at hr); subst hr; (exact ⟨rfl, by rw [HP.out, if_neg HZ2.out], HMr.out.aw.trans (((Aw.refl _ _ _).alloc _).trans ha), hc⟩))
    · have hki : ¬ (k : Int) < (ks.length : Int) := by omega
      obtain rfl : k = ks.length := by omega
      rw [List.take_length] at hz
      have HZ := Lib.hid (show condT c kind (.mk op name value n extra ks) = 0 by rw [condT_eq]; show (if ownT c kind op name value n ≠ 0 then _ else condsT c (nextK kind op name) ks) = 0; rw [HO.out, HN.out, if_neg (fun h => h rfl)]; exact hz.out)
      have HF := Lib.hid (show ChR w0 cv c x g (condT c kind (.mk op name value n extra ks)) W (.returned (.tuple #[])) wr from ⟨by rw [HZ.out]; rfl, HMr.out.aw, HMr.out.ck⟩)
      go_wp2_with fail
      refine bodyPost_end (results_none rfl _ _ _) rfl ?_
      exact HF.out
set_option maxRecDepth 100000 in
set_option maxHeartbeats 8000000 in
theorem check_cur5 (kind : ByteArray) (op : Int) (name value : ByteArray) (n extra : Int) (ks : List Ex) (A : Option Addr) (cc : Nat) (_hcv : Cat w0 cv c) (_hcat : catB c = true) (_hl : c.length ≤ 100000) (_hsh : ∀ k ∈ c, k.short)
    (hlay : Lay w0 (.slice A ks.length cc) ks) (hln : ks.length ≤ 1000) (hih : ∀ e ∈ ks, ∀ (kd : ByteArray) (kv : Value) (W : World) (m : List ((ByteArray × ByteArray) × Value)), Lay w0 kv e.kids → Ck w0 cv c x g m W → Calls Tryz.prog 26 #[.pointer (some ⟨x, 0, none⟩), .string kd, .agg #[.int .i64 e.op, .string e.name, .string e.value, .int .i64 e.n, .int .i64 e.extra, kv]] W (ChR w0 cv c x g (condT c kd e) W))
    (h : Ck w0 cv c x g m W) (ho : op = 5) (hcu : curB name = true) :
    Calls Tryz.prog 26 #[.pointer (some ⟨x, 0, none⟩), .string kind, .agg #[.int .i64 op, .string name, .string value, .int .i64 n, .int .i64 extra, .slice A ks.length cc]] W (ChR w0 cv c x g (condT c kind (.mk op name value n extra ks)) W) := by
  have HM := Lib.hid (show Mc w0 cv c x g #[.int .i64 op, .string name, .string value, .int .i64 n, .int .i64 extra, .slice A ks.length cc] W (W.alloc (.cells #[.int .i64 op, .string name, .string value, .int .i64 n, .int .i64 extra, .slice A ks.length cc] 27)) from ⟨⟨m, h.alloc _⟩, (Aw.refl _ _ _).alloc _, Has.new W _ _, h.mp.lt⟩)
  have HLay := Lib.hid hlay
  have HLN := Lib.hid hln
  have HIH := Lib.hid hih
  have HO := Lib.hid (show ownT c kind op name value n = 0 by unfold ownT; rw [if_pos (by omega)]; rw [if_pos hcu])
  have HN := Lib.hid (show nextK kind op name = kind from if_neg (by omega))
  have HCU := Lib.hid hcu
  have ho5 : (op == 5) = true := by simp; omega
  clear ho hcu
  clear h hlay hln hih _hcv _hcat _hl _hsh
  go_enter Tryz.func26, Tryz.ntmps26
  obtain ⟨dz, fz⟩ := HM.out.box.facts
  go_wp2_with (first | (go_at_call 20; refine (is_any name _).mono ?_; rintro e w2 ⟨rfl, hb⟩; (rw [HCU.out]); have HM2 := Lib.hid (HM.out.below hb); obtain ⟨dy, fy⟩ := HM2.out.box.facts; clear hb) | (go_at_call 48; refine (must_any true _ _).mono ?_; rintro r w3 ⟨rfl, rfl⟩))
  go_loopw [69] (fun i wr => ∃ k : Nat, i = .int .i64 k ∧ k ≤ ks.length ∧ Hid (condsT c kind (ks.take k) = 0) ∧ Hid (Mc w0 cv c x g #[.int .i64 op, .string name, .string value, .int .i64 n, .int .i64 extra, .slice A ks.length cc] W wr)) (fun i _ => ks.length - (intOf i).toNat)
  case atStart => exact ⟨0, rfl, Nat.zero_le _, Lib.hid (by rw [List.take_zero, condsT_nil]), HM2⟩
  case round =>
    obtain ⟨k, rfl, hk, hz, HMr⟩ := hrel
    clear dz fz HM dy fy HM2
    by_cases hlt : k < ks.length
    · have hki : (k : Int) < (ks.length : Int) := by omega
      have hs3 : IntKind.i64.wrap ((k : Int) + 1) = (k : Int) + 1 := IntWalk.i64_in _ (by have := HLN.out; omega)
      have HC := Lib.hid (HIH.out ks[k] (List.getElem_mem hlt))
      have HSN := Lib.hid (show condsT c kind (ks.take (k + 1)) = condT c kind ks[k] by rw [List.take_add_one, List.getElem?_eq_getElem hlt, Option.toList_some, condsT_snoc, if_neg (fun h => h hz.out)])
      obtain ⟨_, _, hkid⟩ := LayS.kid HLay.out
      obtain ⟨kb, ko, kv2, rfl, hcell, hkk⟩ := hkid k hlt
      obtain ⟨mr, hcr⟩ := HMr.out.ck
      have hb0 := hcr.b0
      have hc0 := cell_later hb0 (hcell 0 (by decide))
      have hc1 := cell_later hb0 (hcell 1 (by decide))
      have hc2 := cell_later hb0 (hcell 2 (by decide))
      have hc3 := cell_later hb0 (hcell 3 (by decide))
      have hc4 := cell_later hb0 (hcell 4 (by decide))
      have hc5 := cell_later hb0 (hcell 5 (by decide))
      simp only [exF, if_true, if_false, Nat.reduceEqDiff, Nat.add_one_ne_zero, ← Nat.add_assoc, Nat.add_zero] at hc0 hc1 hc2 hc3 hc4 hc5
      have HKK := Lib.hid hkk
      obtain ⟨Ak, ck, rfl, _⟩ := hkk.slice
      have HCR := Lib.hid hcr
      clear hkid hcell hkk hcr hb0
      have HMEM := Lib.hid (show condT c kind ks[k] ≠ 0 → condsT c kind ks = condT c kind ks[k] from fun h => (condsT_take ks (i := k + 1) (by rw [HSN.out]; exact h)).trans HSN.out)
      generalize ks[k] = ek at *
      by_cases hz2 : condT c kind ek = 0
      · have HSN2 := Lib.hid (HSN.out.trans hz2)
        have HZ2 := Lib.hid hz2
        clear hz2 HSN HMEM
        go_wp2_with (go_at_call 26; refine (HC.out kind _ _ mr HKK.out (HCR.out.alloc _)).mono ?_; (rw [HZ2.out]); rintro r w5 ⟨rfl, ha, hc⟩; have HM5 := Lib.hid ((HMr.out.below ((Below.refl _ _).alloc (Nat.le_refl _) _)).call ha hc); clear ha hc)
        go_roundw
        case rel => exact ⟨k + 1, by go_num, hlt, HSN2, HM5⟩
        case measure => simp [intOf]; omega
      · have HP := Lib.hid (show condT c kind (.mk op name value n extra ks) = condT c kind ek by rw [condT_eq]; show (if ownT c kind op name value n ≠ 0 then _ else condsT c (nextK kind op name) ks) = _; rw [HO.out, HN.out, if_neg (fun h => h rfl)]; exact HMEM.out hz2)
        have HZ2 := Lib.hid hz2
        clear hz2 HSN HMEM
        go_wp2_with (go_at_call 26; refine (HC.out kind _ _ mr HKK.out (HCR.out.alloc _)).mono ?_; rintro r w5 ⟨hr, ha, hc⟩; (rw [if_neg HZ2.out] at hr); subst hr; (exact ⟨rfl, by rw [HP.out, if_neg HZ2.out], HMr.out.aw.trans (((Aw.refl _ _ _).alloc _).trans ha), hc⟩))
    · have hki : ¬ (k : Int) < (ks.length : Int) := by omega
      obtain rfl : k = ks.length := by omega
      rw [List.take_length] at hz
      have HZ := Lib.hid (show condT c kind (.mk op name value n extra ks) = 0 by rw [condT_eq]; show (if ownT c kind op name value n ≠ 0 then _ else condsT c (nextK kind op name) ks) = 0; rw [HO.out, HN.out, if_neg (fun h => h rfl)]; exact hz.out)
      have HF := Lib.hid (show ChR w0 cv c x g (condT c kind (.mk op name value n extra ks)) W (.returned (.tuple #[])) wr from ⟨by rw [HZ.out]; rfl, HMr.out.aw, HMr.out.ck⟩)
      go_wp2_with fail
      refine bodyPost_end (results_none rfl _ _ _) rfl ?_
      exact HF.out
set_option maxRecDepth 100000 in
set_option maxHeartbeats 8000000 in
theorem check_bad5 (kind : ByteArray) (op : Int) (name value : ByteArray) (n extra : Int) (ks : List Ex) (A : Option Addr) (cc : Nat) (_hcv : Cat w0 cv c) (_hcat : catB c = true) (_hl : c.length ≤ 100000) (_hsh : ∀ k ∈ c, k.short)
    (hlay : Lay w0 (.slice A ks.length cc) ks) (hln : ks.length ≤ 1000) (hih : ∀ e ∈ ks, ∀ (kd : ByteArray) (kv : Value) (W : World) (m : List ((ByteArray × ByteArray) × Value)), Lay w0 kv e.kids → Ck w0 cv c x g m W → Calls Tryz.prog 26 #[.pointer (some ⟨x, 0, none⟩), .string kd, .agg #[.int .i64 e.op, .string e.name, .string e.value, .int .i64 e.n, .int .i64 e.extra, kv]] W (ChR w0 cv c x g (condT c kd e) W))
    (h : Ck w0 cv c x g m W) (ho : op = 5) (hcu : curB name = false) :
    Calls Tryz.prog 26 #[.pointer (some ⟨x, 0, none⟩), .string kind, .agg #[.int .i64 op, .string name, .string value, .int .i64 n, .int .i64 extra, .slice A ks.length cc]] W (ChR w0 cv c x g (condT c kind (.mk op name value n extra ks)) W) := by
  have HM := Lib.hid (show Mc w0 cv c x g #[.int .i64 op, .string name, .string value, .int .i64 n, .int .i64 extra, .slice A ks.length cc] W (W.alloc (.cells #[.int .i64 op, .string name, .string value, .int .i64 n, .int .i64 extra, .slice A ks.length cc] 27)) from ⟨⟨m, h.alloc _⟩, (Aw.refl _ _ _).alloc _, Has.new W _ _, h.mp.lt⟩)
  have HLay := Lib.hid hlay
  have HLN := Lib.hid hln
  have HIH := Lib.hid hih
  have HT := Lib.hid (show condT c kind (.mk op name value n extra ks) = 15 by rw [condT_eq]; show (if ownT c kind op name value n ≠ 0 then ownT c kind op name value n else _) = _; rw [show ownT c kind op name value n = 15 by unfold ownT; rw [if_pos (by omega)]; rw [if_neg (by rw [hcu]; decide)]]; rfl)
  have HCU := Lib.hid hcu
  have ho5 : (op == 5) = true := by simp; omega
  clear ho hcu HLay HLN HIH
  clear h hlay hln hih _hcv _hcat _hl _hsh
  go_enter Tryz.func26, Tryz.ntmps26
  obtain ⟨dz, fz⟩ := HM.out.box.facts
  go_wp2_with (first | (go_at_call 20; refine (is_any name _).mono ?_; rintro e w2 ⟨rfl, hb⟩; (rw [HCU.out]); have HM2 := Lib.hid (HM.out.below hb); obtain ⟨dy, fy⟩ := HM2.out.box.facts; clear hb) | (go_at_call 48; refine (must_any false _ _).mono ?_; rintro r w3 ⟨rfl, rfl⟩; (exact ⟨rfl, by rw [HT.out]; rfl, HM2.out.aw, HM2.out.ck⟩)))
set_option maxRecDepth 100000 in
set_option maxHeartbeats 8000000 in
theorem check_cur6 (kind : ByteArray) (op : Int) (name value : ByteArray) (n extra : Int) (ks : List Ex) (A : Option Addr) (cc : Nat) (_hcv : Cat w0 cv c) (_hcat : catB c = true) (_hl : c.length ≤ 100000) (_hsh : ∀ k ∈ c, k.short)
    (hlay : Lay w0 (.slice A ks.length cc) ks) (hln : ks.length ≤ 1000) (hih : ∀ e ∈ ks, ∀ (kd : ByteArray) (kv : Value) (W : World) (m : List ((ByteArray × ByteArray) × Value)), Lay w0 kv e.kids → Ck w0 cv c x g m W → Calls Tryz.prog 26 #[.pointer (some ⟨x, 0, none⟩), .string kd, .agg #[.int .i64 e.op, .string e.name, .string e.value, .int .i64 e.n, .int .i64 e.extra, kv]] W (ChR w0 cv c x g (condT c kd e) W))
    (h : Ck w0 cv c x g m W) (ho : op = 6) (hcu : curB name = true) :
    Calls Tryz.prog 26 #[.pointer (some ⟨x, 0, none⟩), .string kind, .agg #[.int .i64 op, .string name, .string value, .int .i64 n, .int .i64 extra, .slice A ks.length cc]] W (ChR w0 cv c x g (condT c kind (.mk op name value n extra ks)) W) := by
  have HM := Lib.hid (show Mc w0 cv c x g #[.int .i64 op, .string name, .string value, .int .i64 n, .int .i64 extra, .slice A ks.length cc] W (W.alloc (.cells #[.int .i64 op, .string name, .string value, .int .i64 n, .int .i64 extra, .slice A ks.length cc] 27)) from ⟨⟨m, h.alloc _⟩, (Aw.refl _ _ _).alloc _, Has.new W _ _, h.mp.lt⟩)
  have HLay := Lib.hid hlay
  have HLN := Lib.hid hln
  have HIH := Lib.hid hih
  have HO := Lib.hid (show ownT c kind op name value n = 0 by unfold ownT; rw [if_pos (by omega)]; rw [if_pos hcu])
  have HN := Lib.hid (show nextK kind op name = kind from if_neg (by omega))
  have HCU := Lib.hid hcu
  have ho5 : (op == 5) = false := by simp; omega
  have ho6 : (op == 6) = true := by simp; omega
  clear ho hcu
  clear h hlay hln hih _hcv _hcat _hl _hsh
  go_enter Tryz.func26, Tryz.ntmps26
  obtain ⟨dz, fz⟩ := HM.out.box.facts
  go_wp2_with (first | (go_at_call 20; refine (is_any name _).mono ?_; rintro e w2 ⟨rfl, hb⟩; (rw [HCU.out]); have HM2 := Lib.hid (HM.out.below hb); obtain ⟨dy, fy⟩ := HM2.out.box.facts; clear hb) | (go_at_call 48; refine (must_any true _ _).mono ?_; rintro r w3 ⟨rfl, rfl⟩))
  go_loopw [69] (fun i wr => ∃ k : Nat, i = .int .i64 k ∧ k ≤ ks.length ∧ Hid (condsT c kind (ks.take k) = 0) ∧ Hid (Mc w0 cv c x g #[.int .i64 op, .string name, .string value, .int .i64 n, .int .i64 extra, .slice A ks.length cc] W wr)) (fun i _ => ks.length - (intOf i).toNat)
  case atStart => exact ⟨0, rfl, Nat.zero_le _, Lib.hid (by rw [List.take_zero, condsT_nil]), HM2⟩
  case round =>
    obtain ⟨k, rfl, hk, hz, HMr⟩ := hrel
    clear dz fz HM dy fy HM2
    by_cases hlt : k < ks.length
    · have hki : (k : Int) < (ks.length : Int) := by omega
      have hs3 : IntKind.i64.wrap ((k : Int) + 1) = (k : Int) + 1 := IntWalk.i64_in _ (by have := HLN.out; omega)
      have HC := Lib.hid (HIH.out ks[k] (List.getElem_mem hlt))
      have HSN := Lib.hid (show condsT c kind (ks.take (k + 1)) = condT c kind ks[k] by rw [List.take_add_one, List.getElem?_eq_getElem hlt, Option.toList_some, condsT_snoc, if_neg (fun h => h hz.out)])
      obtain ⟨_, _, hkid⟩ := LayS.kid HLay.out
      obtain ⟨kb, ko, kv2, rfl, hcell, hkk⟩ := hkid k hlt
      obtain ⟨mr, hcr⟩ := HMr.out.ck
      have hb0 := hcr.b0
      have hc0 := cell_later hb0 (hcell 0 (by decide))
      have hc1 := cell_later hb0 (hcell 1 (by decide))
      have hc2 := cell_later hb0 (hcell 2 (by decide))
      have hc3 := cell_later hb0 (hcell 3 (by decide))
      have hc4 := cell_later hb0 (hcell 4 (by decide))
      have hc5 := cell_later hb0 (hcell 5 (by decide))
      simp only [exF, if_true, if_false, Nat.reduceEqDiff, Nat.add_one_ne_zero, ← Nat.add_assoc, Nat.add_zero] at hc0 hc1 hc2 hc3 hc4 hc5
      have HKK := Lib.hid hkk
      obtain ⟨Ak, ck, rfl, _⟩ := hkk.slice
      have HCR := Lib.hid hcr
      clear hkid hcell hkk hcr hb0
      have HMEM := Lib.hid (show condT c kind ks[k] ≠ 0 → condsT c kind ks = condT c kind ks[k] from fun h => (condsT_take ks (i := k + 1) (by rw [HSN.out]; exact h)).trans HSN.out)
      generalize ks[k] = ek at *
      by_cases hz2 : condT c kind ek = 0
      · have HSN2 := Lib.hid (HSN.out.trans hz2)
        have HZ2 := Lib.hid hz2
        clear hz2 HSN HMEM
        go_wp2_with (go_at_call 26; refine (HC.out kind _ _ mr HKK.out (HCR.out.alloc _)).mono ?_; (rw [HZ2.out]); rintro r w5 ⟨rfl, ha, hc⟩; have HM5 := Lib.hid ((HMr.out.below ((Below.refl _ _).alloc (Nat.le_refl _) _)).call ha hc); clear ha hc)
        go_roundw
        case rel => exact ⟨k + 1, by go_num, hlt, HSN2, HM5⟩
        case measure => simp [intOf]; omega
      · have HP := Lib.hid (show condT c kind (.mk op name value n extra ks) = condT c kind ek by rw [condT_eq]; show (if ownT c kind op name value n ≠ 0 then _ else condsT c (nextK kind op name) ks) = _; rw [HO.out, HN.out, if_neg (fun h => h rfl)]; exact HMEM.out hz2)
        have HZ2 := Lib.hid hz2
        clear hz2 HSN HMEM
        go_wp2_with (go_at_call 26; refine (HC.out kind _ _ mr HKK.out (HCR.out.alloc _)).mono ?_; rintro r w5 ⟨hr, ha, hc⟩; (rw [if_neg HZ2.out] at hr); subst hr; (exact ⟨rfl, by rw [HP.out, if_neg HZ2.out], HMr.out.aw.trans (((Aw.refl _ _ _).alloc _).trans ha), hc⟩))
    · have hki : ¬ (k : Int) < (ks.length : Int) := by omega
      obtain rfl : k = ks.length := by omega
      rw [List.take_length] at hz
      have HZ := Lib.hid (show condT c kind (.mk op name value n extra ks) = 0 by rw [condT_eq]; show (if ownT c kind op name value n ≠ 0 then _ else condsT c (nextK kind op name) ks) = 0; rw [HO.out, HN.out, if_neg (fun h => h rfl)]; exact hz.out)
      have HF := Lib.hid (show ChR w0 cv c x g (condT c kind (.mk op name value n extra ks)) W (.returned (.tuple #[])) wr from ⟨by rw [HZ.out]; rfl, HMr.out.aw, HMr.out.ck⟩)
      go_wp2_with fail
      refine bodyPost_end (results_none rfl _ _ _) rfl ?_
      exact HF.out
set_option maxRecDepth 100000 in
set_option maxHeartbeats 8000000 in
theorem check_bad6 (kind : ByteArray) (op : Int) (name value : ByteArray) (n extra : Int) (ks : List Ex) (A : Option Addr) (cc : Nat) (_hcv : Cat w0 cv c) (_hcat : catB c = true) (_hl : c.length ≤ 100000) (_hsh : ∀ k ∈ c, k.short)
    (hlay : Lay w0 (.slice A ks.length cc) ks) (hln : ks.length ≤ 1000) (hih : ∀ e ∈ ks, ∀ (kd : ByteArray) (kv : Value) (W : World) (m : List ((ByteArray × ByteArray) × Value)), Lay w0 kv e.kids → Ck w0 cv c x g m W → Calls Tryz.prog 26 #[.pointer (some ⟨x, 0, none⟩), .string kd, .agg #[.int .i64 e.op, .string e.name, .string e.value, .int .i64 e.n, .int .i64 e.extra, kv]] W (ChR w0 cv c x g (condT c kd e) W))
    (h : Ck w0 cv c x g m W) (ho : op = 6) (hcu : curB name = false) :
    Calls Tryz.prog 26 #[.pointer (some ⟨x, 0, none⟩), .string kind, .agg #[.int .i64 op, .string name, .string value, .int .i64 n, .int .i64 extra, .slice A ks.length cc]] W (ChR w0 cv c x g (condT c kind (.mk op name value n extra ks)) W) := by
  have HM := Lib.hid (show Mc w0 cv c x g #[.int .i64 op, .string name, .string value, .int .i64 n, .int .i64 extra, .slice A ks.length cc] W (W.alloc (.cells #[.int .i64 op, .string name, .string value, .int .i64 n, .int .i64 extra, .slice A ks.length cc] 27)) from ⟨⟨m, h.alloc _⟩, (Aw.refl _ _ _).alloc _, Has.new W _ _, h.mp.lt⟩)
  have HLay := Lib.hid hlay
  have HLN := Lib.hid hln
  have HIH := Lib.hid hih
  have HT := Lib.hid (show condT c kind (.mk op name value n extra ks) = 15 by rw [condT_eq]; show (if ownT c kind op name value n ≠ 0 then ownT c kind op name value n else _) = _; rw [show ownT c kind op name value n = 15 by unfold ownT; rw [if_pos (by omega)]; rw [if_neg (by rw [hcu]; decide)]]; rfl)
  have HCU := Lib.hid hcu
  have ho5 : (op == 5) = false := by simp; omega
  have ho6 : (op == 6) = true := by simp; omega
  clear ho hcu HLay HLN HIH
  clear h hlay hln hih _hcv _hcat _hl _hsh
  go_enter Tryz.func26, Tryz.ntmps26
  obtain ⟨dz, fz⟩ := HM.out.box.facts
  go_wp2_with (first | (go_at_call 20; refine (is_any name _).mono ?_; rintro e w2 ⟨rfl, hb⟩; (rw [HCU.out]); have HM2 := Lib.hid (HM.out.below hb); obtain ⟨dy, fy⟩ := HM2.out.box.facts; clear hb) | (go_at_call 48; refine (must_any false _ _).mono ?_; rintro r w3 ⟨rfl, rfl⟩; (exact ⟨rfl, by rw [HT.out]; rfl, HM2.out.aw, HM2.out.ck⟩)))
set_option maxRecDepth 100000 in
set_option maxHeartbeats 8000000 in
theorem check_in10 (kind : ByteArray) (op : Int) (name value : ByteArray) (n extra : Int) (ks : List Ex) (A : Option Addr) (cc : Nat) (hcv : Cat w0 cv c) (hcat : catB c = true) (hl : c.length ≤ 100000) (hsh : ∀ k ∈ c, k.short)
    (hlay : Lay w0 (.slice A ks.length cc) ks) (hln : ks.length ≤ 1000) (hih : ∀ e ∈ ks, ∀ (kd : ByteArray) (kv : Value) (W : World) (m : List ((ByteArray × ByteArray) × Value)), Lay w0 kv e.kids → Ck w0 cv c x g m W → Calls Tryz.prog 26 #[.pointer (some ⟨x, 0, none⟩), .string kd, .agg #[.int .i64 e.op, .string e.name, .string e.value, .int .i64 e.n, .int .i64 e.extra, kv]] W (ChR w0 cv c x g (condT c kd e) W))
    (h : Ck w0 cv c x g m W) (ho : op = 10) (pv : Int) (hpv : mostP c kind name = pv) (h0 : 0 < pv) (h1 : n ≤ pv) :
    Calls Tryz.prog 26 #[.pointer (some ⟨x, 0, none⟩), .string kind, .agg #[.int .i64 op, .string name, .string value, .int .i64 n, .int .i64 extra, .slice A ks.length cc]] W (ChR w0 cv c x g (condT c kind (.mk op name value n extra ks)) W) := by
  have HM := Lib.hid (show Mc w0 cv c x g #[.int .i64 op, .string name, .string value, .int .i64 n, .int .i64 extra, .slice A ks.length cc] W (W.alloc (.cells #[.int .i64 op, .string name, .string value, .int .i64 n, .int .i64 extra, .slice A ks.length cc] 27)) from ⟨⟨m, h.alloc _⟩, (Aw.refl _ _ _).alloc _, Has.new W _ _, h.mp.lt⟩)
  have HLay := Lib.hid hlay
  have HLN := Lib.hid hln
  have HIH := Lib.hid hih
  have HMO := Lib.hid (fun (kd : ByteArray) (W : World) (m : List ((ByteArray × ByteArray) × Value)) (h : Ck w0 cv c x g m W) => most_rec hcv hcat hl hsh name (kix c kd + 1) kd W m (Nat.lt_succ_self _) h)
  have HO := Lib.hid (show ownT c kind op name value n = 0 by unfold ownT; rw [if_neg (by omega), if_neg (by omega), if_pos (by omega), hpv]; rw [if_pos h0, if_pos h1])
  have HN := Lib.hid (show nextK kind op name = name from if_pos (by omega))
  have HPV := Lib.hid hpv
  have hd0 : decide (0 < pv) = true := decide_eq_true h0
  have hd1 : decide (n ≤ pv) = true := decide_eq_true h1
  have ho5 : (op == 5) = false := by simp; omega
  have ho6 : (op == 6) = false := by simp; omega
  have ho9 : (op == 9) = false := by simp; omega
  have ho10 : (op == 10) = true := by simp; omega
  clear ho hpv
  clear h hlay hln hih hcv hcat hl hsh
  go_enter Tryz.func26, Tryz.ntmps26
  obtain ⟨dz, fz⟩ := HM.out.box.facts
  go_wp2_with (first | (go_at_call 52; obtain ⟨mm, hmm⟩ := HM.out.ck; refine (HMO.out kind _ mm hmm).mono ?_; rintro e w2 ⟨rfl, ha, hc⟩; (rw [HPV.out]); have HM2 := Lib.hid (HM.out.call ha hc); obtain ⟨dy, fy⟩ := HM2.out.box.facts; clear ha hc hmm) | (go_at_call 48; refine (must_any true _ _).mono ?_; rintro r w3 ⟨rfl, rfl⟩))
  go_loopw [69] (fun i wr => ∃ k : Nat, i = .int .i64 k ∧ k ≤ ks.length ∧ Hid (condsT c name (ks.take k) = 0) ∧ Hid (Mc w0 cv c x g #[.int .i64 op, .string name, .string value, .int .i64 n, .int .i64 extra, .slice A ks.length cc] W wr)) (fun i _ => ks.length - (intOf i).toNat)
  case atStart => exact ⟨0, rfl, Nat.zero_le _, Lib.hid (by rw [List.take_zero, condsT_nil]), HM2⟩
  case round =>
    obtain ⟨k, rfl, hk, hz, HMr⟩ := hrel
    clear dz fz HM dy fy HM2
    by_cases hlt : k < ks.length
    · have hki : (k : Int) < (ks.length : Int) := by omega
      have hs3 : IntKind.i64.wrap ((k : Int) + 1) = (k : Int) + 1 := IntWalk.i64_in _ (by have := HLN.out; omega)
      have HC := Lib.hid (HIH.out ks[k] (List.getElem_mem hlt))
      have HSN := Lib.hid (show condsT c name (ks.take (k + 1)) = condT c name ks[k] by rw [List.take_add_one, List.getElem?_eq_getElem hlt, Option.toList_some, condsT_snoc, if_neg (fun h => h hz.out)])
      obtain ⟨_, _, hkid⟩ := LayS.kid HLay.out
      obtain ⟨kb, ko, kv2, rfl, hcell, hkk⟩ := hkid k hlt
      obtain ⟨mr, hcr⟩ := HMr.out.ck
      have hb0 := hcr.b0
      have hc0 := cell_later hb0 (hcell 0 (by decide))
      have hc1 := cell_later hb0 (hcell 1 (by decide))
      have hc2 := cell_later hb0 (hcell 2 (by decide))
      have hc3 := cell_later hb0 (hcell 3 (by decide))
      have hc4 := cell_later hb0 (hcell 4 (by decide))
      have hc5 := cell_later hb0 (hcell 5 (by decide))
      simp only [exF, if_true, if_false, Nat.reduceEqDiff, Nat.add_one_ne_zero, ← Nat.add_assoc, Nat.add_zero] at hc0 hc1 hc2 hc3 hc4 hc5
      have HKK := Lib.hid hkk
      obtain ⟨Ak, ck, rfl, _⟩ := hkk.slice
      have HCR := Lib.hid hcr
      clear hkid hcell hkk hcr hb0
      have HMEM := Lib.hid (show condT c name ks[k] ≠ 0 → condsT c name ks = condT c name ks[k] from fun h => (condsT_take ks (i := k + 1) (by rw [HSN.out]; exact h)).trans HSN.out)
      generalize ks[k] = ek at *
      by_cases hz2 : condT c name ek = 0
      · have HSN2 := Lib.hid (HSN.out.trans hz2)
        have HZ2 := Lib.hid hz2
        clear hz2 HSN HMEM
        go_wp2_with (go_at_call 26; refine (HC.out name _ _ mr HKK.out (HCR.out.alloc _)).mono ?_; (rw [HZ2.out]); rintro r w5 ⟨rfl, ha, hc⟩; have HM5 := Lib.hid ((HMr.out.below ((Below.refl _ _).alloc (Nat.le_refl _) _)).call ha hc); clear ha hc)
        go_roundw
        case rel => exact ⟨k + 1, by go_num, hlt, HSN2, HM5⟩
        case measure => simp [intOf]; omega
      · have HP := Lib.hid (show condT c kind (.mk op name value n extra ks) = condT c name ek by rw [condT_eq]; show (if ownT c kind op name value n ≠ 0 then _ else condsT c (nextK kind op name) ks) = _; rw [HO.out, HN.out, if_neg (fun h => h rfl)]; exact HMEM.out hz2)
        have HZ2 := Lib.hid hz2
        clear hz2 HSN HMEM
        go_wp2_with (go_at_call 26; refine (HC.out name _ _ mr HKK.out (HCR.out.alloc _)).mono ?_; rintro r w5 ⟨hr, ha, hc⟩; (rw [if_neg HZ2.out] at hr); subst hr; (exact ⟨rfl, by rw [HP.out, if_neg HZ2.out], HMr.out.aw.trans (((Aw.refl _ _ _).alloc _).trans ha), hc⟩))
    · have hki : ¬ (k : Int) < (ks.length : Int) := by omega
      obtain rfl : k = ks.length := by omega
      rw [List.take_length] at hz
      have HZ := Lib.hid (show condT c kind (.mk op name value n extra ks) = 0 by rw [condT_eq]; show (if ownT c kind op name value n ≠ 0 then _ else condsT c (nextK kind op name) ks) = 0; rw [HO.out, HN.out, if_neg (fun h => h rfl)]; exact hz.out)
      have HF := Lib.hid (show ChR w0 cv c x g (condT c kind (.mk op name value n extra ks)) W (.returned (.tuple #[])) wr from ⟨by rw [HZ.out]; rfl, HMr.out.aw, HMr.out.ck⟩)
      go_wp2_with fail
      refine bodyPost_end (results_none rfl _ _ _) rfl ?_
      exact HF.out
set_option maxRecDepth 100000 in
set_option maxHeartbeats 8000000 in
theorem check_none10 (kind : ByteArray) (op : Int) (name value : ByteArray) (n extra : Int) (ks : List Ex) (A : Option Addr) (cc : Nat) (hcv : Cat w0 cv c) (hcat : catB c = true) (hl : c.length ≤ 100000) (hsh : ∀ k ∈ c, k.short)
    (hlay : Lay w0 (.slice A ks.length cc) ks) (hln : ks.length ≤ 1000) (hih : ∀ e ∈ ks, ∀ (kd : ByteArray) (kv : Value) (W : World) (m : List ((ByteArray × ByteArray) × Value)), Lay w0 kv e.kids → Ck w0 cv c x g m W → Calls Tryz.prog 26 #[.pointer (some ⟨x, 0, none⟩), .string kd, .agg #[.int .i64 e.op, .string e.name, .string e.value, .int .i64 e.n, .int .i64 e.extra, kv]] W (ChR w0 cv c x g (condT c kd e) W))
    (h : Ck w0 cv c x g m W) (ho : op = 10) (pv : Int) (hpv : mostP c kind name = pv) (h0 : ¬ 0 < pv) :
    Calls Tryz.prog 26 #[.pointer (some ⟨x, 0, none⟩), .string kind, .agg #[.int .i64 op, .string name, .string value, .int .i64 n, .int .i64 extra, .slice A ks.length cc]] W (ChR w0 cv c x g (condT c kind (.mk op name value n extra ks)) W) := by
  have HM := Lib.hid (show Mc w0 cv c x g #[.int .i64 op, .string name, .string value, .int .i64 n, .int .i64 extra, .slice A ks.length cc] W (W.alloc (.cells #[.int .i64 op, .string name, .string value, .int .i64 n, .int .i64 extra, .slice A ks.length cc] 27)) from ⟨⟨m, h.alloc _⟩, (Aw.refl _ _ _).alloc _, Has.new W _ _, h.mp.lt⟩)
  have HLay := Lib.hid hlay
  have HLN := Lib.hid hln
  have HIH := Lib.hid hih
  have HMO := Lib.hid (fun (kd : ByteArray) (W : World) (m : List ((ByteArray × ByteArray) × Value)) (h : Ck w0 cv c x g m W) => most_rec hcv hcat hl hsh name (kix c kd + 1) kd W m (Nat.lt_succ_self _) h)
  have HT := Lib.hid (show condT c kind (.mk op name value n extra ks) = 4 by rw [condT_eq]; show (if ownT c kind op name value n ≠ 0 then ownT c kind op name value n else _) = _; rw [show ownT c kind op name value n = 4 by unfold ownT; rw [if_neg (by omega), if_neg (by omega), if_pos (by omega), hpv]; rw [if_neg h0]]; rfl)
  have HPV := Lib.hid hpv
  have hd0 : decide (0 < pv) = false := decide_eq_false h0
  have ho5 : (op == 5) = false := by simp; omega
  have ho6 : (op == 6) = false := by simp; omega
  have ho9 : (op == 9) = false := by simp; omega
  have ho10 : (op == 10) = true := by simp; omega
  clear ho hpv HLay HLN HIH
  clear h hlay hln hih hcv hcat hl hsh
  go_enter Tryz.func26, Tryz.ntmps26
  obtain ⟨dz, fz⟩ := HM.out.box.facts
  go_wp2_with (first | (go_at_call 52; obtain ⟨mm, hmm⟩ := HM.out.ck; refine (HMO.out kind _ mm hmm).mono ?_; rintro e w2 ⟨rfl, ha, hc⟩; (rw [HPV.out]); have HM2 := Lib.hid (HM.out.call ha hc); obtain ⟨dy, fy⟩ := HM2.out.box.facts; clear ha hc hmm) | (go_at_call 48; refine (must_any false _ _).mono ?_; rintro r w3 ⟨rfl, rfl⟩; (exact ⟨rfl, by rw [HT.out]; rfl, HM2.out.aw, HM2.out.ck⟩)))
set_option maxRecDepth 100000 in
set_option maxHeartbeats 8000000 in
theorem check_less10 (kind : ByteArray) (op : Int) (name value : ByteArray) (n extra : Int) (ks : List Ex) (A : Option Addr) (cc : Nat) (hcv : Cat w0 cv c) (hcat : catB c = true) (hl : c.length ≤ 100000) (hsh : ∀ k ∈ c, k.short)
    (hlay : Lay w0 (.slice A ks.length cc) ks) (hln : ks.length ≤ 1000) (hih : ∀ e ∈ ks, ∀ (kd : ByteArray) (kv : Value) (W : World) (m : List ((ByteArray × ByteArray) × Value)), Lay w0 kv e.kids → Ck w0 cv c x g m W → Calls Tryz.prog 26 #[.pointer (some ⟨x, 0, none⟩), .string kd, .agg #[.int .i64 e.op, .string e.name, .string e.value, .int .i64 e.n, .int .i64 e.extra, kv]] W (ChR w0 cv c x g (condT c kd e) W))
    (h : Ck w0 cv c x g m W) (ho : op = 10) (pv : Int) (hpv : mostP c kind name = pv) (h0 : 0 < pv) (h1 : ¬ n ≤ pv) :
    Calls Tryz.prog 26 #[.pointer (some ⟨x, 0, none⟩), .string kind, .agg #[.int .i64 op, .string name, .string value, .int .i64 n, .int .i64 extra, .slice A ks.length cc]] W (ChR w0 cv c x g (condT c kind (.mk op name value n extra ks)) W) := by
  have HM := Lib.hid (show Mc w0 cv c x g #[.int .i64 op, .string name, .string value, .int .i64 n, .int .i64 extra, .slice A ks.length cc] W (W.alloc (.cells #[.int .i64 op, .string name, .string value, .int .i64 n, .int .i64 extra, .slice A ks.length cc] 27)) from ⟨⟨m, h.alloc _⟩, (Aw.refl _ _ _).alloc _, Has.new W _ _, h.mp.lt⟩)
  have HLay := Lib.hid hlay
  have HLN := Lib.hid hln
  have HIH := Lib.hid hih
  have HMO := Lib.hid (fun (kd : ByteArray) (W : World) (m : List ((ByteArray × ByteArray) × Value)) (h : Ck w0 cv c x g m W) => most_rec hcv hcat hl hsh name (kix c kd + 1) kd W m (Nat.lt_succ_self _) h)
  have HT := Lib.hid (show condT c kind (.mk op name value n extra ks) = 13 by rw [condT_eq]; show (if ownT c kind op name value n ≠ 0 then ownT c kind op name value n else _) = _; rw [show ownT c kind op name value n = 13 by unfold ownT; rw [if_neg (by omega), if_neg (by omega), if_pos (by omega), hpv]; rw [if_pos h0, if_neg h1]]; rfl)
  have HPV := Lib.hid hpv
  have hd0 : decide (0 < pv) = true := decide_eq_true h0
  have hd1 : decide (n ≤ pv) = false := decide_eq_false h1
  have HK1 := Lib.hid True.intro
  have ho5 : (op == 5) = false := by simp; omega
  have ho6 : (op == 6) = false := by simp; omega
  have ho9 : (op == 9) = false := by simp; omega
  have ho10 : (op == 10) = true := by simp; omega
  clear ho hpv HLay HLN HIH
  clear h hlay hln hih hcv hcat hl hsh
  go_enter Tryz.func26, Tryz.ntmps26
  obtain ⟨dz, fz⟩ := HM.out.box.facts
  go_wp2_with (first | (go_at_call 52; obtain ⟨mm, hmm⟩ := HM.out.ck; refine (HMO.out kind _ mm hmm).mono ?_; rintro e w2 ⟨rfl, ha, hc⟩; (rw [HPV.out]); have HM2 := Lib.hid (HM.out.call ha hc); obtain ⟨dy, fy⟩ := HM2.out.box.facts; clear ha hc hmm) | (go_at_call 48; clear HK1; refine (must_any true _ _).mono ?_; rintro r w3 ⟨rfl, rfl⟩) | (go_at_call 48; refine (must_any false _ _).mono ?_; rintro r w3 ⟨rfl, rfl⟩; (exact ⟨rfl, by rw [HT.out]; rfl, HM2.out.aw, HM2.out.ck⟩)))
set_option maxRecDepth 100000 in
set_option maxHeartbeats 8000000 in
theorem check_in11 (kind : ByteArray) (op : Int) (name value : ByteArray) (n extra : Int) (ks : List Ex) (A : Option Addr) (cc : Nat) (hcv : Cat w0 cv c) (hcat : catB c = true) (hl : c.length ≤ 100000) (hsh : ∀ k ∈ c, k.short)
    (hlay : Lay w0 (.slice A ks.length cc) ks) (hln : ks.length ≤ 1000) (hih : ∀ e ∈ ks, ∀ (kd : ByteArray) (kv : Value) (W : World) (m : List ((ByteArray × ByteArray) × Value)), Lay w0 kv e.kids → Ck w0 cv c x g m W → Calls Tryz.prog 26 #[.pointer (some ⟨x, 0, none⟩), .string kd, .agg #[.int .i64 e.op, .string e.name, .string e.value, .int .i64 e.n, .int .i64 e.extra, kv]] W (ChR w0 cv c x g (condT c kd e) W))
    (h : Ck w0 cv c x g m W) (ho : op = 11) (pv : Int) (hpv : mostP c kind name = pv) (h0 : 0 < pv) (h1 : n ≤ pv) :
    Calls Tryz.prog 26 #[.pointer (some ⟨x, 0, none⟩), .string kind, .agg #[.int .i64 op, .string name, .string value, .int .i64 n, .int .i64 extra, .slice A ks.length cc]] W (ChR w0 cv c x g (condT c kind (.mk op name value n extra ks)) W) := by
  have HM := Lib.hid (show Mc w0 cv c x g #[.int .i64 op, .string name, .string value, .int .i64 n, .int .i64 extra, .slice A ks.length cc] W (W.alloc (.cells #[.int .i64 op, .string name, .string value, .int .i64 n, .int .i64 extra, .slice A ks.length cc] 27)) from ⟨⟨m, h.alloc _⟩, (Aw.refl _ _ _).alloc _, Has.new W _ _, h.mp.lt⟩)
  have HLay := Lib.hid hlay
  have HLN := Lib.hid hln
  have HIH := Lib.hid hih
  have HMO := Lib.hid (fun (kd : ByteArray) (W : World) (m : List ((ByteArray × ByteArray) × Value)) (h : Ck w0 cv c x g m W) => most_rec hcv hcat hl hsh name (kix c kd + 1) kd W m (Nat.lt_succ_self _) h)
  have HO := Lib.hid (show ownT c kind op name value n = 0 by unfold ownT; rw [if_neg (by omega), if_neg (by omega), if_pos (by omega), hpv]; rw [if_pos h0, if_pos h1])
  have HN := Lib.hid (show nextK kind op name = name from if_pos (by omega))
  have HPV := Lib.hid hpv
  have hd0 : decide (0 < pv) = true := decide_eq_true h0
  have hd1 : decide (n ≤ pv) = true := decide_eq_true h1
  have ho5 : (op == 5) = false := by simp; omega
  have ho6 : (op == 6) = false := by simp; omega
  have ho9 : (op == 9) = false := by simp; omega
  have ho10 : (op == 10) = false := by simp; omega
  have ho11 : (op == 11) = true := by simp; omega
  clear ho hpv
  clear h hlay hln hih hcv hcat hl hsh
  go_enter Tryz.func26, Tryz.ntmps26
  obtain ⟨dz, fz⟩ := HM.out.box.facts
  go_wp2_with (first | (go_at_call 52; obtain ⟨mm, hmm⟩ := HM.out.ck; refine (HMO.out kind _ mm hmm).mono ?_; rintro e w2 ⟨rfl, ha, hc⟩; (rw [HPV.out]); have HM2 := Lib.hid (HM.out.call ha hc); obtain ⟨dy, fy⟩ := HM2.out.box.facts; clear ha hc hmm) | (go_at_call 48; refine (must_any true _ _).mono ?_; rintro r w3 ⟨rfl, rfl⟩))
  go_loopw [69] (fun i wr => ∃ k : Nat, i = .int .i64 k ∧ k ≤ ks.length ∧ Hid (condsT c name (ks.take k) = 0) ∧ Hid (Mc w0 cv c x g #[.int .i64 op, .string name, .string value, .int .i64 n, .int .i64 extra, .slice A ks.length cc] W wr)) (fun i _ => ks.length - (intOf i).toNat)
  case atStart => exact ⟨0, rfl, Nat.zero_le _, Lib.hid (by rw [List.take_zero, condsT_nil]), HM2⟩
  case round =>
    obtain ⟨k, rfl, hk, hz, HMr⟩ := hrel
    clear dz fz HM dy fy HM2
    by_cases hlt : k < ks.length
    · have hki : (k : Int) < (ks.length : Int) := by omega
      have hs3 : IntKind.i64.wrap ((k : Int) + 1) = (k : Int) + 1 := IntWalk.i64_in _ (by have := HLN.out; omega)
      have HC := Lib.hid (HIH.out ks[k] (List.getElem_mem hlt))
      have HSN := Lib.hid (show condsT c name (ks.take (k + 1)) = condT c name ks[k] by rw [List.take_add_one, List.getElem?_eq_getElem hlt, Option.toList_some, condsT_snoc, if_neg (fun h => h hz.out)])
      obtain ⟨_, _, hkid⟩ := LayS.kid HLay.out
      obtain ⟨kb, ko, kv2, rfl, hcell, hkk⟩ := hkid k hlt
      obtain ⟨mr, hcr⟩ := HMr.out.ck
      have hb0 := hcr.b0
      have hc0 := cell_later hb0 (hcell 0 (by decide))
      have hc1 := cell_later hb0 (hcell 1 (by decide))
      have hc2 := cell_later hb0 (hcell 2 (by decide))
      have hc3 := cell_later hb0 (hcell 3 (by decide))
      have hc4 := cell_later hb0 (hcell 4 (by decide))
      have hc5 := cell_later hb0 (hcell 5 (by decide))
      simp only [exF, if_true, if_false, Nat.reduceEqDiff, Nat.add_one_ne_zero, ← Nat.add_assoc, Nat.add_zero] at hc0 hc1 hc2 hc3 hc4 hc5
      have HKK := Lib.hid hkk
      obtain ⟨Ak, ck, rfl, _⟩ := hkk.slice
      have HCR := Lib.hid hcr
      clear hkid hcell hkk hcr hb0
      have HMEM := Lib.hid (show condT c name ks[k] ≠ 0 → condsT c name ks = condT c name ks[k] from fun h => (condsT_take ks (i := k + 1) (by rw [HSN.out]; exact h)).trans HSN.out)
      generalize ks[k] = ek at *
      by_cases hz2 : condT c name ek = 0
      · have HSN2 := Lib.hid (HSN.out.trans hz2)
        have HZ2 := Lib.hid hz2
        clear hz2 HSN HMEM
        go_wp2_with (go_at_call 26; refine (HC.out name _ _ mr HKK.out (HCR.out.alloc _)).mono ?_; (rw [HZ2.out]); rintro r w5 ⟨rfl, ha, hc⟩; have HM5 := Lib.hid ((HMr.out.below ((Below.refl _ _).alloc (Nat.le_refl _) _)).call ha hc); clear ha hc)
        go_roundw
        case rel => exact ⟨k + 1, by go_num, hlt, HSN2, HM5⟩
        case measure => simp [intOf]; omega
      · have HP := Lib.hid (show condT c kind (.mk op name value n extra ks) = condT c name ek by rw [condT_eq]; show (if ownT c kind op name value n ≠ 0 then _ else condsT c (nextK kind op name) ks) = _; rw [HO.out, HN.out, if_neg (fun h => h rfl)]; exact HMEM.out hz2)
        have HZ2 := Lib.hid hz2
        clear hz2 HSN HMEM
        go_wp2_with (go_at_call 26; refine (HC.out name _ _ mr HKK.out (HCR.out.alloc _)).mono ?_; rintro r w5 ⟨hr, ha, hc⟩; (rw [if_neg HZ2.out] at hr); subst hr; (exact ⟨rfl, by rw [HP.out, if_neg HZ2.out], HMr.out.aw.trans (((Aw.refl _ _ _).alloc _).trans ha), hc⟩))
    · have hki : ¬ (k : Int) < (ks.length : Int) := by omega
      obtain rfl : k = ks.length := by omega
      rw [List.take_length] at hz
      have HZ := Lib.hid (show condT c kind (.mk op name value n extra ks) = 0 by rw [condT_eq]; show (if ownT c kind op name value n ≠ 0 then _ else condsT c (nextK kind op name) ks) = 0; rw [HO.out, HN.out, if_neg (fun h => h rfl)]; exact hz.out)
      have HF := Lib.hid (show ChR w0 cv c x g (condT c kind (.mk op name value n extra ks)) W (.returned (.tuple #[])) wr from ⟨by rw [HZ.out]; rfl, HMr.out.aw, HMr.out.ck⟩)
      go_wp2_with fail
      refine bodyPost_end (results_none rfl _ _ _) rfl ?_
      exact HF.out
set_option maxRecDepth 100000 in
set_option maxHeartbeats 8000000 in
theorem check_none11 (kind : ByteArray) (op : Int) (name value : ByteArray) (n extra : Int) (ks : List Ex) (A : Option Addr) (cc : Nat) (hcv : Cat w0 cv c) (hcat : catB c = true) (hl : c.length ≤ 100000) (hsh : ∀ k ∈ c, k.short)
    (hlay : Lay w0 (.slice A ks.length cc) ks) (hln : ks.length ≤ 1000) (hih : ∀ e ∈ ks, ∀ (kd : ByteArray) (kv : Value) (W : World) (m : List ((ByteArray × ByteArray) × Value)), Lay w0 kv e.kids → Ck w0 cv c x g m W → Calls Tryz.prog 26 #[.pointer (some ⟨x, 0, none⟩), .string kd, .agg #[.int .i64 e.op, .string e.name, .string e.value, .int .i64 e.n, .int .i64 e.extra, kv]] W (ChR w0 cv c x g (condT c kd e) W))
    (h : Ck w0 cv c x g m W) (ho : op = 11) (pv : Int) (hpv : mostP c kind name = pv) (h0 : ¬ 0 < pv) :
    Calls Tryz.prog 26 #[.pointer (some ⟨x, 0, none⟩), .string kind, .agg #[.int .i64 op, .string name, .string value, .int .i64 n, .int .i64 extra, .slice A ks.length cc]] W (ChR w0 cv c x g (condT c kind (.mk op name value n extra ks)) W) := by
  have HM := Lib.hid (show Mc w0 cv c x g #[.int .i64 op, .string name, .string value, .int .i64 n, .int .i64 extra, .slice A ks.length cc] W (W.alloc (.cells #[.int .i64 op, .string name, .string value, .int .i64 n, .int .i64 extra, .slice A ks.length cc] 27)) from ⟨⟨m, h.alloc _⟩, (Aw.refl _ _ _).alloc _, Has.new W _ _, h.mp.lt⟩)
  have HLay := Lib.hid hlay
  have HLN := Lib.hid hln
  have HIH := Lib.hid hih
  have HMO := Lib.hid (fun (kd : ByteArray) (W : World) (m : List ((ByteArray × ByteArray) × Value)) (h : Ck w0 cv c x g m W) => most_rec hcv hcat hl hsh name (kix c kd + 1) kd W m (Nat.lt_succ_self _) h)
  have HT := Lib.hid (show condT c kind (.mk op name value n extra ks) = 4 by rw [condT_eq]; show (if ownT c kind op name value n ≠ 0 then ownT c kind op name value n else _) = _; rw [show ownT c kind op name value n = 4 by unfold ownT; rw [if_neg (by omega), if_neg (by omega), if_pos (by omega), hpv]; rw [if_neg h0]]; rfl)
  have HPV := Lib.hid hpv
  have hd0 : decide (0 < pv) = false := decide_eq_false h0
  have ho5 : (op == 5) = false := by simp; omega
  have ho6 : (op == 6) = false := by simp; omega
  have ho9 : (op == 9) = false := by simp; omega
  have ho10 : (op == 10) = false := by simp; omega
  have ho11 : (op == 11) = true := by simp; omega
  clear ho hpv HLay HLN HIH
  clear h hlay hln hih hcv hcat hl hsh
  go_enter Tryz.func26, Tryz.ntmps26
  obtain ⟨dz, fz⟩ := HM.out.box.facts
  go_wp2_with (first | (go_at_call 52; obtain ⟨mm, hmm⟩ := HM.out.ck; refine (HMO.out kind _ mm hmm).mono ?_; rintro e w2 ⟨rfl, ha, hc⟩; (rw [HPV.out]); have HM2 := Lib.hid (HM.out.call ha hc); obtain ⟨dy, fy⟩ := HM2.out.box.facts; clear ha hc hmm) | (go_at_call 48; refine (must_any false _ _).mono ?_; rintro r w3 ⟨rfl, rfl⟩; (exact ⟨rfl, by rw [HT.out]; rfl, HM2.out.aw, HM2.out.ck⟩)))
set_option maxRecDepth 100000 in
set_option maxHeartbeats 8000000 in
theorem check_less11 (kind : ByteArray) (op : Int) (name value : ByteArray) (n extra : Int) (ks : List Ex) (A : Option Addr) (cc : Nat) (hcv : Cat w0 cv c) (hcat : catB c = true) (hl : c.length ≤ 100000) (hsh : ∀ k ∈ c, k.short)
    (hlay : Lay w0 (.slice A ks.length cc) ks) (hln : ks.length ≤ 1000) (hih : ∀ e ∈ ks, ∀ (kd : ByteArray) (kv : Value) (W : World) (m : List ((ByteArray × ByteArray) × Value)), Lay w0 kv e.kids → Ck w0 cv c x g m W → Calls Tryz.prog 26 #[.pointer (some ⟨x, 0, none⟩), .string kd, .agg #[.int .i64 e.op, .string e.name, .string e.value, .int .i64 e.n, .int .i64 e.extra, kv]] W (ChR w0 cv c x g (condT c kd e) W))
    (h : Ck w0 cv c x g m W) (ho : op = 11) (pv : Int) (hpv : mostP c kind name = pv) (h0 : 0 < pv) (h1 : ¬ n ≤ pv) :
    Calls Tryz.prog 26 #[.pointer (some ⟨x, 0, none⟩), .string kind, .agg #[.int .i64 op, .string name, .string value, .int .i64 n, .int .i64 extra, .slice A ks.length cc]] W (ChR w0 cv c x g (condT c kind (.mk op name value n extra ks)) W) := by
  have HM := Lib.hid (show Mc w0 cv c x g #[.int .i64 op, .string name, .string value, .int .i64 n, .int .i64 extra, .slice A ks.length cc] W (W.alloc (.cells #[.int .i64 op, .string name, .string value, .int .i64 n, .int .i64 extra, .slice A ks.length cc] 27)) from ⟨⟨m, h.alloc _⟩, (Aw.refl _ _ _).alloc _, Has.new W _ _, h.mp.lt⟩)
  have HLay := Lib.hid hlay
  have HLN := Lib.hid hln
  have HIH := Lib.hid hih
  have HMO := Lib.hid (fun (kd : ByteArray) (W : World) (m : List ((ByteArray × ByteArray) × Value)) (h : Ck w0 cv c x g m W) => most_rec hcv hcat hl hsh name (kix c kd + 1) kd W m (Nat.lt_succ_self _) h)
  have HT := Lib.hid (show condT c kind (.mk op name value n extra ks) = 13 by rw [condT_eq]; show (if ownT c kind op name value n ≠ 0 then ownT c kind op name value n else _) = _; rw [show ownT c kind op name value n = 13 by unfold ownT; rw [if_neg (by omega), if_neg (by omega), if_pos (by omega), hpv]; rw [if_pos h0, if_neg h1]]; rfl)
  have HPV := Lib.hid hpv
  have hd0 : decide (0 < pv) = true := decide_eq_true h0
  have hd1 : decide (n ≤ pv) = false := decide_eq_false h1
  have HK1 := Lib.hid True.intro
  have ho5 : (op == 5) = false := by simp; omega
  have ho6 : (op == 6) = false := by simp; omega
  have ho9 : (op == 9) = false := by simp; omega
  have ho10 : (op == 10) = false := by simp; omega
  have ho11 : (op == 11) = true := by simp; omega
  clear ho hpv HLay HLN HIH
  clear h hlay hln hih hcv hcat hl hsh
  go_enter Tryz.func26, Tryz.ntmps26
  obtain ⟨dz, fz⟩ := HM.out.box.facts
  go_wp2_with (first | (go_at_call 52; obtain ⟨mm, hmm⟩ := HM.out.ck; refine (HMO.out kind _ mm hmm).mono ?_; rintro e w2 ⟨rfl, ha, hc⟩; (rw [HPV.out]); have HM2 := Lib.hid (HM.out.call ha hc); obtain ⟨dy, fy⟩ := HM2.out.box.facts; clear ha hc hmm) | (go_at_call 48; clear HK1; refine (must_any true _ _).mono ?_; rintro r w3 ⟨rfl, rfl⟩) | (go_at_call 48; refine (must_any false _ _).mono ?_; rintro r w3 ⟨rfl, rfl⟩; (exact ⟨rfl, by rw [HT.out]; rfl, HM2.out.aw, HM2.out.ck⟩)))
set_option maxRecDepth 100000 in
set_option maxHeartbeats 8000000 in
theorem check_in12 (kind : ByteArray) (op : Int) (name value : ByteArray) (n extra : Int) (ks : List Ex) (A : Option Addr) (cc : Nat) (hcv : Cat w0 cv c) (hcat : catB c = true) (hl : c.length ≤ 100000) (hsh : ∀ k ∈ c, k.short)
    (hlay : Lay w0 (.slice A ks.length cc) ks) (hln : ks.length ≤ 1000) (hih : ∀ e ∈ ks, ∀ (kd : ByteArray) (kv : Value) (W : World) (m : List ((ByteArray × ByteArray) × Value)), Lay w0 kv e.kids → Ck w0 cv c x g m W → Calls Tryz.prog 26 #[.pointer (some ⟨x, 0, none⟩), .string kd, .agg #[.int .i64 e.op, .string e.name, .string e.value, .int .i64 e.n, .int .i64 e.extra, kv]] W (ChR w0 cv c x g (condT c kd e) W))
    (h : Ck w0 cv c x g m W) (ho : op = 12) (pv : Int) (hpv : mostP c kind name = pv) (h0 : 0 < pv) (h1 : n ≤ pv) :
    Calls Tryz.prog 26 #[.pointer (some ⟨x, 0, none⟩), .string kind, .agg #[.int .i64 op, .string name, .string value, .int .i64 n, .int .i64 extra, .slice A ks.length cc]] W (ChR w0 cv c x g (condT c kind (.mk op name value n extra ks)) W) := by
  have HM := Lib.hid (show Mc w0 cv c x g #[.int .i64 op, .string name, .string value, .int .i64 n, .int .i64 extra, .slice A ks.length cc] W (W.alloc (.cells #[.int .i64 op, .string name, .string value, .int .i64 n, .int .i64 extra, .slice A ks.length cc] 27)) from ⟨⟨m, h.alloc _⟩, (Aw.refl _ _ _).alloc _, Has.new W _ _, h.mp.lt⟩)
  have HLay := Lib.hid hlay
  have HLN := Lib.hid hln
  have HIH := Lib.hid hih
  have HMO := Lib.hid (fun (kd : ByteArray) (W : World) (m : List ((ByteArray × ByteArray) × Value)) (h : Ck w0 cv c x g m W) => most_rec hcv hcat hl hsh name (kix c kd + 1) kd W m (Nat.lt_succ_self _) h)
  have HO := Lib.hid (show ownT c kind op name value n = 0 by unfold ownT; rw [if_neg (by omega), if_neg (by omega), if_pos (by omega), hpv]; rw [if_pos h0, if_pos h1])
  have HN := Lib.hid (show nextK kind op name = name from if_pos (by omega))
  have HPV := Lib.hid hpv
  have hd0 : decide (0 < pv) = true := decide_eq_true h0
  have hd1 : decide (n ≤ pv) = true := decide_eq_true h1
  have ho5 : (op == 5) = false := by simp; omega
  have ho6 : (op == 6) = false := by simp; omega
  have ho9 : (op == 9) = false := by simp; omega
  have ho10 : (op == 10) = false := by simp; omega
  have ho11 : (op == 11) = false := by simp; omega
  have ho12 : (op == 12) = true := by simp; omega
  clear ho hpv
  clear h hlay hln hih hcv hcat hl hsh
  go_enter Tryz.func26, Tryz.ntmps26
  obtain ⟨dz, fz⟩ := HM.out.box.facts
  go_wp2_with (first | (go_at_call 52; obtain ⟨mm, hmm⟩ := HM.out.ck; refine (HMO.out kind _ mm hmm).mono ?_; rintro e w2 ⟨rfl, ha, hc⟩; (rw [HPV.out]); have HM2 := Lib.hid (HM.out.call ha hc); obtain ⟨dy, fy⟩ := HM2.out.box.facts; clear ha hc hmm) | (go_at_call 48; refine (must_any true _ _).mono ?_; rintro r w3 ⟨rfl, rfl⟩))
  go_loopw [69] (fun i wr => ∃ k : Nat, i = .int .i64 k ∧ k ≤ ks.length ∧ Hid (condsT c name (ks.take k) = 0) ∧ Hid (Mc w0 cv c x g #[.int .i64 op, .string name, .string value, .int .i64 n, .int .i64 extra, .slice A ks.length cc] W wr)) (fun i _ => ks.length - (intOf i).toNat)
  case atStart => exact ⟨0, rfl, Nat.zero_le _, Lib.hid (by rw [List.take_zero, condsT_nil]), HM2⟩
  case round =>
    obtain ⟨k, rfl, hk, hz, HMr⟩ := hrel
    clear dz fz HM dy fy HM2
    by_cases hlt : k < ks.length
    · have hki : (k : Int) < (ks.length : Int) := by omega
      have hs3 : IntKind.i64.wrap ((k : Int) + 1) = (k : Int) + 1 := IntWalk.i64_in _ (by have := HLN.out; omega)
      have HC := Lib.hid (HIH.out ks[k] (List.getElem_mem hlt))
      have HSN := Lib.hid (show condsT c name (ks.take (k + 1)) = condT c name ks[k] by rw [List.take_add_one, List.getElem?_eq_getElem hlt, Option.toList_some, condsT_snoc, if_neg (fun h => h hz.out)])
      obtain ⟨_, _, hkid⟩ := LayS.kid HLay.out
      obtain ⟨kb, ko, kv2, rfl, hcell, hkk⟩ := hkid k hlt
      obtain ⟨mr, hcr⟩ := HMr.out.ck
      have hb0 := hcr.b0
      have hc0 := cell_later hb0 (hcell 0 (by decide))
      have hc1 := cell_later hb0 (hcell 1 (by decide))
      have hc2 := cell_later hb0 (hcell 2 (by decide))
      have hc3 := cell_later hb0 (hcell 3 (by decide))
      have hc4 := cell_later hb0 (hcell 4 (by decide))
      have hc5 := cell_later hb0 (hcell 5 (by decide))
      simp only [exF, if_true, if_false, Nat.reduceEqDiff, Nat.add_one_ne_zero, ← Nat.add_assoc, Nat.add_zero] at hc0 hc1 hc2 hc3 hc4 hc5
      have HKK := Lib.hid hkk
      obtain ⟨Ak, ck, rfl, _⟩ := hkk.slice
      have HCR := Lib.hid hcr
      clear hkid hcell hkk hcr hb0
      have HMEM := Lib.hid (show condT c name ks[k] ≠ 0 → condsT c name ks = condT c name ks[k] from fun h => (condsT_take ks (i := k + 1) (by rw [HSN.out]; exact h)).trans HSN.out)
      generalize ks[k] = ek at *
      by_cases hz2 : condT c name ek = 0
      · have HSN2 := Lib.hid (HSN.out.trans hz2)
        have HZ2 := Lib.hid hz2
        clear hz2 HSN HMEM
        go_wp2_with (go_at_call 26; refine (HC.out name _ _ mr HKK.out (HCR.out.alloc _)).mono ?_; (rw [HZ2.out]); rintro r w5 ⟨rfl, ha, hc⟩; have HM5 := Lib.hid ((HMr.out.below ((Below.refl _ _).alloc (Nat.le_refl _) _)).call ha hc); clear ha hc)
        go_roundw
        case rel => exact ⟨k + 1, by go_num, hlt, HSN2, HM5⟩
        case measure => simp [intOf]; omega
      · have HP := Lib.hid (show condT c kind (.mk op name value n extra ks) = condT c name ek by rw [condT_eq]; show (if ownT c kind op name value n ≠ 0 then _ else condsT c (nextK kind op name) ks) = _; rw [HO.out, HN.out, if_neg (fun h => h rfl)]; exact HMEM.out hz2)
        have HZ2 := Lib.hid hz2
        clear hz2 HSN HMEM
        go_wp2_with (go_at_call 26; refine (HC.out name _ _ mr HKK.out (HCR.out.alloc _)).mono ?_; rintro r w5 ⟨hr, ha, hc⟩; (rw [if_neg HZ2.out] at hr); subst hr; (exact ⟨rfl, by rw [HP.out, if_neg HZ2.out], HMr.out.aw.trans (((Aw.refl _ _ _).alloc _).trans ha), hc⟩))
    · have hki : ¬ (k : Int) < (ks.length : Int) := by omega
      obtain rfl : k = ks.length := by omega
      rw [List.take_length] at hz
      have HZ := Lib.hid (show condT c kind (.mk op name value n extra ks) = 0 by rw [condT_eq]; show (if ownT c kind op name value n ≠ 0 then _ else condsT c (nextK kind op name) ks) = 0; rw [HO.out, HN.out, if_neg (fun h => h rfl)]; exact hz.out)
      have HF := Lib.hid (show ChR w0 cv c x g (condT c kind (.mk op name value n extra ks)) W (.returned (.tuple #[])) wr from ⟨by rw [HZ.out]; rfl, HMr.out.aw, HMr.out.ck⟩)
      go_wp2_with fail
      refine bodyPost_end (results_none rfl _ _ _) rfl ?_
      exact HF.out
set_option maxRecDepth 100000 in
set_option maxHeartbeats 8000000 in
theorem check_none12 (kind : ByteArray) (op : Int) (name value : ByteArray) (n extra : Int) (ks : List Ex) (A : Option Addr) (cc : Nat) (hcv : Cat w0 cv c) (hcat : catB c = true) (hl : c.length ≤ 100000) (hsh : ∀ k ∈ c, k.short)
    (hlay : Lay w0 (.slice A ks.length cc) ks) (hln : ks.length ≤ 1000) (hih : ∀ e ∈ ks, ∀ (kd : ByteArray) (kv : Value) (W : World) (m : List ((ByteArray × ByteArray) × Value)), Lay w0 kv e.kids → Ck w0 cv c x g m W → Calls Tryz.prog 26 #[.pointer (some ⟨x, 0, none⟩), .string kd, .agg #[.int .i64 e.op, .string e.name, .string e.value, .int .i64 e.n, .int .i64 e.extra, kv]] W (ChR w0 cv c x g (condT c kd e) W))
    (h : Ck w0 cv c x g m W) (ho : op = 12) (pv : Int) (hpv : mostP c kind name = pv) (h0 : ¬ 0 < pv) :
    Calls Tryz.prog 26 #[.pointer (some ⟨x, 0, none⟩), .string kind, .agg #[.int .i64 op, .string name, .string value, .int .i64 n, .int .i64 extra, .slice A ks.length cc]] W (ChR w0 cv c x g (condT c kind (.mk op name value n extra ks)) W) := by
  have HM := Lib.hid (show Mc w0 cv c x g #[.int .i64 op, .string name, .string value, .int .i64 n, .int .i64 extra, .slice A ks.length cc] W (W.alloc (.cells #[.int .i64 op, .string name, .string value, .int .i64 n, .int .i64 extra, .slice A ks.length cc] 27)) from ⟨⟨m, h.alloc _⟩, (Aw.refl _ _ _).alloc _, Has.new W _ _, h.mp.lt⟩)
  have HLay := Lib.hid hlay
  have HLN := Lib.hid hln
  have HIH := Lib.hid hih
  have HMO := Lib.hid (fun (kd : ByteArray) (W : World) (m : List ((ByteArray × ByteArray) × Value)) (h : Ck w0 cv c x g m W) => most_rec hcv hcat hl hsh name (kix c kd + 1) kd W m (Nat.lt_succ_self _) h)
  have HT := Lib.hid (show condT c kind (.mk op name value n extra ks) = 4 by rw [condT_eq]; show (if ownT c kind op name value n ≠ 0 then ownT c kind op name value n else _) = _; rw [show ownT c kind op name value n = 4 by unfold ownT; rw [if_neg (by omega), if_neg (by omega), if_pos (by omega), hpv]; rw [if_neg h0]]; rfl)
  have HPV := Lib.hid hpv
  have hd0 : decide (0 < pv) = false := decide_eq_false h0
  have ho5 : (op == 5) = false := by simp; omega
  have ho6 : (op == 6) = false := by simp; omega
  have ho9 : (op == 9) = false := by simp; omega
  have ho10 : (op == 10) = false := by simp; omega
  have ho11 : (op == 11) = false := by simp; omega
  have ho12 : (op == 12) = true := by simp; omega
  clear ho hpv HLay HLN HIH
  clear h hlay hln hih hcv hcat hl hsh
  go_enter Tryz.func26, Tryz.ntmps26
  obtain ⟨dz, fz⟩ := HM.out.box.facts
  go_wp2_with (first | (go_at_call 52; obtain ⟨mm, hmm⟩ := HM.out.ck; refine (HMO.out kind _ mm hmm).mono ?_; rintro e w2 ⟨rfl, ha, hc⟩; (rw [HPV.out]); have HM2 := Lib.hid (HM.out.call ha hc); obtain ⟨dy, fy⟩ := HM2.out.box.facts; clear ha hc hmm) | (go_at_call 48; refine (must_any false _ _).mono ?_; rintro r w3 ⟨rfl, rfl⟩; (exact ⟨rfl, by rw [HT.out]; rfl, HM2.out.aw, HM2.out.ck⟩)))
set_option maxRecDepth 100000 in
set_option maxHeartbeats 8000000 in
theorem check_less12 (kind : ByteArray) (op : Int) (name value : ByteArray) (n extra : Int) (ks : List Ex) (A : Option Addr) (cc : Nat) (hcv : Cat w0 cv c) (hcat : catB c = true) (hl : c.length ≤ 100000) (hsh : ∀ k ∈ c, k.short)
    (hlay : Lay w0 (.slice A ks.length cc) ks) (hln : ks.length ≤ 1000) (hih : ∀ e ∈ ks, ∀ (kd : ByteArray) (kv : Value) (W : World) (m : List ((ByteArray × ByteArray) × Value)), Lay w0 kv e.kids → Ck w0 cv c x g m W → Calls Tryz.prog 26 #[.pointer (some ⟨x, 0, none⟩), .string kd, .agg #[.int .i64 e.op, .string e.name, .string e.value, .int .i64 e.n, .int .i64 e.extra, kv]] W (ChR w0 cv c x g (condT c kd e) W))
    (h : Ck w0 cv c x g m W) (ho : op = 12) (pv : Int) (hpv : mostP c kind name = pv) (h0 : 0 < pv) (h1 : ¬ n ≤ pv) :
    Calls Tryz.prog 26 #[.pointer (some ⟨x, 0, none⟩), .string kind, .agg #[.int .i64 op, .string name, .string value, .int .i64 n, .int .i64 extra, .slice A ks.length cc]] W (ChR w0 cv c x g (condT c kind (.mk op name value n extra ks)) W) := by
  have HM := Lib.hid (show Mc w0 cv c x g #[.int .i64 op, .string name, .string value, .int .i64 n, .int .i64 extra, .slice A ks.length cc] W (W.alloc (.cells #[.int .i64 op, .string name, .string value, .int .i64 n, .int .i64 extra, .slice A ks.length cc] 27)) from ⟨⟨m, h.alloc _⟩, (Aw.refl _ _ _).alloc _, Has.new W _ _, h.mp.lt⟩)
  have HLay := Lib.hid hlay
  have HLN := Lib.hid hln
  have HIH := Lib.hid hih
  have HMO := Lib.hid (fun (kd : ByteArray) (W : World) (m : List ((ByteArray × ByteArray) × Value)) (h : Ck w0 cv c x g m W) => most_rec hcv hcat hl hsh name (kix c kd + 1) kd W m (Nat.lt_succ_self _) h)
  have HT := Lib.hid (show condT c kind (.mk op name value n extra ks) = 13 by rw [condT_eq]; show (if ownT c kind op name value n ≠ 0 then ownT c kind op name value n else _) = _; rw [show ownT c kind op name value n = 13 by unfold ownT; rw [if_neg (by omega), if_neg (by omega), if_pos (by omega), hpv]; rw [if_pos h0, if_neg h1]]; rfl)
  have HPV := Lib.hid hpv
  have hd0 : decide (0 < pv) = true := decide_eq_true h0
  have hd1 : decide (n ≤ pv) = false := decide_eq_false h1
  have HK1 := Lib.hid True.intro
  have ho5 : (op == 5) = false := by simp; omega
  have ho6 : (op == 6) = false := by simp; omega
  have ho9 : (op == 9) = false := by simp; omega
  have ho10 : (op == 10) = false := by simp; omega
  have ho11 : (op == 11) = false := by simp; omega
  have ho12 : (op == 12) = true := by simp; omega
  clear ho hpv HLay HLN HIH
  clear h hlay hln hih hcv hcat hl hsh
  go_enter Tryz.func26, Tryz.ntmps26
  obtain ⟨dz, fz⟩ := HM.out.box.facts
  go_wp2_with (first | (go_at_call 52; obtain ⟨mm, hmm⟩ := HM.out.ck; refine (HMO.out kind _ mm hmm).mono ?_; rintro e w2 ⟨rfl, ha, hc⟩; (rw [HPV.out]); have HM2 := Lib.hid (HM.out.call ha hc); obtain ⟨dy, fy⟩ := HM2.out.box.facts; clear ha hc hmm) | (go_at_call 48; clear HK1; refine (must_any true _ _).mono ?_; rintro r w3 ⟨rfl, rfl⟩) | (go_at_call 48; refine (must_any false _ _).mono ?_; rintro r w3 ⟨rfl, rfl⟩; (exact ⟨rfl, by rw [HT.out]; rfl, HM2.out.aw, HM2.out.ck⟩)))
end
end Go.Proofs.YtcpakaiblelmlaaGreatDoor
namespace Go.Proofs.YtcpakaiblelmlaaGreatDoor
open Go Go.RowKit
section
variable {w0 W : World} {cv : Value} {c : List Kd} {x g : Nat} {m : List ((ByteArray × ByteArray) × Value)}
set_option maxRecDepth 100000 in
set_option maxHeartbeats 8000000 in
theorem check_noslot (kind : ByteArray) (op : Int) (name value : ByteArray) (n extra : Int) (ks : List Ex) (A : Option Addr) (cc : Nat) (hcv : Cat w0 cv c) (_hcat : catB c = true) (hl : c.length ≤ 100000) (hsh : ∀ k ∈ c, k.short)
    (hlay : Lay w0 (.slice A ks.length cc) ks) (hln : ks.length ≤ 1000) (hih : ∀ e ∈ ks, ∀ (kd : ByteArray) (kv : Value) (W : World) (m : List ((ByteArray × ByteArray) × Value)), Lay w0 kv e.kids → Ck w0 cv c x g m W → Calls Tryz.prog 26 #[.pointer (some ⟨x, 0, none⟩), .string kd, .agg #[.int .i64 e.op, .string e.name, .string e.value, .int .i64 e.n, .int .i64 e.extra, kv]] W (ChR w0 cv c x g (condT c kd e) W))
    (h : Ck w0 cv c x g m W) (ho : op = 9) (hs : ((kSlots c kind).any fun s => decide (s.name = name)) = false) :
    Calls Tryz.prog 26 #[.pointer (some ⟨x, 0, none⟩), .string kind, .agg #[.int .i64 op, .string name, .string value, .int .i64 n, .int .i64 extra, .slice A ks.length cc]] W (ChR w0 cv c x g (condT c kind (.mk op name value n extra ks)) W) := by
  have HM := Lib.hid (show Mc w0 cv c x g #[.int .i64 op, .string name, .string value, .int .i64 n, .int .i64 extra, .slice A ks.length cc] W (W.alloc (.cells #[.int .i64 op, .string name, .string value, .int .i64 n, .int .i64 extra, .slice A ks.length cc] 27)) from ⟨⟨m, h.alloc _⟩, (Aw.refl _ _ _).alloc _, Has.new W _ _, h.mp.lt⟩)
  have HLay := Lib.hid hlay
  have HLN := Lib.hid hln
  have HIH := Lib.hid hih
  have HFD := Lib.hid (fun (w : World) (hb : Below w0.heap.size w0 w) => find_any w0 cv c kind w hb hcv hl)
  have HSN9 := Lib.hid (kfind_short hsh kind).2.1
  have hmf : ∀ (fn : Fn) (first cap : Array Value) (w : World), (Instr.makeFunc fn first cap).run Tryz.prog w = .ok (.func fn first cap) w := fun _ _ _ _ => rfl
  obtain ⟨mm, hmm⟩ := HM.out.ck
  obtain ⟨d1, f1⟩ := hmm.obj.facts
  have HB1 := Lib.hid hmm.b0
  clear hmm
  have HT := Lib.hid (show condT c kind (.mk op name value n extra ks) = 15 by rw [condT_eq]; show (if ownT c kind op name value n ≠ 0 then ownT c kind op name value n else _) = _; rw [show ownT c kind op name value n = 15 by unfold ownT; rw [if_neg (by omega), if_pos ho]; rw [if_neg (by rw [hs]; decide)]]; rfl)
  have HSB := Lib.hid (show (((kfind c kind).getD noKd).slots.any fun s => decide (s.name = name)) = false from hs)
  have ho5 : (op == 5) = false := by simp; omega
  have ho6 : (op == 6) = false := by simp; omega
  have ho9 : (op == 9) = true := by simp; omega
  clear ho hs HLay HLN HIH
  clear h hlay hln hih hcv _hcat hl hsh
  go_enter Tryz.func26, Tryz.ntmps26
  obtain ⟨dz, fz⟩ := HM.out.box.facts
  go_wp2_with (first | (go_at_call 14; refine (HFD.out _ HB1.out).mono ?_; rintro e w2 ⟨A2, c2, rfl, hrd, hb⟩; have HM2 := Lib.hid ((HM.out.below hb).below ((Below.refl _ _).alloc (Nat.le_refl _) (.cells #[.string ((kfind c kind).getD noKd).name, .bool ((kfind c kind).getD noKd).veh, .slice A2 ((kfind c kind).getD noKd).slots.length c2] 38))); have HRd := Lib.hid hrd; clear hb hrd) | (go_at_call 49; obtain ⟨m2, hm2⟩ := HM2.out.ck; refine (slotHas_any _ _ name W.heap.size _ _ (RdL.below SkR.stays HRd.out hm2.b0) HSN9.out HM2.out.box rfl).mono ?_; rintro e w3 ⟨rfl, hb⟩; (rw [HSB.out]); have HM3 := Lib.hid (HM2.out.below hb); clear hb hm2) | (go_at_call 48; refine (must_any false _ _).mono ?_; rintro r w3 ⟨rfl, rfl⟩; (exact ⟨rfl, by rw [HT.out]; rfl, HM3.out.aw, HM3.out.ck⟩)))
set_option maxRecDepth 100000 in
set_option maxHeartbeats 8000000 in
theorem check_unfit (kind : ByteArray) (op : Int) (name value : ByteArray) (n extra : Int) (ks : List Ex) (A : Option Addr) (cc : Nat) (hcv : Cat w0 cv c) (_hcat : catB c = true) (hl : c.length ≤ 100000) (hsh : ∀ k ∈ c, k.short)
    (hlay : Lay w0 (.slice A ks.length cc) ks) (hln : ks.length ≤ 1000) (hih : ∀ e ∈ ks, ∀ (kd : ByteArray) (kv : Value) (W : World) (m : List ((ByteArray × ByteArray) × Value)), Lay w0 kv e.kids → Ck w0 cv c x g m W → Calls Tryz.prog 26 #[.pointer (some ⟨x, 0, none⟩), .string kd, .agg #[.int .i64 e.op, .string e.name, .string e.value, .int .i64 e.n, .int .i64 e.extra, kv]] W (ChR w0 cv c x g (condT c kd e) W))
    (h : Ck w0 cv c x g m W) (ho : op = 9) (hs : ((kSlots c kind).any fun s => decide (s.name = name)) = true) (ht : takesB c kind name value = false) :
    Calls Tryz.prog 26 #[.pointer (some ⟨x, 0, none⟩), .string kind, .agg #[.int .i64 op, .string name, .string value, .int .i64 n, .int .i64 extra, .slice A ks.length cc]] W (ChR w0 cv c x g (condT c kind (.mk op name value n extra ks)) W) := by
  have HM := Lib.hid (show Mc w0 cv c x g #[.int .i64 op, .string name, .string value, .int .i64 n, .int .i64 extra, .slice A ks.length cc] W (W.alloc (.cells #[.int .i64 op, .string name, .string value, .int .i64 n, .int .i64 extra, .slice A ks.length cc] 27)) from ⟨⟨m, h.alloc _⟩, (Aw.refl _ _ _).alloc _, Has.new W _ _, h.mp.lt⟩)
  have HLay := Lib.hid hlay
  have HLN := Lib.hid hln
  have HIH := Lib.hid hih
  have HFD := Lib.hid (fun (w : World) (hb : Below w0.heap.size w0 w) => find_any w0 cv c kind w hb hcv hl)
  have HSN9 := Lib.hid (kfind_short hsh kind).2.1
  have hmf : ∀ (fn : Fn) (first cap : Array Value) (w : World), (Instr.makeFunc fn first cap).run Tryz.prog w = .ok (.func fn first cap) w := fun _ _ _ _ => rfl
  obtain ⟨mm, hmm⟩ := HM.out.ck
  obtain ⟨d1, f1⟩ := hmm.obj.facts
  have HB1 := Lib.hid hmm.b0
  clear hmm
  have HK1 := Lib.hid True.intro
  have HSB := Lib.hid (show (((kfind c kind).getD noKd).slots.any fun s => decide (s.name = name)) = true from hs)
  have HTB := Lib.hid ht
  have HTK := Lib.hid (fun (w : World) (hb : Below w0.heap.size w0 w) => takes_any w0 cv c kind name value w hb hcv hl hsh)
  have HT := Lib.hid (show condT c kind (.mk op name value n extra ks) = 4 by rw [condT_eq]; show (if ownT c kind op name value n ≠ 0 then ownT c kind op name value n else _) = _; rw [show ownT c kind op name value n = 4 by unfold ownT; rw [if_neg (by omega), if_pos ho]; rw [if_pos hs, if_neg (by rw [ht]; decide)]]; rfl)
  have ho5 : (op == 5) = false := by simp; omega
  have ho6 : (op == 6) = false := by simp; omega
  have ho9 : (op == 9) = true := by simp; omega
  clear ho hs ht HLay HLN HIH
  clear h hlay hln hih hcv _hcat hl hsh
  go_enter Tryz.func26, Tryz.ntmps26
  obtain ⟨dz, fz⟩ := HM.out.box.facts
  go_wp2_with (first | (go_at_call 14; refine (HFD.out _ HB1.out).mono ?_; rintro e w2 ⟨A2, c2, rfl, hrd, hb⟩; have HM2 := Lib.hid ((HM.out.below hb).below ((Below.refl _ _).alloc (Nat.le_refl _) (.cells #[.string ((kfind c kind).getD noKd).name, .bool ((kfind c kind).getD noKd).veh, .slice A2 ((kfind c kind).getD noKd).slots.length c2] 38))); have HRd := Lib.hid hrd; clear hb hrd) | (go_at_call 49; obtain ⟨m2, hm2⟩ := HM2.out.ck; refine (slotHas_any _ _ name W.heap.size _ _ (RdL.below SkR.stays HRd.out hm2.b0) HSN9.out HM2.out.box rfl).mono ?_; rintro e w3 ⟨rfl, hb⟩; (rw [HSB.out]); have HM3 := Lib.hid (HM2.out.below hb); obtain ⟨m3, hm3⟩ := HM3.out.ck; obtain ⟨d3, f3⟩ := hm3.obj.facts; obtain ⟨d4, f4⟩ := HM3.out.box.facts; have HB3 := Lib.hid hm3.b0; clear hb hm2 hm3) | (go_at_call 48; clear HK1; refine (must_any true _ _).mono ?_; rintro r w3 ⟨rfl, rfl⟩))
  go_still_tail 9, (by kernel_rfl)
  change wpList _ _ _ _ _ w3.drew
  have HM4 := Lib.hid (HM3.out.below (Below.refl _ _).drew)
  have HB4 := Lib.hid (show Below w0.heap.size w0 w3.drew from HB3.out.drew)
  generalize w3.drew = w4 at *
  go_wp2_with (first | (go_at_call 51; refine (HTK.out _ HB4.out).mono ?_; rintro e w5 ⟨rfl, hb⟩; (rw [HTB.out]); have HM5 := Lib.hid (HM4.out.below hb); obtain ⟨dy, fy⟩ := HM5.out.box.facts; clear hb) | (go_at_call 48; refine (must_any false _ _).mono ?_; rintro r w3 ⟨rfl, rfl⟩; (exact ⟨rfl, by rw [HT.out]; rfl, HM5.out.aw, HM5.out.ck⟩)))
set_option maxRecDepth 100000 in
set_option maxHeartbeats 8000000 in
theorem check_fit (kind : ByteArray) (op : Int) (name value : ByteArray) (n extra : Int) (ks : List Ex) (A : Option Addr) (cc : Nat) (hcv : Cat w0 cv c) (_hcat : catB c = true) (hl : c.length ≤ 100000) (hsh : ∀ k ∈ c, k.short)
    (hlay : Lay w0 (.slice A ks.length cc) ks) (hln : ks.length ≤ 1000) (hih : ∀ e ∈ ks, ∀ (kd : ByteArray) (kv : Value) (W : World) (m : List ((ByteArray × ByteArray) × Value)), Lay w0 kv e.kids → Ck w0 cv c x g m W → Calls Tryz.prog 26 #[.pointer (some ⟨x, 0, none⟩), .string kd, .agg #[.int .i64 e.op, .string e.name, .string e.value, .int .i64 e.n, .int .i64 e.extra, kv]] W (ChR w0 cv c x g (condT c kd e) W))
    (h : Ck w0 cv c x g m W) (ho : op = 9) (hs : ((kSlots c kind).any fun s => decide (s.name = name)) = true) (ht : takesB c kind name value = true) :
    Calls Tryz.prog 26 #[.pointer (some ⟨x, 0, none⟩), .string kind, .agg #[.int .i64 op, .string name, .string value, .int .i64 n, .int .i64 extra, .slice A ks.length cc]] W (ChR w0 cv c x g (condT c kind (.mk op name value n extra ks)) W) := by
  have HM := Lib.hid (show Mc w0 cv c x g #[.int .i64 op, .string name, .string value, .int .i64 n, .int .i64 extra, .slice A ks.length cc] W (W.alloc (.cells #[.int .i64 op, .string name, .string value, .int .i64 n, .int .i64 extra, .slice A ks.length cc] 27)) from ⟨⟨m, h.alloc _⟩, (Aw.refl _ _ _).alloc _, Has.new W _ _, h.mp.lt⟩)
  have HLay := Lib.hid hlay
  have HLN := Lib.hid hln
  have HIH := Lib.hid hih
  have HFD := Lib.hid (fun (w : World) (hb : Below w0.heap.size w0 w) => find_any w0 cv c kind w hb hcv hl)
  have HSN9 := Lib.hid (kfind_short hsh kind).2.1
  have hmf : ∀ (fn : Fn) (first cap : Array Value) (w : World), (Instr.makeFunc fn first cap).run Tryz.prog w = .ok (.func fn first cap) w := fun _ _ _ _ => rfl
  obtain ⟨mm, hmm⟩ := HM.out.ck
  obtain ⟨d1, f1⟩ := hmm.obj.facts
  have HB1 := Lib.hid hmm.b0
  clear hmm
  have HK1 := Lib.hid True.intro
  have HSB := Lib.hid (show (((kfind c kind).getD noKd).slots.any fun s => decide (s.name = name)) = true from hs)
  have HTB := Lib.hid ht
  have HTK := Lib.hid (fun (w : World) (hb : Below w0.heap.size w0 w) => takes_any w0 cv c kind name value w hb hcv hl hsh)
  have HO := Lib.hid (show ownT c kind op name value n = 0 by unfold ownT; rw [if_neg (by omega), if_pos ho]; rw [if_pos hs, if_pos ht])
  have HN := Lib.hid (show nextK kind op name = kind from if_neg (by omega))
  have ho5 : (op == 5) = false := by simp; omega
  have ho6 : (op == 6) = false := by simp; omega
  have ho9 : (op == 9) = true := by simp; omega
  clear ho hs ht
  clear h hlay hln hih hcv _hcat hl hsh
  go_enter Tryz.func26, Tryz.ntmps26
  obtain ⟨dz, fz⟩ := HM.out.box.facts
  go_wp2_with (first | (go_at_call 14; refine (HFD.out _ HB1.out).mono ?_; rintro e w2 ⟨A2, c2, rfl, hrd, hb⟩; have HM2 := Lib.hid ((HM.out.below hb).below ((Below.refl _ _).alloc (Nat.le_refl _) (.cells #[.string ((kfind c kind).getD noKd).name, .bool ((kfind c kind).getD noKd).veh, .slice A2 ((kfind c kind).getD noKd).slots.length c2] 38))); have HRd := Lib.hid hrd; clear hb hrd) | (go_at_call 49; obtain ⟨m2, hm2⟩ := HM2.out.ck; refine (slotHas_any _ _ name W.heap.size _ _ (RdL.below SkR.stays HRd.out hm2.b0) HSN9.out HM2.out.box rfl).mono ?_; rintro e w3 ⟨rfl, hb⟩; (rw [HSB.out]); have HM3 := Lib.hid (HM2.out.below hb); obtain ⟨m3, hm3⟩ := HM3.out.ck; obtain ⟨d3, f3⟩ := hm3.obj.facts; obtain ⟨d4, f4⟩ := HM3.out.box.facts; have HB3 := Lib.hid hm3.b0; clear hb hm2 hm3) | (go_at_call 48; clear HK1; refine (must_any true _ _).mono ?_; rintro r w3 ⟨rfl, rfl⟩))
  go_still_tail 9, (by kernel_rfl)
  change wpList _ _ _ _ _ w3.drew
  have HM4 := Lib.hid (HM3.out.below (Below.refl _ _).drew)
  have HB4 := Lib.hid (show Below w0.heap.size w0 w3.drew from HB3.out.drew)
  generalize w3.drew = w4 at *
  go_wp2_with (first | (go_at_call 51; refine (HTK.out _ HB4.out).mono ?_; rintro e w5 ⟨rfl, hb⟩; (rw [HTB.out]); have HM5 := Lib.hid (HM4.out.below hb); obtain ⟨dy, fy⟩ := HM5.out.box.facts; clear hb) | (go_at_call 48; refine (must_any true _ _).mono ?_; rintro r w3 ⟨rfl, rfl⟩))
  go_loopw [69] (fun i wr => ∃ k : Nat, i = .int .i64 k ∧ k ≤ ks.length ∧ Hid (condsT c kind (ks.take k) = 0) ∧ Hid (Mc w0 cv c x g #[.int .i64 op, .string name, .string value, .int .i64 n, .int .i64 extra, .slice A ks.length cc] W wr)) (fun i _ => ks.length - (intOf i).toNat)
  case atStart => exact ⟨0, rfl, Nat.zero_le _, Lib.hid (by rw [List.take_zero, condsT_nil]), HM5⟩
  case round =>
    obtain ⟨k, rfl, hk, hz, HMr⟩ := hrel
    clear dz fz HM dy fy HM5
    by_cases hlt : k < ks.length
    · have hki : (k : Int) < (ks.length : Int) := by omega
      have hs3 : IntKind.i64.wrap ((k : Int) + 1) = (k : Int) + 1 := IntWalk.i64_in _ (by have := HLN.out; omega)
      have HC := Lib.hid (HIH.out ks[k] (List.getElem_mem hlt))
      have HSN := Lib.hid (show condsT c kind (ks.take (k + 1)) = condT c kind ks[k] by rw [List.take_add_one, List.getElem?_eq_getElem hlt, Option.toList_some, condsT_snoc, if_neg (fun h => h hz.out)])
      obtain ⟨_, _, hkid⟩ := LayS.kid HLay.out
      obtain ⟨kb, ko, kv2, rfl, hcell, hkk⟩ := hkid k hlt
      obtain ⟨mr, hcr⟩ := HMr.out.ck
      have hb0 := hcr.b0
      have hc0 := cell_later hb0 (hcell 0 (by decide))
      have hc1 := cell_later hb0 (hcell 1 (by decide))
      have hc2 := cell_later hb0 (hcell 2 (by decide))
      have hc3 := cell_later hb0 (hcell 3 (by decide))
      have hc4 := cell_later hb0 (hcell 4 (by decide))
      have hc5 := cell_later hb0 (hcell 5 (by decide))
      simp only [exF, if_true, if_false, Nat.reduceEqDiff, Nat.add_one_ne_zero, ← Nat.add_assoc, Nat.add_zero] at hc0 hc1 hc2 hc3 hc4 hc5
      have HKK := Lib.hid hkk
      obtain ⟨Ak, ck, rfl, _⟩ := hkk.slice
      have HCR := Lib.hid hcr
      clear hkid hcell hkk hcr hb0
      have HMEM := Lib.hid (show condT c kind ks[k] ≠ 0 → condsT c kind ks = condT c kind ks[k] from fun h => (condsT_take ks (i := k + 1) (by rw [HSN.out]; exact h)).trans HSN.out)
      generalize ks[k] = ek at *
      by_cases hz2 : condT c kind ek = 0
      · have HSN2 := Lib.hid (HSN.out.trans hz2)
        have HZ2 := Lib.hid hz2
        clear hz2 HSN HMEM
        go_wp2_with (go_at_call 26; refine (HC.out kind _ _ mr HKK.out (HCR.out.alloc _)).mono ?_; (rw [HZ2.out]); rintro r w5 ⟨rfl, ha, hc⟩; have HM5 := Lib.hid ((HMr.out.below ((Below.refl _ _).alloc (Nat.le_refl _) _)).call ha hc); clear ha hc)
        go_roundw
        case rel => exact ⟨k + 1, by go_num, hlt, HSN2, HM5⟩
        case measure => simp [intOf]; omega
      · have HP := Lib.hid (show condT c kind (.mk op name value n extra ks) = condT c kind ek by rw [condT_eq]; show (if ownT c kind op name value n ≠ 0 then _ else condsT c (nextK kind op name) ks) = _; rw [HO.out, HN.out, if_neg (fun h => h rfl)]; exact HMEM.out hz2)
        have HZ2 := Lib.hid hz2
        clear hz2 HSN HMEM
        go_wp2_with (go_at_call 26; refine (HC.out kind _ _ mr HKK.out (HCR.out.alloc _)).mono ?_; rintro r w5 ⟨hr, ha, hc⟩; (rw [if_neg HZ2.out] at hr); subst hr; (exact ⟨rfl, by rw [HP.out, if_neg HZ2.out], HMr.out.aw.trans (((Aw.refl _ _ _).alloc _).trans ha), hc⟩))
    · have hki : ¬ (k : Int) < (ks.length : Int) := by omega
      obtain rfl : k = ks.length := by omega
      rw [List.take_length] at hz
      have HZ := Lib.hid (show condT c kind (.mk op name value n extra ks) = 0 by rw [condT_eq]; show (if ownT c kind op name value n ≠ 0 then _ else condsT c (nextK kind op name) ks) = 0; rw [HO.out, HN.out, if_neg (fun h => h rfl)]; exact hz.out)
      have HF := Lib.hid (show ChR w0 cv c x g (condT c kind (.mk op name value n extra ks)) W (.returned (.tuple #[])) wr from ⟨by rw [HZ.out]; rfl, HMr.out.aw, HMr.out.ck⟩)
      go_wp2_with fail
      refine bodyPost_end (results_none rfl _ _ _) rfl ?_
      exact HF.out
end
end Go.Proofs.YtcpakaiblelmlaaGreatDoor
namespace Go.Proofs.YtcpakaiblelmlaaGreatDoor
open Go Go.RowKit
section
variable {w0 : World} {cv : Value} {c : List Kd} {x g : Nat}
theorem check_rec (hcv : Cat w0 cv c) (hcat : catB c = true) (hl : c.length ≤ 100000) (hsh : ∀ k ∈ c, k.short) : ∀ (N : Nat) (e : Ex) (kind : ByteArray) (kv : Value) (W : World) (m : List ((ByteArray × ByteArray) × Value)), cnt e ≤ N → N ≤ 1000 → Lay w0 kv e.kids → Ck w0 cv c x g m W →
    Calls Tryz.prog 26 #[.pointer (some ⟨x, 0, none⟩), .string kind, .agg #[.int .i64 e.op, .string e.name, .string e.value, .int .i64 e.n, .int .i64 e.extra, kv]] W (ChR w0 cv c x g (condT c kind e) W)
  | 0, e, _, _, _, _, hN, _, _, _ => absurd hN (by have := cnt_pos e; omega)
  | N + 1, .mk op name value n extra ks, kind, kv, W, m, hN, hM, hlay, h => by
    obtain ⟨A, cc, rfl, _⟩ := hlay.slice
    have hln : ks.length ≤ 1000 := by have := len_cnts ks; have := cnt_eq (.mk op name value n extra ks); dsimp only [Ex.kids] at this; omega
    have hih : ∀ e ∈ ks, ∀ (kd : ByteArray) (kv : Value) (W : World) (m : List ((ByteArray × ByteArray) × Value)), Lay w0 kv e.kids → Ck w0 cv c x g m W → Calls Tryz.prog 26 #[.pointer (some ⟨x, 0, none⟩), .string kd, .agg #[.int .i64 e.op, .string e.name, .string e.value, .int .i64 e.n, .int .i64 e.extra, kv]] W (ChR w0 cv c x g (condT c kd e) W) :=
      fun e he kd kv W m hl2 hc => check_rec hcv hcat hl hsh N e kd kv W m (by have h1 := cnt_kid (e := .mk op name value n extra ks) he; omega) (by omega) hl2 hc
    by_cases h5 : op = 5
    · cases hcu : curB name with
      | true => exact check_cur5 kind op name value n extra ks A cc hcv hcat hl hsh hlay hln hih h h5 hcu
      | false => exact check_bad5 kind op name value n extra ks A cc hcv hcat hl hsh hlay hln hih h h5 hcu
    by_cases h6 : op = 6
    · cases hcu : curB name with
      | true => exact check_cur6 kind op name value n extra ks A cc hcv hcat hl hsh hlay hln hih h h6 hcu
      | false => exact check_bad6 kind op name value n extra ks A cc hcv hcat hl hsh hlay hln hih h h6 hcu
    by_cases h9 : op = 9
    · cases hs : (kSlots c kind).any fun s => decide (s.name = name) with
      | false => exact check_noslot kind op name value n extra ks A cc hcv hcat hl hsh hlay hln hih h h9 hs
      | true =>
        cases ht : takesB c kind name value with
        | false => exact check_unfit kind op name value n extra ks A cc hcv hcat hl hsh hlay hln hih h h9 hs ht
        | true => exact check_fit kind op name value n extra ks A cc hcv hcat hl hsh hlay hln hih h h9 hs ht
    by_cases h10 : op = 10
    · by_cases h0 : 0 < mostP c kind name
      · by_cases h1 : n ≤ mostP c kind name
        · exact check_in10 kind op name value n extra ks A cc hcv hcat hl hsh hlay hln hih h h10 _ rfl h0 h1
        · exact check_less10 kind op name value n extra ks A cc hcv hcat hl hsh hlay hln hih h h10 _ rfl h0 h1
      · exact check_none10 kind op name value n extra ks A cc hcv hcat hl hsh hlay hln hih h h10 _ rfl h0
    by_cases h11 : op = 11
    · by_cases h0 : 0 < mostP c kind name
      · by_cases h1 : n ≤ mostP c kind name
        · exact check_in11 kind op name value n extra ks A cc hcv hcat hl hsh hlay hln hih h h11 _ rfl h0 h1
        · exact check_less11 kind op name value n extra ks A cc hcv hcat hl hsh hlay hln hih h h11 _ rfl h0 h1
      · exact check_none11 kind op name value n extra ks A cc hcv hcat hl hsh hlay hln hih h h11 _ rfl h0
    by_cases h12 : op = 12
    · by_cases h0 : 0 < mostP c kind name
      · by_cases h1 : n ≤ mostP c kind name
        · exact check_in12 kind op name value n extra ks A cc hcv hcat hl hsh hlay hln hih h h12 _ rfl h0 h1
        · exact check_less12 kind op name value n extra ks A cc hcv hcat hl hsh hlay hln hih h h12 _ rfl h0 h1
      · exact check_none12 kind op name value n extra ks A cc hcv hcat hl hsh hlay hln hih h h12 _ rfl h0
    exact check_plain kind op name value n extra ks A cc hcv hcat hl hsh hlay hln hih h ⟨by omega, h9, by omega⟩
end
end Go.Proofs.YtcpakaiblelmlaaGreatDoor
