/- bogieref20.node: the reference's valid nodes are the program's. Condition: the strings fit. -/
import Derived.Test.YtppoeiofdmlpeaaGreatDoorU09
import Derived.Test.YtppoeiofdmlpeaaGreatDoorYC
namespace Go.Proofs.YtppoeiofdmlpeaaGreatDoor
open Go Go.RowKit
theorem toL_nil (b:ByteArray):b.toList = [] ↔ b.size = 0:=by
  rw [_root_.Go.ByteArray.toList_eq]
  constructor
  · intro h
    have:=congrArg List.length h
    exact this
  · intro h
    exact List.eq_nil_of_length_eq_zero h
set_option maxRecDepth 100000 in
set_option maxHeartbeats 8000000 in
theorem rnode_1 (name value:ByteArray) (n extra:Int) (A:Option Addr) (len c:Nat) (w:World) (hnm:name.size≤maxLen) (hvl:value.size≤maxLen) :
    Calls Tryz.prog 83 #[.agg #[.int .i64 1,.string name,.string value,.int .i64 n,.int .i64 extra,.slice A len c]] w fun r w'=>r = .returned (.bool (decide (NodeOk 1 name value n extra len)))∧Below w.heap.size w w':=by
  have hI:NodeOk 1 name value n extra len ↔ (len = 0∧(name.toList = [])∧value.toList = []∧n = 0∧extra = 0):=by
    unfold NodeOk
    simp [toL_nil]
  obtain ⟨r,hr⟩:∃ r,decide (NodeOk 1 name value n extra len) = r:=⟨_,rfl⟩
  rw [hr]
  have hR:r = true ↔ (len = 0∧(name.toList = [])∧value.toList = []∧n = 0∧extra = 0):=by rw [←hr,decide_eq_true_eq];exact hI
  have hF:¬ (len = 0∧(name.toList = [])∧value.toList = []∧n = 0∧extra = 0)→r = false:=fun h=>hr.symm.trans (decide_eq_false fun h2=>h (hI.1 h2))
  clear hr hI
  have HX:=Lib.hid (Has.new w 24 #[.int .i64 1,.string name,.string value,.int .i64 n,.int .i64 extra,.slice A len c])
  have HB:=Lib.hid (show Below w.heap.size w (w.alloc (.cells #[.int .i64 1,.string name,.string value,.int .i64 n,.int .i64 extra,.slice A len c] 24)) from (Below.refl _ _).alloc (Nat.le_refl _) _)
  have HN:=Lib.hid (fun W=>refName_any name W hnm)
  have HV:=Lib.hid (fun W=>refName_any value W hvl)
  clear hnm hvl
  by_cases hk:len = 0
  rotate_left
  · have hk1:¬ (len:Int) < 0:=by omega
    have hk2:(0:Int) < (len:Int):=by omega
    obtain rfl:=hF (fun h=>hk h.1)
    clear hR hF
    go_enter Tryz.func83,Tryz.ntmps83
    go_wp2_with fail
    go_ret
    exact ⟨rfl,HB.out⟩
  subst hk
  have HI:=Lib.hid hR
  clear hR hF
  go_enter Tryz.func83,Tryz.ntmps83
  go_wp2_with (first | (go_at_call 33;(with_reducible show Calls _ _ #[.string name] _ _);refine (HN.out _).mono ?_;rintro e w1 ⟨rfl,rfl⟩) | (go_at_call 33;(with_reducible show Calls _ _ #[.string value] _ _);refine (HV.out _).mono ?_;rintro e w1 ⟨rfl,rfl⟩) | (go_at_call 80;refine (refReserved_any name _).mono ?_;rintro e w2 ⟨rfl,hb⟩;have HB2:=Lib.hid (HB.out.trans (hb.mono HB.out.size));obtain ⟨d2,f2⟩:=(HX.out.below hb HX.out.lt).facts;clear hb) | (go_at_call 93;refine (refNumber_any _ _ _).mono ?_;rintro e w3 ⟨rfl,rfl⟩))
  all_goals (go_ret;refine ⟨ret_bool (Bool.eq_iff_iff.2 (Iff.trans (by first | (simp [*];done) | (simp [*];omega)) HI.out.symm)),(by first | exact HB2.out | exact HB.out | exact (Below.refl _ _).alloc (Nat.le_refl _) _)⟩)
set_option maxRecDepth 100000 in
set_option maxHeartbeats 8000000 in
theorem rnode_2 (name value:ByteArray) (n extra:Int) (A:Option Addr) (len c:Nat) (w:World) (hnm:name.size≤maxLen) (hvl:value.size≤maxLen) :
    Calls Tryz.prog 83 #[.agg #[.int .i64 2,.string name,.string value,.int .i64 n,.int .i64 extra,.slice A len c]] w fun r w'=>r = .returned (.bool (decide (NodeOk 2 name value n extra len)))∧Below w.heap.size w w':=by
  have hI:NodeOk 2 name value n extra len ↔ (len = 1∧(name.toList = [])∧value.toList = []∧n = 0∧extra = 0):=by
    unfold NodeOk
    simp [toL_nil]
  obtain ⟨r,hr⟩:∃ r,decide (NodeOk 2 name value n extra len) = r:=⟨_,rfl⟩
  rw [hr]
  have hR:r = true ↔ (len = 1∧(name.toList = [])∧value.toList = []∧n = 0∧extra = 0):=by rw [←hr,decide_eq_true_eq];exact hI
  have hF:¬ (len = 1∧(name.toList = [])∧value.toList = []∧n = 0∧extra = 0)→r = false:=fun h=>hr.symm.trans (decide_eq_false fun h2=>h (hI.1 h2))
  clear hr hI
  have HX:=Lib.hid (Has.new w 24 #[.int .i64 2,.string name,.string value,.int .i64 n,.int .i64 extra,.slice A len c])
  have HB:=Lib.hid (show Below w.heap.size w (w.alloc (.cells #[.int .i64 2,.string name,.string value,.int .i64 n,.int .i64 extra,.slice A len c] 24)) from (Below.refl _ _).alloc (Nat.le_refl _) _)
  have HN:=Lib.hid (fun W=>refName_any name W hnm)
  have HV:=Lib.hid (fun W=>refName_any value W hvl)
  clear hnm hvl
  by_cases hk:len = 1
  rotate_left
  · rcases Nat.eq_zero_or_pos len with h0 | h0
    · subst h0
      obtain rfl:=hF (fun h=>hk h.1)
      clear hR hF
      go_enter Tryz.func83,Tryz.ntmps83
      go_wp2_with fail
      go_ret
      exact ⟨rfl,HB.out⟩
    · have hk1:¬ (len:Int) < 1:=by omega
      have hk2:(1:Int) < (len:Int):=by omega
      obtain rfl:=hF (fun h=>hk h.1)
      clear hR hF
      go_enter Tryz.func83,Tryz.ntmps83
      go_wp2_with fail
      go_ret
      exact ⟨rfl,HB.out⟩
  subst hk
  have HI:=Lib.hid hR
  clear hR hF
  go_enter Tryz.func83,Tryz.ntmps83
  go_wp2_with (first | (go_at_call 33;(with_reducible show Calls _ _ #[.string name] _ _);refine (HN.out _).mono ?_;rintro e w1 ⟨rfl,rfl⟩) | (go_at_call 33;(with_reducible show Calls _ _ #[.string value] _ _);refine (HV.out _).mono ?_;rintro e w1 ⟨rfl,rfl⟩) | (go_at_call 80;refine (refReserved_any name _).mono ?_;rintro e w2 ⟨rfl,hb⟩;have HB2:=Lib.hid (HB.out.trans (hb.mono HB.out.size));obtain ⟨d2,f2⟩:=(HX.out.below hb HX.out.lt).facts;clear hb) | (go_at_call 93;refine (refNumber_any _ _ _).mono ?_;rintro e w3 ⟨rfl,rfl⟩))
  all_goals (go_ret;refine ⟨ret_bool (Bool.eq_iff_iff.2 (Iff.trans (by first | (simp [*];done) | (simp [*];omega)) HI.out.symm)),(by first | exact HB2.out | exact HB.out | exact (Below.refl _ _).alloc (Nat.le_refl _) _)⟩)
set_option maxRecDepth 100000 in
set_option maxHeartbeats 8000000 in
theorem rnode_3 (name value:ByteArray) (n extra:Int) (A:Option Addr) (len c:Nat) (w:World) (hnm:name.size≤maxLen) (hvl:value.size≤maxLen) :
    Calls Tryz.prog 83 #[.agg #[.int .i64 3,.string name,.string value,.int .i64 n,.int .i64 extra,.slice A len c]] w fun r w'=>r = .returned (.bool (decide (NodeOk 3 name value n extra len)))∧Below w.heap.size w w':=by
  have hI:NodeOk 3 name value n extra len ↔ (2≤len∧(name.toList = [])∧value.toList = []∧n = 0∧extra = 0):=by
    unfold NodeOk
    simp [toL_nil]
  obtain ⟨r,hr⟩:∃ r,decide (NodeOk 3 name value n extra len) = r:=⟨_,rfl⟩
  rw [hr]
  have hR:r = true ↔ (2≤len∧(name.toList = [])∧value.toList = []∧n = 0∧extra = 0):=by rw [←hr,decide_eq_true_eq];exact hI
  have hF:¬ (2≤len∧(name.toList = [])∧value.toList = []∧n = 0∧extra = 0)→r = false:=fun h=>hr.symm.trans (decide_eq_false fun h2=>h (hI.1 h2))
  clear hr hI
  have HX:=Lib.hid (Has.new w 24 #[.int .i64 3,.string name,.string value,.int .i64 n,.int .i64 extra,.slice A len c])
  have HB:=Lib.hid (show Below w.heap.size w (w.alloc (.cells #[.int .i64 3,.string name,.string value,.int .i64 n,.int .i64 extra,.slice A len c] 24)) from (Below.refl _ _).alloc (Nat.le_refl _) _)
  have HN:=Lib.hid (fun W=>refName_any name W hnm)
  have HV:=Lib.hid (fun W=>refName_any value W hvl)
  clear hnm hvl
  by_cases hk:2≤len
  rotate_left
  · have hk1:(len:Int) < 2:=by omega
    obtain rfl:=hF (fun h=>hk h.1)
    clear hR hF
    go_enter Tryz.func83,Tryz.ntmps83
    go_wp2_with fail
    go_ret
    exact ⟨rfl,HB.out⟩
  have hk1:¬ (len:Int) < 2:=by omega
  have HI:=Lib.hid hR
  clear hR hF
  go_enter Tryz.func83,Tryz.ntmps83
  go_wp2_with (first | (go_at_call 33;(with_reducible show Calls _ _ #[.string name] _ _);refine (HN.out _).mono ?_;rintro e w1 ⟨rfl,rfl⟩) | (go_at_call 33;(with_reducible show Calls _ _ #[.string value] _ _);refine (HV.out _).mono ?_;rintro e w1 ⟨rfl,rfl⟩) | (go_at_call 80;refine (refReserved_any name _).mono ?_;rintro e w2 ⟨rfl,hb⟩;have HB2:=Lib.hid (HB.out.trans (hb.mono HB.out.size));obtain ⟨d2,f2⟩:=(HX.out.below hb HX.out.lt).facts;clear hb) | (go_at_call 93;refine (refNumber_any _ _ _).mono ?_;rintro e w3 ⟨rfl,rfl⟩))
  all_goals (go_ret;refine ⟨ret_bool (Bool.eq_iff_iff.2 (Iff.trans (by first | (simp [*];done) | (simp [*];omega)) HI.out.symm)),(by first | exact HB2.out | exact HB.out | exact (Below.refl _ _).alloc (Nat.le_refl _) _)⟩)
set_option maxRecDepth 100000 in
set_option maxHeartbeats 8000000 in
theorem rnode_4 (name value:ByteArray) (n extra:Int) (A:Option Addr) (len c:Nat) (w:World) (hnm:name.size≤maxLen) (hvl:value.size≤maxLen) :
    Calls Tryz.prog 83 #[.agg #[.int .i64 4,.string name,.string value,.int .i64 n,.int .i64 extra,.slice A len c]] w fun r w'=>r = .returned (.bool (decide (NodeOk 4 name value n extra len)))∧Below w.heap.size w w':=by
  have hI:NodeOk 4 name value n extra len ↔ (2≤len∧(name.toList = [])∧value.toList = []∧n = 0∧extra = 0):=by
    unfold NodeOk
    simp [toL_nil]
  obtain ⟨r,hr⟩:∃ r,decide (NodeOk 4 name value n extra len) = r:=⟨_,rfl⟩
  rw [hr]
  have hR:r = true ↔ (2≤len∧(name.toList = [])∧value.toList = []∧n = 0∧extra = 0):=by rw [←hr,decide_eq_true_eq];exact hI
  have hF:¬ (2≤len∧(name.toList = [])∧value.toList = []∧n = 0∧extra = 0)→r = false:=fun h=>hr.symm.trans (decide_eq_false fun h2=>h (hI.1 h2))
  clear hr hI
  have HX:=Lib.hid (Has.new w 24 #[.int .i64 4,.string name,.string value,.int .i64 n,.int .i64 extra,.slice A len c])
  have HB:=Lib.hid (show Below w.heap.size w (w.alloc (.cells #[.int .i64 4,.string name,.string value,.int .i64 n,.int .i64 extra,.slice A len c] 24)) from (Below.refl _ _).alloc (Nat.le_refl _) _)
  have HN:=Lib.hid (fun W=>refName_any name W hnm)
  have HV:=Lib.hid (fun W=>refName_any value W hvl)
  clear hnm hvl
  by_cases hk:2≤len
  rotate_left
  · have hk1:(len:Int) < 2:=by omega
    obtain rfl:=hF (fun h=>hk h.1)
    clear hR hF
    go_enter Tryz.func83,Tryz.ntmps83
    go_wp2_with fail
    go_ret
    exact ⟨rfl,HB.out⟩
  have hk1:¬ (len:Int) < 2:=by omega
  have HI:=Lib.hid hR
  clear hR hF
  go_enter Tryz.func83,Tryz.ntmps83
  go_wp2_with (first | (go_at_call 33;(with_reducible show Calls _ _ #[.string name] _ _);refine (HN.out _).mono ?_;rintro e w1 ⟨rfl,rfl⟩) | (go_at_call 33;(with_reducible show Calls _ _ #[.string value] _ _);refine (HV.out _).mono ?_;rintro e w1 ⟨rfl,rfl⟩) | (go_at_call 80;refine (refReserved_any name _).mono ?_;rintro e w2 ⟨rfl,hb⟩;have HB2:=Lib.hid (HB.out.trans (hb.mono HB.out.size));obtain ⟨d2,f2⟩:=(HX.out.below hb HX.out.lt).facts;clear hb) | (go_at_call 93;refine (refNumber_any _ _ _).mono ?_;rintro e w3 ⟨rfl,rfl⟩))
  all_goals (go_ret;refine ⟨ret_bool (Bool.eq_iff_iff.2 (Iff.trans (by first | (simp [*];done) | (simp [*];omega)) HI.out.symm)),(by first | exact HB2.out | exact HB.out | exact (Below.refl _ _).alloc (Nat.le_refl _) _)⟩)
set_option maxRecDepth 100000 in
set_option maxHeartbeats 8000000 in
theorem rnode_5 (name value:ByteArray) (n extra:Int) (A:Option Addr) (len c:Nat) (w:World) (hnm:name.size≤maxLen) (hvl:value.size≤maxLen) :
    Calls Tryz.prog 83 #[.agg #[.int .i64 5,.string name,.string value,.int .i64 n,.int .i64 extra,.slice A len c]] w fun r w'=>r = .returned (.bool (decide (NodeOk 5 name value n extra len)))∧Below w.heap.size w w':=by
  have hI:NodeOk 5 name value n extra len ↔ (len = 0∧(nameB name = true)∧value.toList = []∧(0≤n∧n≤9999999)∧(0≤extra∧extra≤9999999)):=by
    unfold NodeOk
    simp [toL_nil]
  obtain ⟨r,hr⟩:∃ r,decide (NodeOk 5 name value n extra len) = r:=⟨_,rfl⟩
  rw [hr]
  have hR:r = true ↔ (len = 0∧(nameB name = true)∧value.toList = []∧(0≤n∧n≤9999999)∧(0≤extra∧extra≤9999999)):=by rw [←hr,decide_eq_true_eq];exact hI
  have hF:¬ (len = 0∧(nameB name = true)∧value.toList = []∧(0≤n∧n≤9999999)∧(0≤extra∧extra≤9999999))→r = false:=fun h=>hr.symm.trans (decide_eq_false fun h2=>h (hI.1 h2))
  clear hr hI
  have HX:=Lib.hid (Has.new w 24 #[.int .i64 5,.string name,.string value,.int .i64 n,.int .i64 extra,.slice A len c])
  have HB:=Lib.hid (show Below w.heap.size w (w.alloc (.cells #[.int .i64 5,.string name,.string value,.int .i64 n,.int .i64 extra,.slice A len c] 24)) from (Below.refl _ _).alloc (Nat.le_refl _) _)
  have HN:=Lib.hid (fun W=>refName_any name W hnm)
  have HV:=Lib.hid (fun W=>refName_any value W hvl)
  clear hnm hvl
  by_cases hk:len = 0
  rotate_left
  · have hk1:¬ (len:Int) < 0:=by omega
    have hk2:(0:Int) < (len:Int):=by omega
    obtain rfl:=hF (fun h=>hk h.1)
    clear hR hF
    go_enter Tryz.func83,Tryz.ntmps83
    go_wp2_with fail
    go_ret
    exact ⟨rfl,HB.out⟩
  subst hk
  have HI:=Lib.hid hR
  clear hR hF
  go_enter Tryz.func83,Tryz.ntmps83
  go_wp2_with (first | (go_at_call 33;(with_reducible show Calls _ _ #[.string name] _ _);refine (HN.out _).mono ?_;rintro e w1 ⟨rfl,rfl⟩) | (go_at_call 33;(with_reducible show Calls _ _ #[.string value] _ _);refine (HV.out _).mono ?_;rintro e w1 ⟨rfl,rfl⟩) | (go_at_call 80;refine (refReserved_any name _).mono ?_;rintro e w2 ⟨rfl,hb⟩;have HB2:=Lib.hid (HB.out.trans (hb.mono HB.out.size));obtain ⟨d2,f2⟩:=(HX.out.below hb HX.out.lt).facts;clear hb) | (go_at_call 93;refine (refNumber_any _ _ _).mono ?_;rintro e w3 ⟨rfl,rfl⟩))
  all_goals (go_ret;refine ⟨ret_bool (Bool.eq_iff_iff.2 (Iff.trans (by first | (simp [*];done) | (simp [*];omega)) HI.out.symm)),(by first | exact HB2.out | exact HB.out | exact (Below.refl _ _).alloc (Nat.le_refl _) _)⟩)
set_option maxRecDepth 100000 in
set_option maxHeartbeats 8000000 in
theorem rnode_6 (name value:ByteArray) (n extra:Int) (A:Option Addr) (len c:Nat) (w:World) (hnm:name.size≤maxLen) (hvl:value.size≤maxLen) :
    Calls Tryz.prog 83 #[.agg #[.int .i64 6,.string name,.string value,.int .i64 n,.int .i64 extra,.slice A len c]] w fun r w'=>r = .returned (.bool (decide (NodeOk 6 name value n extra len)))∧Below w.heap.size w w':=by
  have hI:NodeOk 6 name value n extra len ↔ (len = 0∧(nameB name = true)∧value.toList = []∧(0≤n∧n≤9999999)∧extra = 0):=by
    unfold NodeOk
    simp [toL_nil]
  obtain ⟨r,hr⟩:∃ r,decide (NodeOk 6 name value n extra len) = r:=⟨_,rfl⟩
  rw [hr]
  have hR:r = true ↔ (len = 0∧(nameB name = true)∧value.toList = []∧(0≤n∧n≤9999999)∧extra = 0):=by rw [←hr,decide_eq_true_eq];exact hI
  have hF:¬ (len = 0∧(nameB name = true)∧value.toList = []∧(0≤n∧n≤9999999)∧extra = 0)→r = false:=fun h=>hr.symm.trans (decide_eq_false fun h2=>h (hI.1 h2))
  clear hr hI
  have HX:=Lib.hid (Has.new w 24 #[.int .i64 6,.string name,.string value,.int .i64 n,.int .i64 extra,.slice A len c])
  have HB:=Lib.hid (show Below w.heap.size w (w.alloc (.cells #[.int .i64 6,.string name,.string value,.int .i64 n,.int .i64 extra,.slice A len c] 24)) from (Below.refl _ _).alloc (Nat.le_refl _) _)
  have HN:=Lib.hid (fun W=>refName_any name W hnm)
  have HV:=Lib.hid (fun W=>refName_any value W hvl)
  clear hnm hvl
  by_cases hk:len = 0
  rotate_left
  · have hk1:¬ (len:Int) < 0:=by omega
    have hk2:(0:Int) < (len:Int):=by omega
    obtain rfl:=hF (fun h=>hk h.1)
    clear hR hF
    go_enter Tryz.func83,Tryz.ntmps83
    go_wp2_with fail
    go_ret
    exact ⟨rfl,HB.out⟩
  subst hk
  have HI:=Lib.hid hR
  clear hR hF
  go_enter Tryz.func83,Tryz.ntmps83
  go_wp2_with (first | (go_at_call 33;(with_reducible show Calls _ _ #[.string name] _ _);refine (HN.out _).mono ?_;rintro e w1 ⟨rfl,rfl⟩) | (go_at_call 33;(with_reducible show Calls _ _ #[.string value] _ _);refine (HV.out _).mono ?_;rintro e w1 ⟨rfl,rfl⟩) | (go_at_call 80;refine (refReserved_any name _).mono ?_;rintro e w2 ⟨rfl,hb⟩;have HB2:=Lib.hid (HB.out.trans (hb.mono HB.out.size));obtain ⟨d2,f2⟩:=(HX.out.below hb HX.out.lt).facts;clear hb) | (go_at_call 93;refine (refNumber_any _ _ _).mono ?_;rintro e w3 ⟨rfl,rfl⟩))
  all_goals (go_ret;refine ⟨ret_bool (Bool.eq_iff_iff.2 (Iff.trans (by first | (simp [*];done) | (simp [*];omega)) HI.out.symm)),(by first | exact HB2.out | exact HB.out | exact (Below.refl _ _).alloc (Nat.le_refl _) _)⟩)
set_option maxRecDepth 100000 in
set_option maxHeartbeats 8000000 in
theorem rnode_7 (name value:ByteArray) (n extra:Int) (A:Option Addr) (len c:Nat) (w:World) (hnm:name.size≤maxLen) (hvl:value.size≤maxLen) :
    Calls Tryz.prog 83 #[.agg #[.int .i64 7,.string name,.string value,.int .i64 n,.int .i64 extra,.slice A len c]] w fun r w'=>r = .returned (.bool (decide (NodeOk 7 name value n extra len)))∧Below w.heap.size w w':=by
  have hI:NodeOk 7 name value n extra len ↔ (len = 0∧(nameB name = true∧resB name = false)∧(1≤value.size∧value.size≤200)∧n = 0∧extra = 0):=by
    unfold NodeOk
    simp [and_assoc]
  obtain ⟨r,hr⟩:∃ r,decide (NodeOk 7 name value n extra len) = r:=⟨_,rfl⟩
  rw [hr]
  have hR:r = true ↔ (len = 0∧(nameB name = true∧resB name = false)∧(1≤value.size∧value.size≤200)∧n = 0∧extra = 0):=by rw [←hr,decide_eq_true_eq];exact hI
  have hF:¬ (len = 0∧(nameB name = true∧resB name = false)∧(1≤value.size∧value.size≤200)∧n = 0∧extra = 0)→r = false:=fun h=>hr.symm.trans (decide_eq_false fun h2=>h (hI.1 h2))
  clear hr hI
  have HX:=Lib.hid (Has.new w 24 #[.int .i64 7,.string name,.string value,.int .i64 n,.int .i64 extra,.slice A len c])
  have HB:=Lib.hid (show Below w.heap.size w (w.alloc (.cells #[.int .i64 7,.string name,.string value,.int .i64 n,.int .i64 extra,.slice A len c] 24)) from (Below.refl _ _).alloc (Nat.le_refl _) _)
  have HN:=Lib.hid (fun W=>refName_any name W hnm)
  have HV:=Lib.hid (fun W=>refName_any value W hvl)
  clear hnm hvl
  by_cases hk:len = 0
  rotate_left
  · have hk1:¬ (len:Int) < 0:=by omega
    have hk2:(0:Int) < (len:Int):=by omega
    obtain rfl:=hF (fun h=>hk h.1)
    clear hR hF
    go_enter Tryz.func83,Tryz.ntmps83
    go_wp2_with fail
    go_ret
    exact ⟨rfl,HB.out⟩
  subst hk
  have HI:=Lib.hid hR
  clear hR hF
  go_enter Tryz.func83,Tryz.ntmps83
  go_wp2_with (first | (go_at_call 33;(with_reducible show Calls _ _ #[.string name] _ _);refine (HN.out _).mono ?_;rintro e w1 ⟨rfl,rfl⟩) | (go_at_call 33;(with_reducible show Calls _ _ #[.string value] _ _);refine (HV.out _).mono ?_;rintro e w1 ⟨rfl,rfl⟩) | (go_at_call 80;refine (refReserved_any name _).mono ?_;rintro e w2 ⟨rfl,hb⟩;have HB2:=Lib.hid (HB.out.trans (hb.mono HB.out.size));obtain ⟨d2,f2⟩:=(HX.out.below hb HX.out.lt).facts;clear hb) | (go_at_call 93;refine (refNumber_any _ _ _).mono ?_;rintro e w3 ⟨rfl,rfl⟩))
  all_goals (go_ret;refine ⟨ret_bool (Bool.eq_iff_iff.2 (Iff.trans (by first | (simp [*];done) | (simp [*];omega)) HI.out.symm)),(by first | exact HB2.out | exact HB.out | exact (Below.refl _ _).alloc (Nat.le_refl _) _)⟩)
set_option maxRecDepth 100000 in
set_option maxHeartbeats 8000000 in
theorem rnode_8 (name value:ByteArray) (n extra:Int) (A:Option Addr) (len c:Nat) (w:World) (hnm:name.size≤maxLen) (hvl:value.size≤maxLen) :
    Calls Tryz.prog 83 #[.agg #[.int .i64 8,.string name,.string value,.int .i64 n,.int .i64 extra,.slice A len c]] w fun r w'=>r = .returned (.bool (decide (NodeOk 8 name value n extra len)))∧Below w.heap.size w w':=by
  have hI:NodeOk 8 name value n extra len ↔ (len = 0∧(nameB name = true)∧value.toList = []∧n = 0∧extra = 0):=by
    unfold NodeOk
    simp [toL_nil]
  obtain ⟨r,hr⟩:∃ r,decide (NodeOk 8 name value n extra len) = r:=⟨_,rfl⟩
  rw [hr]
  have hR:r = true ↔ (len = 0∧(nameB name = true)∧value.toList = []∧n = 0∧extra = 0):=by rw [←hr,decide_eq_true_eq];exact hI
  have hF:¬ (len = 0∧(nameB name = true)∧value.toList = []∧n = 0∧extra = 0)→r = false:=fun h=>hr.symm.trans (decide_eq_false fun h2=>h (hI.1 h2))
  clear hr hI
  have HX:=Lib.hid (Has.new w 24 #[.int .i64 8,.string name,.string value,.int .i64 n,.int .i64 extra,.slice A len c])
  have HB:=Lib.hid (show Below w.heap.size w (w.alloc (.cells #[.int .i64 8,.string name,.string value,.int .i64 n,.int .i64 extra,.slice A len c] 24)) from (Below.refl _ _).alloc (Nat.le_refl _) _)
  have HN:=Lib.hid (fun W=>refName_any name W hnm)
  have HV:=Lib.hid (fun W=>refName_any value W hvl)
  clear hnm hvl
  by_cases hk:len = 0
  rotate_left
  · have hk1:¬ (len:Int) < 0:=by omega
    have hk2:(0:Int) < (len:Int):=by omega
    obtain rfl:=hF (fun h=>hk h.1)
    clear hR hF
    go_enter Tryz.func83,Tryz.ntmps83
    go_wp2_with fail
    go_ret
    exact ⟨rfl,HB.out⟩
  subst hk
  have HI:=Lib.hid hR
  clear hR hF
  go_enter Tryz.func83,Tryz.ntmps83
  go_wp2_with (first | (go_at_call 33;(with_reducible show Calls _ _ #[.string name] _ _);refine (HN.out _).mono ?_;rintro e w1 ⟨rfl,rfl⟩) | (go_at_call 33;(with_reducible show Calls _ _ #[.string value] _ _);refine (HV.out _).mono ?_;rintro e w1 ⟨rfl,rfl⟩) | (go_at_call 80;refine (refReserved_any name _).mono ?_;rintro e w2 ⟨rfl,hb⟩;have HB2:=Lib.hid (HB.out.trans (hb.mono HB.out.size));obtain ⟨d2,f2⟩:=(HX.out.below hb HX.out.lt).facts;clear hb) | (go_at_call 93;refine (refNumber_any _ _ _).mono ?_;rintro e w3 ⟨rfl,rfl⟩))
  all_goals (go_ret;refine ⟨ret_bool (Bool.eq_iff_iff.2 (Iff.trans (by first | (simp [*];done) | (simp [*];omega)) HI.out.symm)),(by first | exact HB2.out | exact HB.out | exact (Below.refl _ _).alloc (Nat.le_refl _) _)⟩)
set_option maxRecDepth 100000 in
set_option maxHeartbeats 8000000 in
theorem rnode_9 (name value:ByteArray) (n extra:Int) (A:Option Addr) (len c:Nat) (w:World) (hnm:name.size≤maxLen) (hvl:value.size≤maxLen) :
    Calls Tryz.prog 83 #[.agg #[.int .i64 9,.string name,.string value,.int .i64 n,.int .i64 extra,.slice A len c]] w fun r w'=>r = .returned (.bool (decide (NodeOk 9 name value n extra len)))∧Below w.heap.size w w':=by
  have hI:NodeOk 9 name value n extra len ↔ (len = 0∧(nameB name = true)∧nameB value = true∧n = 0∧extra = 0):=by
    unfold NodeOk
    simp
  obtain ⟨r,hr⟩:∃ r,decide (NodeOk 9 name value n extra len) = r:=⟨_,rfl⟩
  rw [hr]
  have hR:r = true ↔ (len = 0∧(nameB name = true)∧nameB value = true∧n = 0∧extra = 0):=by rw [←hr,decide_eq_true_eq];exact hI
  have hF:¬ (len = 0∧(nameB name = true)∧nameB value = true∧n = 0∧extra = 0)→r = false:=fun h=>hr.symm.trans (decide_eq_false fun h2=>h (hI.1 h2))
  clear hr hI
  have HX:=Lib.hid (Has.new w 24 #[.int .i64 9,.string name,.string value,.int .i64 n,.int .i64 extra,.slice A len c])
  have HB:=Lib.hid (show Below w.heap.size w (w.alloc (.cells #[.int .i64 9,.string name,.string value,.int .i64 n,.int .i64 extra,.slice A len c] 24)) from (Below.refl _ _).alloc (Nat.le_refl _) _)
  have HN:=Lib.hid (fun W=>refName_any name W hnm)
  have HV:=Lib.hid (fun W=>refName_any value W hvl)
  clear hnm hvl
  by_cases hk:len = 0
  rotate_left
  · have hk1:¬ (len:Int) < 0:=by omega
    have hk2:(0:Int) < (len:Int):=by omega
    obtain rfl:=hF (fun h=>hk h.1)
    clear hR hF
    go_enter Tryz.func83,Tryz.ntmps83
    go_wp2_with fail
    go_ret
    exact ⟨rfl,HB.out⟩
  subst hk
  have HI:=Lib.hid hR
  clear hR hF
  go_enter Tryz.func83,Tryz.ntmps83
  go_wp2_with (first | (go_at_call 33;(with_reducible show Calls _ _ #[.string name] _ _);refine (HN.out _).mono ?_;rintro e w1 ⟨rfl,rfl⟩) | (go_at_call 33;(with_reducible show Calls _ _ #[.string value] _ _);refine (HV.out _).mono ?_;rintro e w1 ⟨rfl,rfl⟩) | (go_at_call 80;refine (refReserved_any name _).mono ?_;rintro e w2 ⟨rfl,hb⟩;have HB2:=Lib.hid (HB.out.trans (hb.mono HB.out.size));obtain ⟨d2,f2⟩:=(HX.out.below hb HX.out.lt).facts;clear hb) | (go_at_call 93;refine (refNumber_any _ _ _).mono ?_;rintro e w3 ⟨rfl,rfl⟩))
  all_goals (go_ret;refine ⟨ret_bool (Bool.eq_iff_iff.2 (Iff.trans (by first | (simp [*];done) | (simp [*];omega)) HI.out.symm)),(by first | exact HB2.out | exact HB.out | exact (Below.refl _ _).alloc (Nat.le_refl _) _)⟩)
set_option maxRecDepth 100000 in
set_option maxHeartbeats 8000000 in
theorem rnode_10 (name value:ByteArray) (n extra:Int) (A:Option Addr) (len c:Nat) (w:World) (hnm:name.size≤maxLen) (hvl:value.size≤maxLen) :
    Calls Tryz.prog 83 #[.agg #[.int .i64 10,.string name,.string value,.int .i64 n,.int .i64 extra,.slice A len c]] w fun r w'=>r = .returned (.bool (decide (NodeOk 10 name value n extra len)))∧Below w.heap.size w w':=by
  have hI:NodeOk 10 name value n extra len ↔ (len = 1∧(nameB name = true)∧value.toList = []∧n = 0∧extra = 0):=by
    unfold NodeOk
    simp [toL_nil]
  obtain ⟨r,hr⟩:∃ r,decide (NodeOk 10 name value n extra len) = r:=⟨_,rfl⟩
  rw [hr]
  have hR:r = true ↔ (len = 1∧(nameB name = true)∧value.toList = []∧n = 0∧extra = 0):=by rw [←hr,decide_eq_true_eq];exact hI
  have hF:¬ (len = 1∧(nameB name = true)∧value.toList = []∧n = 0∧extra = 0)→r = false:=fun h=>hr.symm.trans (decide_eq_false fun h2=>h (hI.1 h2))
  clear hr hI
  have HX:=Lib.hid (Has.new w 24 #[.int .i64 10,.string name,.string value,.int .i64 n,.int .i64 extra,.slice A len c])
  have HB:=Lib.hid (show Below w.heap.size w (w.alloc (.cells #[.int .i64 10,.string name,.string value,.int .i64 n,.int .i64 extra,.slice A len c] 24)) from (Below.refl _ _).alloc (Nat.le_refl _) _)
  have HN:=Lib.hid (fun W=>refName_any name W hnm)
  have HV:=Lib.hid (fun W=>refName_any value W hvl)
  clear hnm hvl
  by_cases hk:len = 1
  rotate_left
  · rcases Nat.eq_zero_or_pos len with h0 | h0
    · subst h0
      obtain rfl:=hF (fun h=>hk h.1)
      clear hR hF
      go_enter Tryz.func83,Tryz.ntmps83
      go_wp2_with fail
      go_ret
      exact ⟨rfl,HB.out⟩
    · have hk1:¬ (len:Int) < 1:=by omega
      have hk2:(1:Int) < (len:Int):=by omega
      obtain rfl:=hF (fun h=>hk h.1)
      clear hR hF
      go_enter Tryz.func83,Tryz.ntmps83
      go_wp2_with fail
      go_ret
      exact ⟨rfl,HB.out⟩
  subst hk
  have HI:=Lib.hid hR
  clear hR hF
  go_enter Tryz.func83,Tryz.ntmps83
  go_wp2_with (first | (go_at_call 33;(with_reducible show Calls _ _ #[.string name] _ _);refine (HN.out _).mono ?_;rintro e w1 ⟨rfl,rfl⟩) | (go_at_call 33;(with_reducible show Calls _ _ #[.string value] _ _);refine (HV.out _).mono ?_;rintro e w1 ⟨rfl,rfl⟩) | (go_at_call 80;refine (refReserved_any name _).mono ?_;rintro e w2 ⟨rfl,hb⟩;have HB2:=Lib.hid (HB.out.trans (hb.mono HB.out.size));obtain ⟨d2,f2⟩:=(HX.out.below hb HX.out.lt).facts;clear hb) | (go_at_call 93;refine (refNumber_any _ _ _).mono ?_;rintro e w3 ⟨rfl,rfl⟩))
  all_goals (go_ret;refine ⟨ret_bool (Bool.eq_iff_iff.2 (Iff.trans (by first | (simp [*];done) | (simp [*];omega)) HI.out.symm)),(by first | exact HB2.out | exact HB.out | exact (Below.refl _ _).alloc (Nat.le_refl _) _)⟩)
set_option maxRecDepth 100000 in
set_option maxHeartbeats 8000000 in
theorem rnode_11 (name value:ByteArray) (n extra:Int) (A:Option Addr) (len c:Nat) (w:World) (hnm:name.size≤maxLen) (hvl:value.size≤maxLen) :
    Calls Tryz.prog 83 #[.agg #[.int .i64 11,.string name,.string value,.int .i64 n,.int .i64 extra,.slice A len c]] w fun r w'=>r = .returned (.bool (decide (NodeOk 11 name value n extra len)))∧Below w.heap.size w w':=by
  have hI:NodeOk 11 name value n extra len ↔ (len = 1∧(nameB name = true)∧value.toList = []∧n = 0∧extra = 0):=by
    unfold NodeOk
    simp [toL_nil]
  obtain ⟨r,hr⟩:∃ r,decide (NodeOk 11 name value n extra len) = r:=⟨_,rfl⟩
  rw [hr]
  have hR:r = true ↔ (len = 1∧(nameB name = true)∧value.toList = []∧n = 0∧extra = 0):=by rw [←hr,decide_eq_true_eq];exact hI
  have hF:¬ (len = 1∧(nameB name = true)∧value.toList = []∧n = 0∧extra = 0)→r = false:=fun h=>hr.symm.trans (decide_eq_false fun h2=>h (hI.1 h2))
  clear hr hI
  have HX:=Lib.hid (Has.new w 24 #[.int .i64 11,.string name,.string value,.int .i64 n,.int .i64 extra,.slice A len c])
  have HB:=Lib.hid (show Below w.heap.size w (w.alloc (.cells #[.int .i64 11,.string name,.string value,.int .i64 n,.int .i64 extra,.slice A len c] 24)) from (Below.refl _ _).alloc (Nat.le_refl _) _)
  have HN:=Lib.hid (fun W=>refName_any name W hnm)
  have HV:=Lib.hid (fun W=>refName_any value W hvl)
  clear hnm hvl
  by_cases hk:len = 1
  rotate_left
  · rcases Nat.eq_zero_or_pos len with h0 | h0
    · subst h0
      obtain rfl:=hF (fun h=>hk h.1)
      clear hR hF
      go_enter Tryz.func83,Tryz.ntmps83
      go_wp2_with fail
      go_ret
      exact ⟨rfl,HB.out⟩
    · have hk1:¬ (len:Int) < 1:=by omega
      have hk2:(1:Int) < (len:Int):=by omega
      obtain rfl:=hF (fun h=>hk h.1)
      clear hR hF
      go_enter Tryz.func83,Tryz.ntmps83
      go_wp2_with fail
      go_ret
      exact ⟨rfl,HB.out⟩
  subst hk
  have HI:=Lib.hid hR
  clear hR hF
  go_enter Tryz.func83,Tryz.ntmps83
  go_wp2_with (first | (go_at_call 33;(with_reducible show Calls _ _ #[.string name] _ _);refine (HN.out _).mono ?_;rintro e w1 ⟨rfl,rfl⟩) | (go_at_call 33;(with_reducible show Calls _ _ #[.string value] _ _);refine (HV.out _).mono ?_;rintro e w1 ⟨rfl,rfl⟩) | (go_at_call 80;refine (refReserved_any name _).mono ?_;rintro e w2 ⟨rfl,hb⟩;have HB2:=Lib.hid (HB.out.trans (hb.mono HB.out.size));obtain ⟨d2,f2⟩:=(HX.out.below hb HX.out.lt).facts;clear hb) | (go_at_call 93;refine (refNumber_any _ _ _).mono ?_;rintro e w3 ⟨rfl,rfl⟩))
  all_goals (go_ret;refine ⟨ret_bool (Bool.eq_iff_iff.2 (Iff.trans (by first | (simp [*];done) | (simp [*];omega)) HI.out.symm)),(by first | exact HB2.out | exact HB.out | exact (Below.refl _ _).alloc (Nat.le_refl _) _)⟩)
set_option maxRecDepth 100000 in
set_option maxHeartbeats 8000000 in
theorem rnode_12 (name value:ByteArray) (n extra:Int) (A:Option Addr) (len c:Nat) (w:World) (hnm:name.size≤maxLen) (hvl:value.size≤maxLen) :
    Calls Tryz.prog 83 #[.agg #[.int .i64 12,.string name,.string value,.int .i64 n,.int .i64 extra,.slice A len c]] w fun r w'=>r = .returned (.bool (decide (NodeOk 12 name value n extra len)))∧Below w.heap.size w w':=by
  have hI:NodeOk 12 name value n extra len ↔ (len = 0∧(nameB name = true)∧value.toList = []∧(1≤n∧n≤9999999)∧extra = 0):=by
    unfold NodeOk
    simp [toL_nil]
  obtain ⟨r,hr⟩:∃ r,decide (NodeOk 12 name value n extra len) = r:=⟨_,rfl⟩
  rw [hr]
  have hR:r = true ↔ (len = 0∧(nameB name = true)∧value.toList = []∧(1≤n∧n≤9999999)∧extra = 0):=by rw [←hr,decide_eq_true_eq];exact hI
  have hF:¬ (len = 0∧(nameB name = true)∧value.toList = []∧(1≤n∧n≤9999999)∧extra = 0)→r = false:=fun h=>hr.symm.trans (decide_eq_false fun h2=>h (hI.1 h2))
  clear hr hI
  have HX:=Lib.hid (Has.new w 24 #[.int .i64 12,.string name,.string value,.int .i64 n,.int .i64 extra,.slice A len c])
  have HB:=Lib.hid (show Below w.heap.size w (w.alloc (.cells #[.int .i64 12,.string name,.string value,.int .i64 n,.int .i64 extra,.slice A len c] 24)) from (Below.refl _ _).alloc (Nat.le_refl _) _)
  have HN:=Lib.hid (fun W=>refName_any name W hnm)
  have HV:=Lib.hid (fun W=>refName_any value W hvl)
  clear hnm hvl
  by_cases hk:len = 0
  rotate_left
  · have hk1:¬ (len:Int) < 0:=by omega
    have hk2:(0:Int) < (len:Int):=by omega
    obtain rfl:=hF (fun h=>hk h.1)
    clear hR hF
    go_enter Tryz.func83,Tryz.ntmps83
    go_wp2_with fail
    go_ret
    exact ⟨rfl,HB.out⟩
  subst hk
  have HI:=Lib.hid hR
  clear hR hF
  go_enter Tryz.func83,Tryz.ntmps83
  go_wp2_with (first | (go_at_call 33;(with_reducible show Calls _ _ #[.string name] _ _);refine (HN.out _).mono ?_;rintro e w1 ⟨rfl,rfl⟩) | (go_at_call 33;(with_reducible show Calls _ _ #[.string value] _ _);refine (HV.out _).mono ?_;rintro e w1 ⟨rfl,rfl⟩) | (go_at_call 80;refine (refReserved_any name _).mono ?_;rintro e w2 ⟨rfl,hb⟩;have HB2:=Lib.hid (HB.out.trans (hb.mono HB.out.size));obtain ⟨d2,f2⟩:=(HX.out.below hb HX.out.lt).facts;clear hb) | (go_at_call 93;refine (refNumber_any _ _ _).mono ?_;rintro e w3 ⟨rfl,rfl⟩))
  all_goals (go_ret;refine ⟨ret_bool (Bool.eq_iff_iff.2 (Iff.trans (by first | (simp [*];done) | (simp [*];omega)) HI.out.symm)),(by first | exact HB2.out | exact HB.out | exact (Below.refl _ _).alloc (Nat.le_refl _) _)⟩)
set_option maxRecDepth 100000 in
set_option maxHeartbeats 8000000 in
theorem rnode_0 (op:Int) (name value:ByteArray) (n extra:Int) (A:Option Addr) (len c:Nat) (w:World) (h:¬ (1≤op∧op≤12)) :
    Calls Tryz.prog 83 #[.agg #[.int .i64 op,.string name,.string value,.int .i64 n,.int .i64 extra,.slice A len c]] w fun r w'=>r = .returned (.bool (decide (NodeOk op name value n extra len)))∧Below w.heap.size w w':=by
  rw [decide_eq_false (fun hh=>h hh.1)]
  have HB:=Lib.hid (show Below w.heap.size w (w.alloc (.cells #[.int .i64 op,.string name,.string value,.int .i64 n,.int .i64 extra,.slice A len c] 24)) from (Below.refl _ _).alloc (Nat.le_refl _) _)
  by_cases h1:op < 1
  · clear h
    go_enter Tryz.func83,Tryz.ntmps83
    go_wp2_with fail
    go_ret
    exact ⟨rfl,HB.out⟩
  · have h2:(12:Int) < op:=by omega
    clear h
    go_enter Tryz.func83,Tryz.ntmps83
    go_wp2_with fail
    go_ret
    exact ⟨rfl,HB.out⟩
theorem rnode_any (e:Ex) (A:Option Addr) (c:Nat) (w:World) (hnm:e.name.size≤maxLen) (hvl:e.value.size≤maxLen) :
    Calls Tryz.prog 83 #[.agg #[.int .i64 e.op,.string e.name,.string e.value,.int .i64 e.n,.int .i64 e.extra,.slice A e.kids.length c]] w fun r w'=>r = .returned (.bool (nodeB e))∧Below w.heap.size w w':=by
  obtain ⟨op,name,value,n,extra,ks⟩:=e
  show Calls Tryz.prog 83 #[.agg #[.int .i64 op,.string name,.string value,.int .i64 n,.int .i64 extra,.slice A ks.length c]] w fun r w'=>r = .returned (.bool (decide (NodeOk op name value n extra ks.length)))∧Below w.heap.size w w'
  by_cases h:1≤op∧op≤12
  · obtain rfl | rfl | rfl | rfl | rfl | rfl | rfl | rfl | rfl | rfl | rfl | rfl:op = 1∨op = 2∨op = 3∨op = 4∨op = 5∨op = 6∨op = 7∨op = 8∨op = 9∨op = 10∨op = 11∨op = 12:=by omega
    · exact rnode_1 name value n extra A ks.length c w hnm hvl
    · exact rnode_2 name value n extra A ks.length c w hnm hvl
    · exact rnode_3 name value n extra A ks.length c w hnm hvl
    · exact rnode_4 name value n extra A ks.length c w hnm hvl
    · exact rnode_5 name value n extra A ks.length c w hnm hvl
    · exact rnode_6 name value n extra A ks.length c w hnm hvl
    · exact rnode_7 name value n extra A ks.length c w hnm hvl
    · exact rnode_8 name value n extra A ks.length c w hnm hvl
    · exact rnode_9 name value n extra A ks.length c w hnm hvl
    · exact rnode_10 name value n extra A ks.length c w hnm hvl
    · exact rnode_11 name value n extra A ks.length c w hnm hvl
    · exact rnode_12 name value n extra A ks.length c w hnm hvl
  · exact rnode_0 op name value n extra A ks.length c w h
end Go.Proofs.YtppoeiofdmlpeaaGreatDoor
