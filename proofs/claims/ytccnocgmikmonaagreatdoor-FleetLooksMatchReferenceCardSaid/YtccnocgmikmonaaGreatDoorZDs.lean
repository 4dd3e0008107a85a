/- slices.Equal on properties; fleet.Same's comparing of two parts. No condition but sizes. slices.EqualFunc on parts; fleet.Same. No condition but sizes. -/
import Derived.BigQuiet
import Derived.Deep.QuietTactic
import Derived.Test.YtccnocgmikmonaaGreatDoorU24
import Derived.Test.YtccnocgmikmonaaGreatDoorU25
import Derived.Test.YtccnocgmikmonaaGreatDoorU27
namespace Go.Proofs.YtccnocgmikmonaaGreatDoor
open Go Go.RowKit
set_option maxRecDepth 100000 in
set_option maxHeartbeats 4000000 in
theorem propsEq_any (w0 : World) (pprops qprops : List Pr) (A1 A2 : Option Addr) (c1 c2 : Nat) (w : World) (hb0 : Below w0.heap.size w0 w) (h1 : Rd 2 PrR w0 (.slice A1 pprops.length c1) pprops) (h2 : Rd 2 PrR w0 (.slice A2 qprops.length c2) qprops) (hl1 : pprops.length ≤ 100000) :
    Calls Tryz.prog 39 #[.slice A1 pprops.length c1, .slice A2 qprops.length c2] w fun e w' => e = .returned (.bool (decide (pprops = qprops))) ∧ Below w.heap.size w w' := by
  have H1 := Lib.hid h1
  have H2 := Lib.hid h2
  have HB0 := Lib.hid hb0
  have hsz0 := hb0.size
  clear h1 h2 hb0
  by_cases hln : pprops.length = qprops.length
  · have HLN := Lib.hid hln
    have hli : (pprops.length : Int) = (qprops.length : Int) := by omega
    clear hln
    go_enter Tryz.func39, Tryz.ntmps39
    go_wp2_with fail
    go_loopw [13] (fun i wr => ∃ k : Nat, k ≤ pprops.length ∧ i = .int .i64 k ∧ Hid (∀ j, j < k → pprops.getD j noPr = qprops.getD j noPr) ∧ Hid (Below w.heap.size w wr)) (fun i _ => pprops.length - (intOf i).toNat)
    case atStart => exact ⟨0, Nat.zero_le _, rfl, fun j hj => absurd hj (by omega), Below.refl _ _⟩
    case round =>
      obtain ⟨k, hk, rfl, HT, HBB⟩ := hrel
      by_cases hlt : k < pprops.length
      · have hlq : k < qprops.length := by rw [← HLN.out]; exact hlt
        obtain ⟨b1, o1, c', cs', he, _, rfl, _, hr1⟩ := H1.out.get hlt noPr
        injection he with e1 e2 e3
        subst e1; subst e3
        obtain ⟨b2, o2, c'', cs'', he, _, rfl, _, hr2⟩ := H2.out.get hlq noPr
        injection he with e1 e2 e3
        subst e1; subst e3
        have hki : (k : Int) < (pprops.length : Int) := by omega
        have hkq : (k : Int) < (qprops.length : Int) := by omega
        have hd := Lib.hid (fun h : pprops.getD k noPr ≠ qprops.getD k noPr => (decide_eq_false fun e => h (by rw [e]) : decide (pprops = qprops) = false))
        have hs := Lib.hid (fun h : pprops.getD k noPr = qprops.getD k noPr => fun j (hj : j < k + 1) => (by
          rcases Nat.lt_or_ge j k with h1 | h1
          · exact HT.out j h1
          · obtain rfl : j = k := by omega
            exact h : pprops.getD j noPr = qprops.getD j noPr))
        have g1 := range_later hr1 (HB0.out.trans (HBB.out.mono hsz0))
        have g2 := range_later hr2 (HB0.out.trans (HBB.out.mono hsz0))
        clear hr1 hr2
        generalize pprops.getD k noPr = x at *
        generalize qprops.getD k noPr = y at *
        obtain ⟨xk, xv⟩ := x
        obtain ⟨yk, yv⟩ := y
        have y0 : wr.cell? ⟨b1, o1 + k * 2, none⟩ = some (.string xk) := g1 0 _ rfl
        have y1 : wr.cell? ⟨b1, o1 + k * 2 + 1, none⟩ = some (.string xv) := g1 1 _ rfl
        have y2 : wr.cell? ⟨b2, o2 + k * 2, none⟩ = some (.string yk) := g2 0 _ rfl
        have y3 : wr.cell? ⟨b2, o2 + k * 2 + 1, none⟩ = some (.string yv) := g2 1 _ rfl
        clear g1 g2
        cases ek : (xk.toList == yk.toList)
        · have hne := Lib.hid (hd.out (by rw [beq_bytes] at ek; have := of_decide_eq_false ek; simp [this]))
          go_wp2_with fail
          go_quiet (fail)
          go_wp2_with fail
          go_ret
          exact ⟨ret_bool (by rw [hne.out]), below_drewN HBB.out _⟩
        · cases ev : (xv.toList == yv.toList)
          · have hne := Lib.hid (hd.out (by rw [beq_bytes] at ev; have := of_decide_eq_false ev; simp [this]))
            go_wp2_with fail
            go_quiet (fail)
            go_wp2_with fail
            go_ret
            exact ⟨ret_bool (by rw [hne.out]), below_drewN HBB.out _⟩
          · have hst := Lib.hid (hs.out (by rw [beq_bytes] at ek ev; rw [of_decide_eq_true ek, of_decide_eq_true ev]))
            go_wp2_with fail
            go_quiet (fail)
            go_wp2_with fail
            go_roundw
            case rel => exact ⟨k + 1, by omega, by go_num, hst.out, below_drewN HBB.out _⟩
            case measure => simp [intOf]; omega
      · obtain rfl : k = pprops.length := by omega
        have hfin := Lib.hid (decide_eq_true (Pr_ext HLN.out HT.out) : decide (pprops = qprops) = true)
        go_wp2_with fail
        go_ret
        exact ⟨ret_bool (by rw [hfin.out]), HBB.out⟩
  · have hli : ¬ (pprops.length : Int) = (qprops.length : Int) := by omega
    have hd := Lib.hid (decide_eq_false (fun e => hln (by rw [e])) : decide (pprops = qprops) = false)
    clear hln
    rw [hd.out]
    go_enter Tryz.func39, Tryz.ntmps39
    go_wp2_with fail
    go_ret
    exact ⟨rfl, Below.refl _ _⟩
set_option maxRecDepth 100000 in
set_option maxHeartbeats 8000000 in
theorem sameP_any (w0 : World) (pname pkind pinto pslot : ByteArray) (pmade psince : Int) (pgone : Bool) (pprops : List Pr) (pkl pkh pcl pch pdl pdh : Int) (qname qkind qinto qslot : ByteArray) (qmade qsince : Int) (qgone : Bool) (qprops : List Pr) (qkl qkh qcl qch qdl qdh : Int)
    (A1 A2 : Option Addr) (c1 c2 : Nat) (w : World) (hb0 : Below w0.heap.size w0 w) (h1 : Rd 2 PrR w0 (.slice A1 pprops.length c1) pprops) (h2 : Rd 2 PrR w0 (.slice A2 qprops.length c2) qprops) (hl1 : pprops.length ≤ 100000) :
    Calls Tryz.prog 38 #[.agg #[.string pname, .string pkind, .string pinto, .string pslot, .int .i64 pmade, .int .i64 psince, .bool pgone, .slice A1 pprops.length c1, .int .i64 pkl, .int .i64 pkh, .int .i64 pcl, .int .i64 pch, .int .i64 pdl, .int .i64 pdh], .agg #[.string qname, .string qkind, .string qinto, .string qslot, .int .i64 qmade, .int .i64 qsince, .bool qgone, .slice A2 qprops.length c2, .int .i64 qkl, .int .i64 qkh, .int .i64 qcl, .int .i64 qch, .int .i64 qdl, .int .i64 qdh]] w fun e w' => e = .returned (.bool (decide ((⟨pname, pkind, pinto, pslot, pmade, psince, pgone, pprops, pkl, pkh, pcl, pch, pdl, pdh⟩ : Pa) = ⟨qname, qkind, qinto, qslot, qmade, qsince, qgone, qprops, qkl, qkh, qcl, qch, qdl, qdh⟩))) ∧ Below w.heap.size w w' := by
  have hb1 := ((Below.refl w.heap.size w).alloc (Nat.le_refl _) (.cells #[.string pname, .string pkind, .string pinto, .string pslot, .int .i64 pmade, .int .i64 psince, .bool pgone, .slice A1 pprops.length c1, .int .i64 pkl, .int .i64 pkh, .int .i64 pcl, .int .i64 pch, .int .i64 pdl, .int .i64 pdh] 33)).alloc (by simp) (.cells #[.string qname, .string qkind, .string qinto, .string qslot, .int .i64 qmade, .int .i64 qsince, .bool qgone, .slice A2 qprops.length c2, .int .i64 qkl, .int .i64 qkh, .int .i64 qcl, .int .i64 qch, .int .i64 qdl, .int .i64 qdh] 33)
  have HPE := Lib.hid (propsEq_any w0 pprops qprops A1 A2 c1 c2 _ (hb0.trans (hb1.mono hb0.size)) h1 h2 hl1)
  have HB1 := Lib.hid hb1
  have HP := Lib.hid ((Has.new w 33 #[.string pname, .string pkind, .string pinto, .string pslot, .int .i64 pmade, .int .i64 psince, .bool pgone, .slice A1 pprops.length c1, .int .i64 pkl, .int .i64 pkh, .int .i64 pcl, .int .i64 pch, .int .i64 pdl, .int .i64 pdh]).alloc (.cells #[.string qname, .string qkind, .string qinto, .string qslot, .int .i64 qmade, .int .i64 qsince, .bool qgone, .slice A2 qprops.length c2, .int .i64 qkl, .int .i64 qkh, .int .i64 qcl, .int .i64 qch, .int .i64 qdl, .int .i64 qdh] 33))
  have hq := Has.new (w.alloc (.cells #[.string pname, .string pkind, .string pinto, .string pslot, .int .i64 pmade, .int .i64 psince, .bool pgone, .slice A1 pprops.length c1, .int .i64 pkl, .int .i64 pkh, .int .i64 pcl, .int .i64 pch, .int .i64 pdl, .int .i64 pdh] 33)) 33 #[.string qname, .string qkind, .string qinto, .string qslot, .int .i64 qmade, .int .i64 qsince, .bool qgone, .slice A2 qprops.length c2, .int .i64 qkl, .int .i64 qkh, .int .i64 qcl, .int .i64 qch, .int .i64 qdl, .int .i64 qdh]
  rw [World.size_alloc] at hq
  have HQ := Lib.hid hq
  obtain ⟨u1, u2⟩ := HP.out.facts
  obtain ⟨u3, u4⟩ := hq.facts
  clear hb1 hq h1 h2 hb0
  by_cases eprops : ¬ pprops = qprops
  · have hb : decide (pprops = qprops) = false := decide_eq_false eprops
    rw [hb] at HPE
    have hd := Lib.hid (show decide ((⟨pname, pkind, pinto, pslot, pmade, psince, pgone, pprops, pkl, pkh, pcl, pch, pdl, pdh⟩ : Pa) = ⟨qname, qkind, qinto, qslot, qmade, qsince, qgone, qprops, qkl, qkh, qcl, qch, qdl, qdh⟩) = false from decide_eq_false fun e => eprops (by injection e))
    clear eprops
    rw [hd.out]
    go_enter Tryz.func38, Tryz.ntmps38
    go_wp2_with (go_at_call 39; refine HPE.out.mono ?_; rintro e w5 ⟨rfl, hb5⟩; have hp5 := HP.out.below hb5 HP.out.lt; have hq5 := HQ.out.below hb5 HQ.out.lt; obtain ⟨v1, v2⟩ := hp5.facts; obtain ⟨v3, v4⟩ := hq5.facts; have HB5 := Lib.hid (HB1.out.trans (hb5.mono HB1.out.size)); clear hb5 hp5 hq5)
    go_ret
    exact ⟨rfl, HB5.out⟩
  obtain rfl := Classical.not_not.1 eprops
  rw [decide_eq_true rfl] at HPE
  by_cases ename : ¬ pname = qname
  · have hb := beS ename
    have hd := Lib.hid (show decide ((⟨pname, pkind, pinto, pslot, pmade, psince, pgone, pprops, pkl, pkh, pcl, pch, pdl, pdh⟩ : Pa) = ⟨qname, qkind, qinto, qslot, qmade, qsince, qgone, pprops, qkl, qkh, qcl, qch, qdl, qdh⟩) = false from decide_eq_false fun e => ename (by injection e))
    clear ename
    rw [hd.out]
    go_enter Tryz.func38, Tryz.ntmps38
    go_wp2_with (go_at_call 39; refine HPE.out.mono ?_; rintro e w5 ⟨rfl, hb5⟩; have hp5 := HP.out.below hb5 HP.out.lt; have hq5 := HQ.out.below hb5 HQ.out.lt; obtain ⟨v1, v2⟩ := hp5.facts; obtain ⟨v3, v4⟩ := hq5.facts; have HB5 := Lib.hid (HB1.out.trans (hb5.mono HB1.out.size)); clear hb5 hp5 hq5)
    go_ret
    exact ⟨rfl, HB5.out⟩
  obtain rfl := Classical.not_not.1 ename
  by_cases ekind : ¬ pkind = qkind
  · have hb := beS ekind
    have hd := Lib.hid (show decide ((⟨pname, pkind, pinto, pslot, pmade, psince, pgone, pprops, pkl, pkh, pcl, pch, pdl, pdh⟩ : Pa) = ⟨pname, qkind, qinto, qslot, qmade, qsince, qgone, pprops, qkl, qkh, qcl, qch, qdl, qdh⟩) = false from decide_eq_false fun e => ekind (by injection e))
    clear ekind
    rw [hd.out]
    go_enter Tryz.func38, Tryz.ntmps38
    go_wp2_with (go_at_call 39; refine HPE.out.mono ?_; rintro e w5 ⟨rfl, hb5⟩; have hp5 := HP.out.below hb5 HP.out.lt; have hq5 := HQ.out.below hb5 HQ.out.lt; obtain ⟨v1, v2⟩ := hp5.facts; obtain ⟨v3, v4⟩ := hq5.facts; have HB5 := Lib.hid (HB1.out.trans (hb5.mono HB1.out.size)); clear hb5 hp5 hq5)
    go_ret
    exact ⟨rfl, HB5.out⟩
  obtain rfl := Classical.not_not.1 ekind
  by_cases einto : ¬ pinto = qinto
  · have hb := beS einto
    have hd := Lib.hid (show decide ((⟨pname, pkind, pinto, pslot, pmade, psince, pgone, pprops, pkl, pkh, pcl, pch, pdl, pdh⟩ : Pa) = ⟨pname, pkind, qinto, qslot, qmade, qsince, qgone, pprops, qkl, qkh, qcl, qch, qdl, qdh⟩) = false from decide_eq_false fun e => einto (by injection e))
    clear einto
    rw [hd.out]
    go_enter Tryz.func38, Tryz.ntmps38
    go_wp2_with (go_at_call 39; refine HPE.out.mono ?_; rintro e w5 ⟨rfl, hb5⟩; have hp5 := HP.out.below hb5 HP.out.lt; have hq5 := HQ.out.below hb5 HQ.out.lt; obtain ⟨v1, v2⟩ := hp5.facts; obtain ⟨v3, v4⟩ := hq5.facts; have HB5 := Lib.hid (HB1.out.trans (hb5.mono HB1.out.size)); clear hb5 hp5 hq5)
    go_ret
    exact ⟨rfl, HB5.out⟩
  obtain rfl := Classical.not_not.1 einto
  by_cases eslot : ¬ pslot = qslot
  · have hb := beS eslot
    have hd := Lib.hid (show decide ((⟨pname, pkind, pinto, pslot, pmade, psince, pgone, pprops, pkl, pkh, pcl, pch, pdl, pdh⟩ : Pa) = ⟨pname, pkind, pinto, qslot, qmade, qsince, qgone, pprops, qkl, qkh, qcl, qch, qdl, qdh⟩) = false from decide_eq_false fun e => eslot (by injection e))
    clear eslot
    rw [hd.out]
    go_enter Tryz.func38, Tryz.ntmps38
    go_wp2_with (go_at_call 39; refine HPE.out.mono ?_; rintro e w5 ⟨rfl, hb5⟩; have hp5 := HP.out.below hb5 HP.out.lt; have hq5 := HQ.out.below hb5 HQ.out.lt; obtain ⟨v1, v2⟩ := hp5.facts; obtain ⟨v3, v4⟩ := hq5.facts; have HB5 := Lib.hid (HB1.out.trans (hb5.mono HB1.out.size)); clear hb5 hp5 hq5)
    go_ret
    exact ⟨rfl, HB5.out⟩
  obtain rfl := Classical.not_not.1 eslot
  by_cases emade : ¬ pmade = qmade
  · have hb : decide (pmade = qmade) = false := decide_eq_false emade
    have hb2 : (pmade == qmade) = false := by simpa using emade
    have hb3 := emade
    have hd := Lib.hid (show decide ((⟨pname, pkind, pinto, pslot, pmade, psince, pgone, pprops, pkl, pkh, pcl, pch, pdl, pdh⟩ : Pa) = ⟨pname, pkind, pinto, pslot, qmade, qsince, qgone, pprops, qkl, qkh, qcl, qch, qdl, qdh⟩) = false from decide_eq_false fun e => emade (by injection e))
    rw [hd.out]
    go_enter Tryz.func38, Tryz.ntmps38
    go_wp2_with (go_at_call 39; refine HPE.out.mono ?_; rintro e w5 ⟨rfl, hb5⟩; have hp5 := HP.out.below hb5 HP.out.lt; have hq5 := HQ.out.below hb5 HQ.out.lt; obtain ⟨v1, v2⟩ := hp5.facts; obtain ⟨v3, v4⟩ := hq5.facts; have HB5 := Lib.hid (HB1.out.trans (hb5.mono HB1.out.size)); clear hb5 hp5 hq5)
    go_ret
    exact ⟨rfl, HB5.out⟩
  obtain rfl := Classical.not_not.1 emade
  by_cases esince : ¬ psince = qsince
  · have hb : decide (psince = qsince) = false := decide_eq_false esince
    have hb2 : (psince == qsince) = false := by simpa using esince
    have hb3 := esince
    have hd := Lib.hid (show decide ((⟨pname, pkind, pinto, pslot, pmade, psince, pgone, pprops, pkl, pkh, pcl, pch, pdl, pdh⟩ : Pa) = ⟨pname, pkind, pinto, pslot, pmade, qsince, qgone, pprops, qkl, qkh, qcl, qch, qdl, qdh⟩) = false from decide_eq_false fun e => esince (by injection e))
    rw [hd.out]
    go_enter Tryz.func38, Tryz.ntmps38
    go_wp2_with (go_at_call 39; refine HPE.out.mono ?_; rintro e w5 ⟨rfl, hb5⟩; have hp5 := HP.out.below hb5 HP.out.lt; have hq5 := HQ.out.below hb5 HQ.out.lt; obtain ⟨v1, v2⟩ := hp5.facts; obtain ⟨v3, v4⟩ := hq5.facts; have HB5 := Lib.hid (HB1.out.trans (hb5.mono HB1.out.size)); clear hb5 hp5 hq5)
    go_ret
    exact ⟨rfl, HB5.out⟩
  obtain rfl := Classical.not_not.1 esince
  by_cases egone : ¬ pgone = qgone
  · have hb := beB egone
    have hd := Lib.hid (show decide ((⟨pname, pkind, pinto, pslot, pmade, psince, pgone, pprops, pkl, pkh, pcl, pch, pdl, pdh⟩ : Pa) = ⟨pname, pkind, pinto, pslot, pmade, psince, qgone, pprops, qkl, qkh, qcl, qch, qdl, qdh⟩) = false from decide_eq_false fun e => egone (by injection e))
    clear egone
    rw [hd.out]
    go_enter Tryz.func38, Tryz.ntmps38
    go_wp2_with (go_at_call 39; refine HPE.out.mono ?_; rintro e w5 ⟨rfl, hb5⟩; have hp5 := HP.out.below hb5 HP.out.lt; have hq5 := HQ.out.below hb5 HQ.out.lt; obtain ⟨v1, v2⟩ := hp5.facts; obtain ⟨v3, v4⟩ := hq5.facts; have HB5 := Lib.hid (HB1.out.trans (hb5.mono HB1.out.size)); clear hb5 hp5 hq5)
    go_ret
    exact ⟨rfl, HB5.out⟩
  obtain rfl := Classical.not_not.1 egone
  by_cases ekl : ¬ pkl = qkl
  · have hb : decide (pkl = qkl) = false := decide_eq_false ekl
    have hb2 : (pkl == qkl) = false := by simpa using ekl
    have hb3 := ekl
    have hd := Lib.hid (show decide ((⟨pname, pkind, pinto, pslot, pmade, psince, pgone, pprops, pkl, pkh, pcl, pch, pdl, pdh⟩ : Pa) = ⟨pname, pkind, pinto, pslot, pmade, psince, pgone, pprops, qkl, qkh, qcl, qch, qdl, qdh⟩) = false from decide_eq_false fun e => ekl (by injection e))
    rw [hd.out]
    go_enter Tryz.func38, Tryz.ntmps38
    go_wp2_with (go_at_call 39; refine HPE.out.mono ?_; rintro e w5 ⟨rfl, hb5⟩; have hp5 := HP.out.below hb5 HP.out.lt; have hq5 := HQ.out.below hb5 HQ.out.lt; obtain ⟨v1, v2⟩ := hp5.facts; obtain ⟨v3, v4⟩ := hq5.facts; have HB5 := Lib.hid (HB1.out.trans (hb5.mono HB1.out.size)); clear hb5 hp5 hq5)
    go_ret
    exact ⟨rfl, HB5.out⟩
  obtain rfl := Classical.not_not.1 ekl
  by_cases ekh : ¬ pkh = qkh
  · have hb : decide (pkh = qkh) = false := decide_eq_false ekh
    have hb2 : (pkh == qkh) = false := by simpa using ekh
    have hb3 := ekh
    have hd := Lib.hid (show decide ((⟨pname, pkind, pinto, pslot, pmade, psince, pgone, pprops, pkl, pkh, pcl, pch, pdl, pdh⟩ : Pa) = ⟨pname, pkind, pinto, pslot, pmade, psince, pgone, pprops, pkl, qkh, qcl, qch, qdl, qdh⟩) = false from decide_eq_false fun e => ekh (by injection e))
    rw [hd.out]
    go_enter Tryz.func38, Tryz.ntmps38
    go_wp2_with (go_at_call 39; refine HPE.out.mono ?_; rintro e w5 ⟨rfl, hb5⟩; have hp5 := HP.out.below hb5 HP.out.lt; have hq5 := HQ.out.below hb5 HQ.out.lt; obtain ⟨v1, v2⟩ := hp5.facts; obtain ⟨v3, v4⟩ := hq5.facts; have HB5 := Lib.hid (HB1.out.trans (hb5.mono HB1.out.size)); clear hb5 hp5 hq5)
    go_ret
    exact ⟨rfl, HB5.out⟩
  obtain rfl := Classical.not_not.1 ekh
  by_cases ecl : ¬ pcl = qcl
  · have hb : decide (pcl = qcl) = false := decide_eq_false ecl
    have hb2 : (pcl == qcl) = false := by simpa using ecl
    have hb3 := ecl
    have hd := Lib.hid (show decide ((⟨pname, pkind, pinto, pslot, pmade, psince, pgone, pprops, pkl, pkh, pcl, pch, pdl, pdh⟩ : Pa) = ⟨pname, pkind, pinto, pslot, pmade, psince, pgone, pprops, pkl, pkh, qcl, qch, qdl, qdh⟩) = false from decide_eq_false fun e => ecl (by injection e))
    rw [hd.out]
    go_enter Tryz.func38, Tryz.ntmps38
    go_wp2_with (go_at_call 39; refine HPE.out.mono ?_; rintro e w5 ⟨rfl, hb5⟩; have hp5 := HP.out.below hb5 HP.out.lt; have hq5 := HQ.out.below hb5 HQ.out.lt; obtain ⟨v1, v2⟩ := hp5.facts; obtain ⟨v3, v4⟩ := hq5.facts; have HB5 := Lib.hid (HB1.out.trans (hb5.mono HB1.out.size)); clear hb5 hp5 hq5)
    go_ret
    exact ⟨rfl, HB5.out⟩
  obtain rfl := Classical.not_not.1 ecl
  by_cases ech : ¬ pch = qch
  · have hb : decide (pch = qch) = false := decide_eq_false ech
    have hb2 : (pch == qch) = false := by simpa using ech
    have hb3 := ech
    have hd := Lib.hid (show decide ((⟨pname, pkind, pinto, pslot, pmade, psince, pgone, pprops, pkl, pkh, pcl, pch, pdl, pdh⟩ : Pa) = ⟨pname, pkind, pinto, pslot, pmade, psince, pgone, pprops, pkl, pkh, pcl, qch, qdl, qdh⟩) = false from decide_eq_false fun e => ech (by injection e))
    rw [hd.out]
    go_enter Tryz.func38, Tryz.ntmps38
    go_wp2_with (go_at_call 39; refine HPE.out.mono ?_; rintro e w5 ⟨rfl, hb5⟩; have hp5 := HP.out.below hb5 HP.out.lt; have hq5 := HQ.out.below hb5 HQ.out.lt; obtain ⟨v1, v2⟩ := hp5.facts; obtain ⟨v3, v4⟩ := hq5.facts; have HB5 := Lib.hid (HB1.out.trans (hb5.mono HB1.out.size)); clear hb5 hp5 hq5)
    go_ret
    exact ⟨rfl, HB5.out⟩
  obtain rfl := Classical.not_not.1 ech
  by_cases edl : ¬ pdl = qdl
  · have hb : decide (pdl = qdl) = false := decide_eq_false edl
    have hb2 : (pdl == qdl) = false := by simpa using edl
    have hb3 := edl
    have hd := Lib.hid (show decide ((⟨pname, pkind, pinto, pslot, pmade, psince, pgone, pprops, pkl, pkh, pcl, pch, pdl, pdh⟩ : Pa) = ⟨pname, pkind, pinto, pslot, pmade, psince, pgone, pprops, pkl, pkh, pcl, pch, qdl, qdh⟩) = false from decide_eq_false fun e => edl (by injection e))
    rw [hd.out]
    go_enter Tryz.func38, Tryz.ntmps38
    go_wp2_with (go_at_call 39; refine HPE.out.mono ?_; rintro e w5 ⟨rfl, hb5⟩; have hp5 := HP.out.below hb5 HP.out.lt; have hq5 := HQ.out.below hb5 HQ.out.lt; obtain ⟨v1, v2⟩ := hp5.facts; obtain ⟨v3, v4⟩ := hq5.facts; have HB5 := Lib.hid (HB1.out.trans (hb5.mono HB1.out.size)); clear hb5 hp5 hq5)
    go_ret
    exact ⟨rfl, HB5.out⟩
  obtain rfl := Classical.not_not.1 edl
  by_cases edh : ¬ pdh = qdh
  · have hb : decide (pdh = qdh) = false := decide_eq_false edh
    have hb2 : (pdh == qdh) = false := by simpa using edh
    have hb3 := edh
    have hd := Lib.hid (show decide ((⟨pname, pkind, pinto, pslot, pmade, psince, pgone, pprops, pkl, pkh, pcl, pch, pdl, pdh⟩ : Pa) = ⟨pname, pkind, pinto, pslot, pmade, psince, pgone, pprops, pkl, pkh, pcl, pch, pdl, qdh⟩) = false from decide_eq_false fun e => edh (by injection e))
    rw [hd.out]
    go_enter Tryz.func38, Tryz.ntmps38
    go_wp2_with (go_at_call 39; refine HPE.out.mono ?_; rintro e w5 ⟨rfl, hb5⟩; have hp5 := HP.out.below hb5 HP.out.lt; have hq5 := HQ.out.below hb5 HQ.out.lt; obtain ⟨v1, v2⟩ := hp5.facts; obtain ⟨v3, v4⟩ := hq5.facts; have HB5 := Lib.hid (HB1.out.trans (hb5.mono HB1.out.size)); clear hb5 hp5 hq5)
    go_ret
    exact ⟨rfl, HB5.out⟩
  obtain rfl := Classical.not_not.1 edh
  rw [decide_eq_true rfl]
  go_enter Tryz.func38, Tryz.ntmps38
  go_wp2_with (go_at_call 39; refine HPE.out.mono ?_; rintro e w5 ⟨rfl, hb5⟩; have hp5 := HP.out.below hb5 HP.out.lt; have hq5 := HQ.out.below hb5 HQ.out.lt; obtain ⟨v1, v2⟩ := hp5.facts; obtain ⟨v3, v4⟩ := hq5.facts; have HB5 := Lib.hid (HB1.out.trans (hb5.mono HB1.out.size)); clear hb5 hp5 hq5)
  go_ret
  exact ⟨rfl, HB5.out⟩
end Go.Proofs.YtccnocgmikmonaaGreatDoor
namespace Go.Proofs.YtccnocgmikmonaaGreatDoor
open Go Go.RowKit
set_option maxRecDepth 100000 in
set_option maxHeartbeats 8000000 in
theorem partsEq_any (w0 : World) (l m : List Pa) (v1 v2 : Value) (w : World) (hb0 : Below w0.heap.size w0 w) (h1 : Sta w0 v1 l) (h2 : Sta w0 v2 m) (hl : l.length ≤ 100000) (hp : ∀ p ∈ l, p.props.length ≤ 100000) :
    Calls Tryz.prog 37 #[v1, v2, .func (.func 38) #[] #[]] w fun e w' => e = .returned (.bool (decide (l = m))) ∧ Below w.heap.size w w' := by
  obtain ⟨B1, d1, rfl, hn1⟩ := Rd.form h1
  obtain ⟨B2, d2, rfl, hn2⟩ := Rd.form h2
  have H1 := Lib.hid h1
  have H2 := Lib.hid h2
  have HB0 := Lib.hid hb0
  have HPP := Lib.hid hp
  have hsz0 := hb0.size
  clear h1 h2 hb0 hp
  by_cases hln : l.length = m.length
  · have HLN := Lib.hid hln
    have hli : (l.length : Int) = (m.length : Int) := by omega
    clear hln
    go_enter Tryz.func37, Tryz.ntmps37
    go_wp2_with fail
    go_loopw [17] (fun i wr => ∃ k : Nat, k ≤ l.length ∧ i = .int .i64 k ∧ Hid (∀ j, j < k → l.getD j noPa = m.getD j noPa) ∧ Hid (Below w.heap.size w wr)) (fun i _ => l.length - (intOf i).toNat)
    case atStart => exact ⟨0, Nat.zero_le _, rfl, fun j hj => absurd hj (by omega), Below.refl _ _⟩
    case round =>
      obtain ⟨k, hk, rfl, HT, HBB⟩ := hrel
      by_cases hlt : k < l.length
      · have hlq : k < m.length := by rw [← HLN.out]; exact hlt
        obtain ⟨b1, o1, c', cs', he, _, ⟨sv1, rfl, hs1⟩, _, hr1⟩ := Rd.get H1.out hlt noPa
        injection he with e1 e2 e3
        subst e1; subst e3
        obtain ⟨b2, o2, c'', cs'', he, _, ⟨sv2, rfl, hs2⟩, _, hr2⟩ := Rd.get H2.out hlq noPa
        injection he with e1 e2 e3
        subst e1; subst e3
        obtain ⟨A1, c1, rfl, hm1⟩ := Rd.form hs1
        obtain ⟨A2, c2, rfl, hm2⟩ := Rd.form hs2
        have HP1 := Lib.hid hs1
        have HP2 := Lib.hid hs2
        have hki : (k : Int) < (l.length : Int) := by omega
        have hkq : (k : Int) < (m.length : Int) := by omega
        have hpk := HPP.out _ (getD_mem l k noPa hlt)
        have hd := Lib.hid (fun h : l.getD k noPa ≠ m.getD k noPa => (decide_eq_false fun e => h (by rw [e]) : decide (l = m) = false))
        have hs := Lib.hid (fun h : l.getD k noPa = m.getD k noPa => fun j (hj : j < k + 1) => (by
          rcases Nat.lt_or_ge j k with h1 | h1
          · exact HT.out j h1
          · obtain rfl : j = k := by omega
            exact h : l.getD j noPa = m.getD j noPa))
        have HBW := Lib.hid (HB0.out.trans (HBB.out.mono hsz0))
        have HR2 := Lib.hid (range_later hr2 HBW.out)
        have g1 := range_later hr1 HBW.out
        clear hr1 hr2 hs1 hs2
        generalize l.getD k noPa = p at *
        generalize m.getD k noPa = q at *
        obtain ⟨pname, pkind, pinto, pslot, pmade, psince, pgone, pprops, pkl, pkh, pcl, pch, pdl, pdh⟩ := p
        obtain ⟨qname, qkind, qinto, qslot, qmade, qsince, qgone, qprops, qkl, qkh, qcl, qch, qdl, qdh⟩ := q
        dsimp only at hpk hm1 hm2 HP1 HP2
        replace g1 : wr.rangeAt b1 (o1 + k * 14) [.string pname, .string pkind, .string pinto, .string pslot, .int .i64 pmade, .int .i64 psince, .bool pgone, .slice A1 pprops.length c1, .int .i64 pkl, .int .i64 pkh, .int .i64 pcl, .int .i64 pch, .int .i64 pdl, .int .i64 pdh] := g1
        have hb1 := (Below.refl wr.heap.size wr).alloc (Nat.le_refl _) (.cells #[.string pname, .string pkind, .string pinto, .string pslot, .int .i64 pmade, .int .i64 psince, .bool pgone, .slice A1 pprops.length c1, .int .i64 pkl, .int .i64 pkh, .int .i64 pcl, .int .i64 pch, .int .i64 pdl, .int .i64 pdh] 33)
        have g2 : (wr.alloc (.cells #[.string pname, .string pkind, .string pinto, .string pslot, .int .i64 pmade, .int .i64 psince, .bool pgone, .slice A1 pprops.length c1, .int .i64 pkl, .int .i64 pkh, .int .i64 pcl, .int .i64 pch, .int .i64 pdl, .int .i64 pdh] 33)).rangeAt b2 (o2 + k * 14) [.string qname, .string qkind, .string qinto, .string qslot, .int .i64 qmade, .int .i64 qsince, .bool qgone, .slice A2 qprops.length c2, .int .i64 qkl, .int .i64 qkh, .int .i64 qcl, .int .i64 qch, .int .i64 qdl, .int .i64 qdh] := range_later HR2.out hb1
        have k1 := (Has.new wr 33 #[.string pname, .string pkind, .string pinto, .string pslot, .int .i64 pmade, .int .i64 psince, .bool pgone, .slice A1 pprops.length c1, .int .i64 pkl, .int .i64 pkh, .int .i64 pcl, .int .i64 pch, .int .i64 pdl, .int .i64 pdh]).alloc (.cells #[.string qname, .string qkind, .string qinto, .string qslot, .int .i64 qmade, .int .i64 qsince, .bool qgone, .slice A2 qprops.length c2, .int .i64 qkl, .int .i64 qkh, .int .i64 qcl, .int .i64 qch, .int .i64 qdl, .int .i64 qdh] 33)
        have k2 := Has.new (wr.alloc (.cells #[.string pname, .string pkind, .string pinto, .string pslot, .int .i64 pmade, .int .i64 psince, .bool pgone, .slice A1 pprops.length c1, .int .i64 pkl, .int .i64 pkh, .int .i64 pcl, .int .i64 pch, .int .i64 pdl, .int .i64 pdh] 33)) 33 #[.string qname, .string qkind, .string qinto, .string qslot, .int .i64 qmade, .int .i64 qsince, .bool qgone, .slice A2 qprops.length c2, .int .i64 qkl, .int .i64 qkh, .int .i64 qcl, .int .i64 qch, .int .i64 qdl, .int .i64 qdh]
        rw [World.size_alloc] at k2
        have f1 := has_range k1
        have f2 := has_range k2
        have HB2 := Lib.hid (hb1.alloc (by simp) (.cells #[.string qname, .string qkind, .string qinto, .string qslot, .int .i64 qmade, .int .i64 qsince, .bool qgone, .slice A2 qprops.length c2, .int .i64 qkl, .int .i64 qkh, .int .i64 qcl, .int .i64 qch, .int .i64 qdl, .int .i64 qdh] 33))
        have HSP := Lib.hid (sameP_any w0 pname pkind pinto pslot pmade psince pgone pprops pkl pkh pcl pch pdl pdh qname qkind qinto qslot qmade qsince qgone qprops qkl qkh qcl qch qdl qdh A1 A2 c1 c2 _ (HBW.out.trans (HB2.out.mono HBW.out.size)) HP1.out HP2.out hpk)
        obtain ⟨eq, heq⟩ : ∃ e, e = decide ((⟨pname, pkind, pinto, pslot, pmade, psince, pgone, pprops, pkl, pkh, pcl, pch, pdl, pdh⟩ : Pa) = ⟨qname, qkind, qinto, qslot, qmade, qsince, qgone, qprops, qkl, qkh, qcl, qch, qdl, qdh⟩) := ⟨_, rfl⟩
        rw [← heq] at HSP
        have HEQ := Lib.hid heq
        clear k1 k2 hb1 heq hm1 hm2
        cases eq
        · have hne := Lib.hid (hd.out (of_decide_eq_false HEQ.out.symm))
          go_wp2_with (first | ((with_reducible show wpList _ _ _ (Oper.mk (some 21) _ _ _ _ _ :: _) _ _); refine wpList_load_mid rfl 33 _ rfl b1 (o1 + k * 14) rfl _ _ g1 Tryz.underlying33 rfl rfl ?_) | ((with_reducible show wpList _ _ _ (Oper.mk (some 25) _ _ _ _ _ :: _) _ _); refine wpList_load_mid rfl 33 _ rfl b2 (o2 + k * 14) rfl _ _ g2 Tryz.underlying33 rfl rfl ?_) | ((with_reducible show wpList _ _ _ (Oper.mk (some 27) _ _ _ _ _ :: _) _ _); refine wpList_load_mid rfl 33 _ rfl wr.heap.size 0 rfl _ _ f1 Tryz.underlying33 rfl rfl ?_) | ((with_reducible show wpList _ _ _ (Oper.mk (some 28) _ _ _ _ _ :: _) _ _); refine wpList_load_mid rfl 33 _ rfl (wr.heap.size + 1) 0 rfl _ _ f2 Tryz.underlying33 rfl rfl ?_) | (go_at_call 38; refine HSP.out.mono ?_; rintro e w5 ⟨rfl, hb5⟩; have HB5 := Lib.hid hb5; clear hb5))
          go_ret
          exact ⟨ret_bool (by rw [hne.out]), HBB.out.trans ((HB2.out.trans (HB5.out.mono HB2.out.size)).mono HBB.out.size)⟩
        · have hst := Lib.hid (hs.out (of_decide_eq_true HEQ.out.symm))
          go_wp2_with (first | ((with_reducible show wpList _ _ _ (Oper.mk (some 21) _ _ _ _ _ :: _) _ _); refine wpList_load_mid rfl 33 _ rfl b1 (o1 + k * 14) rfl _ _ g1 Tryz.underlying33 rfl rfl ?_) | ((with_reducible show wpList _ _ _ (Oper.mk (some 25) _ _ _ _ _ :: _) _ _); refine wpList_load_mid rfl 33 _ rfl b2 (o2 + k * 14) rfl _ _ g2 Tryz.underlying33 rfl rfl ?_) | ((with_reducible show wpList _ _ _ (Oper.mk (some 27) _ _ _ _ _ :: _) _ _); refine wpList_load_mid rfl 33 _ rfl wr.heap.size 0 rfl _ _ f1 Tryz.underlying33 rfl rfl ?_) | ((with_reducible show wpList _ _ _ (Oper.mk (some 28) _ _ _ _ _ :: _) _ _); refine wpList_load_mid rfl 33 _ rfl (wr.heap.size + 1) 0 rfl _ _ f2 Tryz.underlying33 rfl rfl ?_) | (go_at_call 38; refine HSP.out.mono ?_; rintro e w5 ⟨rfl, hb5⟩; have HB5 := Lib.hid hb5; clear hb5))
          go_roundw
          case rel => exact ⟨k + 1, by omega, by go_num, hst.out, HBB.out.trans ((HB2.out.trans (HB5.out.mono HB2.out.size)).mono HBB.out.size)⟩
          case measure => simp [intOf]; omega
      · obtain rfl : k = l.length := by omega
        have hfin := Lib.hid (decide_eq_true (Pa_ext HLN.out HT.out) : decide (l = m) = true)
        go_wp2_with fail
        go_ret
        exact ⟨ret_bool (by rw [hfin.out]), HBB.out⟩
  · have hli : ¬ (l.length : Int) = (m.length : Int) := by omega
    have hd := Lib.hid (decide_eq_false (fun e => hln (by rw [e])) : decide (l = m) = false)
    clear hln
    rw [hd.out]
    go_enter Tryz.func37, Tryz.ntmps37
    go_wp2_with fail
    go_ret
    exact ⟨rfl, Below.refl _ _⟩
set_option maxRecDepth 100000 in
set_option maxHeartbeats 2000000 in
theorem fsame_any (w0 : World) (l m : List Pa) (v1 v2 : Value) (w : World) (hb0 : Below w0.heap.size w0 w) (h1 : Sta w0 v1 l) (h2 : Sta w0 v2 m) (hl : l.length ≤ 100000) (hp : ∀ p ∈ l, p.props.length ≤ 100000) :
    Calls Tryz.prog 15 #[.agg #[v1], .agg #[v2]] w fun e w' => e = .returned (.bool (decide (l = m))) ∧ Below w.heap.size w w' := by
  obtain ⟨B1, d1, rfl, hn1⟩ := Rd.form h1
  obtain ⟨B2, d2, rfl, hn2⟩ := Rd.form h2
  have hb1 := ((Below.refl w.heap.size w).alloc (Nat.le_refl _) (.cells #[.slice B1 l.length d1] 24)).alloc (by simp) (.cells #[.slice B2 m.length d2] 24)
  have k1 := (Has.new w 24 #[.slice B1 l.length d1]).alloc (.cells #[.slice B2 m.length d2] 24)
  have k2 := Has.new (w.alloc (.cells #[.slice B1 l.length d1] 24)) 24 #[.slice B2 m.length d2]
  rw [World.size_alloc] at k2
  obtain ⟨x1, y1⟩ := k1.facts
  obtain ⟨x2, y2⟩ := k2.facts
  have HPE := Lib.hid (partsEq_any w0 l m _ _ _ (hb0.trans (hb1.mono hb0.size)) h1 h2 hl hp)
  have HB1 := Lib.hid hb1
  clear k1 k2 h1 h2 hb0 hb1
  go_enter Tryz.func15, Tryz.ntmps15
  go_wp2_with (go_at_call 37; refine HPE.out.mono ?_; rintro e w5 ⟨rfl, hb5⟩; have HB5 := Lib.hid (HB1.out.trans (hb5.mono HB1.out.size)); clear hb5)
  go_ret
  exact ⟨rfl, HB5.out⟩
end Go.Proofs.YtccnocgmikmonaaGreatDoor
