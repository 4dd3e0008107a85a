/- bogieref20.all, Cond, Valid: the reference's valid rules are the program's. Condition: the rule lies in memory, its strings fit. -/
import Derived.IntWalk
import Derived.Test.YtppoeiofdmlpeaaGreatDoorU04
import Derived.Test.YtppoeiofdmlpeaaGreatDoorYD
namespace Go.Proofs.YtppoeiofdmlpeaaGreatDoor
open Go Go.RowKit
set_option maxRecDepth 100000 in
set_option maxHeartbeats 8000000 in
theorem rall_rec:∀ (M:Nat) (e:Ex) (kv:Value) (w:World),cnt e≤M→M≤100000→FitE e→Lay w kv e.kids →
    Calls Tryz.prog 59 #[.agg #[.int .i64 e.op,.string e.name,.string e.value,.int .i64 e.n,.int .i64 e.extra,kv]] w fun r w'=>r = .returned (.bool (allB e))∧Below w.heap.size w w':=by
  intro M
  induction M with
  | zero=>intro e kv w hc;have:=cnt_pos e;omega
  | succ M ih =>
    intro e kv w hc hM hf hl
    have hE:=allB_eq e
    have hkid:∀ k,k∈e.kids→cnt k≤M∧FitE k:=fun k hk=>⟨by have:=cnt_kid hk;omega,hf.kid k hk⟩
    have hlen:e.kids.length≤100000:=by
      have:=len_cnts e.kids
      have:=cnt_eq e
      omega
    rw [hE]
    obtain ⟨A,c,rfl,_⟩:=hl.slice
    have HN:=Lib.hid (fun W=>rnode_any e A c W hf.strs.1 hf.strs.2)
    have HL:=Lib.hid hl
    have HK:=Lib.hid hkid
    generalize nodeB e = bn at *
    generalize e.kids = ks at *
    clear hE hl hkid hc hf
    have HX:=Lib.hid (Has.new w 24 #[.int .i64 e.op,.string e.name,.string e.value,.int .i64 e.n,.int .i64 e.extra,.slice A ks.length c])
    have HB:=Lib.hid (show Below w.heap.size w (w.alloc (.cells #[.int .i64 e.op,.string e.name,.string e.value,.int .i64 e.n,.int .i64 e.extra,.slice A ks.length c] 24)) from (Below.refl _ _).alloc (Nat.le_refl _) _)
    cases bn with
    | false =>
      rw [Bool.false_and]
      go_enter Tryz.func59,Tryz.ntmps59
      go_wp2_with (go_at_call 83;refine (HN.out _).mono ?_;rintro r w1 ⟨rfl,hb⟩;have HB1:=Lib.hid (HB.out.trans (hb.mono HB.out.size));clear hb)
      go_ret
      exact ⟨rfl,HB1.out⟩
    | true =>
      rw [Bool.true_and]
      go_enter Tryz.func59,Tryz.ntmps59
      go_wp2_with (go_at_call 83;refine (HN.out _).mono ?_;rintro r w1 ⟨rfl,hb⟩;have HB1:=Lib.hid (HB.out.trans (hb.mono HB.out.size));have HX1:=Lib.hid (HX.out.below hb HX.out.lt);have HL1:=Lib.hid ((HL.out.later HB.out).later hb);clear hb)
      have hz0:w.heap.size < w1.heap.size:=HX1.out.lt
      go_loopw [3] (fun i wr=>∃ k:Nat,i = .int .i64 k∧k≤ks.length∧Hid (allsB ks = allsB (ks.drop k))∧Hid (Below w1.heap.size w1 wr)) (fun i _=>ks.length - (intOf i).toNat)
      case atStart=>exact ⟨0,rfl,Nat.zero_le _,rfl,Below.refl _ _⟩
      case round =>
        obtain ⟨k,rfl,hk,HE,HW⟩:=hrel
        have hXr:=HX1.out.below HW.out hz0
        obtain ⟨d,f⟩:=hXr.facts
        by_cases hlt:k < ks.length
        · have hki:(k:Int) < (ks.length:Int):=by omega
          have hLr:=HL1.out.later HW.out
          obtain ⟨_,_,hkid⟩:=hLr.kid
          obtain ⟨b,o,kv,rfl,hcell,hkk⟩:=hkid k hlt
          have hc0:=hcell 0 (by decide)
          have hc1:=hcell 1 (by decide)
          have hc2:=hcell 2 (by decide)
          have hc3:=hcell 3 (by decide)
          have hc4:=hcell 4 (by decide)
          have hc5:=hcell 5 (by decide)
          simp only [exF,if_true,if_false,Nat.reduceEqDiff,Nat.add_one_ne_zero, ← Nat.add_assoc,Nat.add_zero] at hc0 hc1 hc2 hc3 hc4 hc5
          have HC:=Lib.hid (ih ks[k] kv _ (HK.out _ (List.getElem_mem hlt)).1 (by omega) (HK.out _ (List.getElem_mem hlt)).2 hkk)
          have HE2:=Lib.hid (show allsB ks = (allB ks[k] && allsB (ks.drop (k+1))) by rw [HE.out,List.drop_eq_getElem_cons hlt,allsB_cons])
          have hs3:IntKind.i64.wrap ((k:Int)+1) = (k:Int)+1:=IntWalk.i64_in _ (by omega)
          obtain ⟨Ak,ck,rfl,_⟩:=hkk.slice
          clear hkid hcell hkk hLr
          generalize ks[k] = ek at *
          cases hb:allB ek with
          | true =>
            rw [hb] at HC HE2
            have HE3:=Lib.hid (HE2.out.trans (Bool.true_and _))
            clear HE2
            go_wp2_with (go_at_call 59;refine HC.out.mono ?_;rintro r w2 ⟨rfl,hb2⟩;have HW2:=Lib.hid (HW.out.trans (hb2.mono HW.out.size));clear hb2)
            go_roundw
            case rel=>exact ⟨k+1,by go_num,hlt,HE3,HW2⟩
            case measure=>simp [intOf];omega
          | false =>
            rw [hb] at HC HE2
            have HE3:=Lib.hid (HE2.out.trans (Bool.false_and _))
            clear HE2
            go_wp2_with (go_at_call 59;refine HC.out.mono ?_;rintro r w2 ⟨rfl,hb2⟩;have HW2:=Lib.hid (HW.out.trans (hb2.mono HW.out.size));clear hb2)
            go_ret
            exact ⟨ret_bool HE3.out.symm,HB1.out.trans (HW2.out.mono HB1.out.size)⟩
        · have hki:¬ (k:Int) < (ks.length:Int):=by omega
          have HE3:=Lib.hid (show allsB ks = true by rw [HE.out,List.drop_of_length_le (by omega),allsB_nil])
          go_wp2_with fail
          go_ret
          exact ⟨ret_bool HE3.out.symm,HB1.out.trans (HW.out.mono HB1.out.size)⟩
set_option maxRecDepth 100000 in
set_option maxHeartbeats 4000000 in
theorem rcond_any (e:Ex) (kv:Value) (w:World) (hf:FitE e) (hl:Lay w kv e.kids) :
    Calls Tryz.prog 34 #[.agg #[.int .i64 e.op,.string e.name,.string e.value,.int .i64 e.n,.int .i64 e.extra,kv]] w fun r w'=>r = .returned (.bool (condB e))∧Below w.heap.size w w':=by
  have hb:Below w.heap.size w (w.alloc (.cells #[.int .i64 e.op,.string e.name,.string e.value,.int .i64 e.n,.int .i64 e.extra,kv] 24)):=(Below.refl _ _).alloc (Nat.le_refl _) _
  have HN:=Lib.hid (nodes_any e 60 kv _ (by decide) (hl.later hb))
  have HS:=Lib.hid (fun (hc:cnt e≤60) (W:World) (h:Lay W kv e.kids)=>rall_rec 60 e kv W hc (by decide) hf h)
  have HL:=Lib.hid (hl.later hb)
  have HB:=Lib.hid hb
  have HX:=Lib.hid (Has.new w 24 #[.int .i64 e.op,.string e.name,.string e.value,.int .i64 e.n,.int .i64 e.extra,kv])
  obtain ⟨A,c,rfl,_⟩:=hl.slice
  clear hb hl hf
  by_cases hc:cnt e≤60
  · have hle:((ndN e 60:Nat):Int)≤60:=by unfold ndN;omega
    have HE:=Lib.hid (show condB e = allB e by unfold condB;rw [decide_eq_true hc,Bool.true_and])
    have HSS:=Lib.hid (HS.out hc)
    clear HS hc
    generalize ndN e 60 = z at *
    go_enter Tryz.func34,Tryz.ntmps34
    go_wp2_with (first
      | (go_at_call 16;refine HN.out.mono ?_;clear HN;rintro r w2 ⟨rfl,hb2⟩;have HW2:=Lib.hid (HB.out.trans (hb2.mono HB.out.size));have HL2:=Lib.hid (HL.out.later hb2);obtain ⟨d,f⟩:=(HX.out.below hb2 HX.out.lt).facts;clear hb2)
      | (go_at_call 59;refine (HSS.out _ HL2.out).mono ?_;rintro r w3 ⟨rfl,hb3⟩;have HW3:=Lib.hid (HW2.out.trans (hb3.mono HW2.out.size));clear hb3))
    go_ret
    exact ⟨ret_bool HE.out.symm,HW3.out⟩
  · have hle:¬ ((ndN e 60:Nat):Int)≤60:=by unfold ndN;omega
    have HE:=Lib.hid (show condB e = false by unfold condB;rw [decide_eq_false hc,Bool.false_and])
    clear HS hc
    generalize ndN e 60 = z at *
    go_enter Tryz.func34,Tryz.ntmps34
    go_wp2_with (go_at_call 16;refine HN.out.mono ?_;clear HN;rintro r w2 ⟨rfl,hb2⟩;have HW2:=Lib.hid (HB.out.trans (hb2.mono HB.out.size));clear hb2)
    go_ret
    exact ⟨ret_bool HE.out.symm,HW2.out⟩
set_option maxRecDepth 100000 in
set_option maxHeartbeats 4000000 in
theorem rvalid_any (r:Ru) (kv:Value) (w:World) (hf:FitE r.cond) (hn:r.name.size≤maxLen) (hk:r.kind.size≤maxLen) (hl:Lay w kv r.cond.kids) :
    Calls Tryz.prog 15 #[.agg (ruA r kv)] w fun e w'=>e = .returned (.bool (ruleB r))∧Below w.heap.size w w':=by
  have hb:Below w.heap.size w (w.alloc (.cells (ruA r kv) 26)):=(Below.refl _ _).alloc (Nat.le_refl _) _
  have HC:=Lib.hid (rcond_any r.cond kv _ hf (hl.later hb))
  have HB:=Lib.hid hb
  have HN:=Lib.hid (fun W=>refName_any r.name W hn)
  have HK:=Lib.hid (fun W=>refName_any r.kind W hk)
  have HE:=Lib.hid (show ruleB r = (nameB r.name && (nameB r.kind && condB r.cond)) from rfl)
  obtain ⟨A,c,rfl,_⟩:=hl.slice
  dsimp only [ruA] at *
  clear hb hl hf hn hk
  generalize nameB r.name = b1 at *
  generalize nameB r.kind = b2 at *
  generalize condB r.cond = b3 at *
  cases b1 with
  | false =>
    go_enter Tryz.func15,Tryz.ntmps15
    go_wp2_with (go_at_call 33;(with_reducible show Calls _ _ #[.string r.name] _ _);refine (HN.out _).mono ?_;rintro e w1 ⟨rfl,rfl⟩)
    go_ret
    exact ⟨ret_bool HE.out.symm,HB.out⟩
  | true =>
    cases b2 with
    | false =>
      go_enter Tryz.func15,Tryz.ntmps15
      go_wp2_with (go_at_call 33;first
        | ((with_reducible show Calls _ _ #[.string r.name] _ _);refine (HN.out _).mono ?_;rintro e w1 ⟨rfl,rfl⟩)
        | (refine (HK.out _).mono ?_;rintro e w1 ⟨rfl,rfl⟩))
      go_ret
      exact ⟨ret_bool HE.out.symm,HB.out⟩
    | true =>
      go_enter Tryz.func15,Tryz.ntmps15
      go_wp2_with (first
        | (go_at_call 33;first
          | ((with_reducible show Calls _ _ #[.string r.name] _ _);refine (HN.out _).mono ?_;rintro e w1 ⟨rfl,rfl⟩)
          | (refine (HK.out _).mono ?_;rintro e w1 ⟨rfl,rfl⟩))
        | (go_at_call 34;refine HC.out.mono ?_;rintro e w2 ⟨rfl,hb2⟩;have HB2:=Lib.hid (HB.out.trans (hb2.mono HB.out.size));clear hb2))
      go_ret
      exact ⟨ret_bool HE.out.symm,HB2.out⟩
end Go.Proofs.YtppoeiofdmlpeaaGreatDoor
