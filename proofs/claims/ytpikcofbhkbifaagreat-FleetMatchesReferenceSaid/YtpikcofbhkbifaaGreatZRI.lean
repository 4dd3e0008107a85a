/- bogieref10.Valid: the reference's valid states are the fleet's. No condition but sizes. -/
import Derived.Deep.Cut
import Derived.Deep.CutRange
import Derived.Deep.RegionHeld3
import Derived.IntWalk
import Derived.Test.YtpikcofbhkbifaaGreatU27
import Derived.Test.YtpikcofbhkbifaaGreatZRA
import Derived.Test.YtpikcofbhkbifaaGreatZRB
import Derived.Test.YtpikcofbhkbifaaGreatZRC
import Derived.Test.YtpikcofbhkbifaaGreatZRD
namespace Go.Proofs.YtpikcofbhkbifaaGreat
open Go Go.RowKit
/-- What the reference asks of a part first: is it wrong? -/
def headB (c:List Kd) (l:List Pa) (k:Nat):Bool :=
  !rightB c (l.getD k noPa) || ((decide (0 < k) && !ltS (l.getD (k - 1) noPa).name (l.getD k noPa).name) || ((l.getD k noPa).into.toList.isEmpty != (l.getD k noPa).slot.toList.isEmpty))
theorem head_bad {c:List Kd} {l:List Pa} {k:Nat} (hk:k < l.length) (h:headB c l k = true):validB c l = false:=by
  unfold headB at h
  rw [Bool.or_eq_true,Bool.or_eq_true,Bool.and_eq_true] at h
  rcases h with h | ⟨h1,h2⟩ | h
  · exact valid_part hk (partOk_right (.inl (by simpa using h)))
  · exact parts_sort hk (by have:=of_decide_eq_true h1;omega) (by simpa using h2)
  · refine valid_part hk (partOk_right (.inr ?_))
    rw [emp_iff,emp_iff] at h
    simpa [bne] using h
theorem head_good {c:List Kd} {l:List Pa} {k:Nat} (h:headB c l k = false):rightB c (l.getD k noPa) = true∧(k = 0∨ltS (l.getD (k - 1) noPa).name (l.getD k noPa).name = true)∧(decide ((l.getD k noPa).into = eS) == decide ((l.getD k noPa).slot = eS)) = true:=by
  unfold headB at h
  rw [Bool.or_eq_false_iff,Bool.or_eq_false_iff] at h
  obtain ⟨h1,h2,h3⟩:=h
  refine ⟨by simpa using h1,?_,?_⟩
  · by_cases h0:k = 0
    · exact .inl h0
    · rw [decide_eq_true (show 0 < k by omega),Bool.true_and] at h2
      exact .inr (by simpa using h2)
  · rw [emp_iff,emp_iff] at h3
    simpa [bne] using h3
/-- The boxes of the call and of the part that is looked at. -/
structure ValB (w W:World) (c0 s0 p0:Array Value) (gp:Nat):Prop where
  c:Has W w.heap.size 24 c0
  s:Has W (w.heap.size+1) 27 s0
  p:Has W gp 47 p0
  b:Below w.heap.size w W
theorem ValB.below {w W W':World} {c0 s0 p0:Array Value} {gp:Nat} (h:ValB w W c0 s0 p0 gp) (hb:Below W.heap.size W W'):ValB w W' c0 s0 p0 gp :=
  ⟨h.c.below hb h.c.lt,h.s.below hb h.s.lt,h.p.below hb h.p.lt,h.b.trans (hb.mono h.b.size)⟩
theorem ValB.drewN {w W:World} {c0 s0 p0:Array Value} {gp:Nat} (h:ValB w W c0 s0 p0 gp) (n:Nat):ValB w (W.drewN n) c0 s0 p0 gp:=⟨h.c,h.s,h.p,below_drewN h.b n⟩
set_option maxRecDepth 100000 in
set_option maxHeartbeats 20000000 in
theorem refValid_any (w0:World) (cv sv:Value) (c:List Kd) (l:List Pa) (w:World) (hb0:Below w0.heap.size w0 w) (hv:Cat w0 cv c) (hcl:c.length≤100000) (hs:∀ k∈c,k.short) (hsv:Sta w0 sv l) (hl:l.length≤100000) (hps:∀ p∈l,p.short) :
    Calls Tryz.prog 14 #[.agg #[cv],.agg #[sv]] w fun e w'=>e = .returned (.bool (validB c l))∧Below w.heap.size w w':=by
  obtain ⟨A',cc,rfl,hn⟩:=Rd.form hv
  obtain ⟨A,cs0,rfl,hn0⟩:=Rd.form hsv
  have HB0:=Lib.hid hb0
  have hsz0:=hb0.size
  have HSV:=Lib.hid hsv
  have HPS:=Lib.hid hps
  have HFV:=Lib.hid (fun W (h:Below w0.heap.size w0 W)=>refCat_any w0 _ c W h hv hcl hs)
  have HTK:=Lib.hid (fun x y z W (h:Below w0.heap.size w0 W)=>refTakes_any w0 _ c x y z W h hv hcl hs)
  have HAT:=Lib.hid (fun x W (h:Below w0.heap.size w0 W)=>refAt_any w0 _ l x W h hsv hl)
  have HOWN:=Lib.hid (fun (pname pkind pinto pslot:ByteArray) (pmade psince:Int) (pgone:Bool) (pprops:List Pr) (Ap:Option Addr) (mp:Nat) (pkl pkh pcl pch pdl pdh:Int) W (h:Below w0.heap.size w0 W)=>own_any w0 _ c pname pkind pinto pslot pmade psince pgone pprops Ap mp pkl pkh pcl pch pdl pdh W h hv hcl)
  have k1:=(Has.new w 24 #[.slice A' c.length cc]).alloc (.cells #[.slice A l.length cs0] 27)
  have k2:=Has.new (w.alloc (.cells #[.slice A' c.length cc] 24)) 27 #[.slice A l.length cs0]
  simp only [World.size_alloc] at k2
  have KC0:=Lib.hid k1
  have KS0:=Lib.hid k2
  have HBB0:=Lib.hid (((Below.refl w.heap.size w).alloc (Nat.le_refl _) (.cells #[.slice A' c.length cc] 24)).alloc (by simp) (.cells #[.slice A l.length cs0] 27))
  clear k1 k2 hb0 hv hs hsv hps
  cases hcb:catB c
  · have HCB:=Lib.hid hcb
    have HNO:=Lib.hid (valid_head (l:=l) (.inl hcb))
    clear hcb
    go_enter Tryz.func14,Tryz.ntmps14
    go_wp2_with fail
    refine (HFV.out _ (HB0.out.trans (HBB0.out.mono hsz0))).mono ?_
    rintro e w1 ⟨rfl,hb1⟩
    rw [HCB.out]
    have KC1:=Lib.hid (KC0.out.below hb1 KC0.out.lt)
    have KS1:=Lib.hid (KS0.out.below hb1 KS0.out.lt)
    have HBB1:=Lib.hid (HBB0.out.trans (hb1.mono HBB0.out.size))
    obtain ⟨f1,f2⟩:=KS1.out.facts
    clear hb1
    go_wp2_with fail
    go_ret
    exact ⟨ret_bool HNO.out.symm,HBB1.out⟩
  have HCB:=Lib.hid hcb
  clear hcb
  by_cases hlb:20000 < l.length
  · have hlb2:(20000:Int) < (l.length:Int):=by omega
    have HNO:=Lib.hid (valid_head (c:=c) (.inr (.inl hlb)))
    clear hlb
    go_enter Tryz.func14,Tryz.ntmps14
    go_wp2_with fail
    refine (HFV.out _ (HB0.out.trans (HBB0.out.mono hsz0))).mono ?_
    rintro e w1 ⟨rfl,hb1⟩
    rw [HCB.out]
    have KC1:=Lib.hid (KC0.out.below hb1 KC0.out.lt)
    have KS1:=Lib.hid (KS0.out.below hb1 KS0.out.lt)
    have HBB1:=Lib.hid (HBB0.out.trans (hb1.mono HBB0.out.size))
    obtain ⟨f1,f2⟩:=KS1.out.facts
    clear hb1
    go_wp2_with fail
    go_ret
    exact ⟨ret_bool HNO.out.symm,HBB1.out⟩
  have hlb2:¬ (20000:Int) < (l.length:Int):=by omega
  go_enter Tryz.func14,Tryz.ntmps14
  go_wp2_with fail
  refine (HFV.out _ (HB0.out.trans (HBB0.out.mono hsz0))).mono ?_
  rintro e w1 ⟨rfl,hb1⟩
  rw [HCB.out]
  have KC1:=Lib.hid (KC0.out.below hb1 KC0.out.lt)
  have KS1:=Lib.hid (KS0.out.below hb1 KS0.out.lt)
  have HBB1:=Lib.hid (HBB0.out.trans (hb1.mono HBB0.out.size))
  obtain ⟨f1,f2⟩:=KS1.out.facts
  clear hb1
  go_wp2_with fail
  go_loopw [5] (fun i wr=>∃ k:Nat,k≤l.length∧i = .int .i64 k∧Hid (partsTo c l k)∧Hid (Has wr w.heap.size 24 #[.slice A' c.length cc])∧Hid (Has wr (w.heap.size+1) 27 #[.slice A l.length cs0])∧Hid (Below w.heap.size w wr)) (fun i _=>l.length - (intOf i).toNat)
  case atStart=>exact ⟨0,Nat.zero_le _,rfl,partsTo_zero _ _,KC1.out,KS1.out,HBB1.out⟩
  case round =>
    obtain ⟨k,hk,rfl,HT,HC,HSb,HBB⟩:=hrel
    clear f1 f2 KC1 KS1 HBB1 KC0 KS0 HBB0
    obtain ⟨x2,y2⟩:=HSb.out.facts
    by_cases hlt:k < l.length
    · obtain ⟨b,o,c',cs,he,_,⟨sv,rfl,hsv⟩,_,hrg⟩:=Rd.get HSV.out hlt noPa
      injection he with e1 e2 e3
      subst e1;subst e3
      obtain ⟨Ap,mp,rfl,hnp⟩:=Rd.form hsv
      have HPR:=Lib.hid hsv
      have HBW:=Lib.hid (HB0.out.trans (HBB.out.mono hsz0))
      have hrg':=range_later hrg HBW.out
      have hsh:=HPS.out _ (getD_mem l k noPa hlt)
      have HBD:=Lib.hid (fun h=>head_bad (c:=c) hlt h)
      have HGD:=Lib.hid (fun h=>head_good (c:=c) (l:=l) (k:=k) h)
      have HVP:=Lib.hid (fun h=>valid_part (c:=c) hlt h)
      have HSEAT:=Lib.hid (fun hi h=>valid_seat (c:=c) hlt hi h)
      have HSTP:=Lib.hid (fun hp hs h2=>partsTo_step HT.out hlt hp hs h2)
      have hprev:0 < k→wr.cell? ⟨b,o+(k - 1)*14,none⟩ = some (.string (l.getD (k - 1) noPa).name):=fun h0=>by
        obtain ⟨b',o',c'',cs',he,_,⟨sv',rfl,_⟩,_,hrgp⟩:=Rd.get HSV.out (show k - 1 < l.length by omega) noPa
        injection he with e1 e2' e3
        injection e1 with e1
        injection e1 with e1 e1'
        subst e1;subst e1'
        exact range_later hrgp HBW.out 0 _ rfl
      have hhd:headB c l k = (!rightB c (l.getD k noPa) || ((decide (0 < k) && !ltS (l.getD (k - 1) noPa).name (l.getD k noPa).name) || ((l.getD k noPa).into.toList.isEmpty != (l.getD k noPa).slot.toList.isEmpty))):=rfl
      have hki:(k:Int) < (l.length:Int):=by omega
      have HPV:=Lib.hid hprev
      have HHD:=Lib.hid hhd
      clear hrg hsv hprev hhd
      generalize l.getD k noPa = p at *
      generalize (l.getD (k - 1) noPa).name = prev at *
      obtain ⟨pname,pkind,pinto,pslot,pmade,psince,pgone,pprops,pkl,pkh,pcl,pch,pdl,pdh⟩:=p
      obtain ⟨s1,s2,s3,s4,s5,s6⟩:=hsh
      dsimp only at s1 s2 s3 s4 s5 s6 hnp HPR
      replace hrg':wr.rangeAt b (o+k*14) [.string pname,.string pkind,.string pinto,.string pslot,.int .i64 pmade,.int .i64 psince,.bool pgone,.slice Ap pprops.length mp,.int .i64 pkl,.int .i64 pkh,.int .i64 pcl,.int .i64 pch,.int .i64 pdl,.int .i64 pdh]:=hrg'
      have HOW:=Lib.hid (fun W h=>HOWN.out pname pkind pinto pslot pmade psince pgone pprops Ap mp pkl pkh pcl pch pdl pdh W h HPR.out s1 s5 s6)
      replace HHD:Hid (headB c l k = (!rightB c (⟨pname,pkind,pinto,pslot,pmade,psince,pgone,pprops,pkl,pkh,pcl,pch,pdl,pdh⟩:Pa) || ((decide (0 < k) && !ltS prev pname) || (pinto.toList.isEmpty != pslot.toList.isEmpty)))):=HHD
      replace HGD:Hid (headB c l k = false→rightB c (⟨pname,pkind,pinto,pslot,pmade,psince,pgone,pprops,pkl,pkh,pcl,pch,pdl,pdh⟩:Pa) = true∧(k = 0∨ltS prev pname = true)∧(decide (pinto = eS) == decide (pslot = eS)) = true):=HGD
      replace HVP:Hid (partOk c l (⟨pname,pkind,pinto,pslot,pmade,psince,pgone,pprops,pkl,pkh,pcl,pch,pdl,pdh⟩:Pa) = false→validB c l = false):=HVP
      replace HSEAT:Hid (¬ pinto = eS→seatOf (⟨pname,pkind,pinto,pslot,pmade,psince,pgone,pprops,pkl,pkh,pcl,pch,pdl,pdh⟩:Pa)∈seats (l.take k)→validB c l = false):=HSEAT
      replace HSTP:Hid (partOk c l (⟨pname,pkind,pinto,pslot,pmade,psince,pgone,pprops,pkl,pkh,pcl,pch,pdl,pdh⟩:Pa) = true→(pinto = eS∨¬ seatOf (⟨pname,pkind,pinto,pslot,pmade,psince,pgone,pprops,pkl,pkh,pcl,pch,pdl,pdh⟩:Pa)∈seats (l.take k))→(k = 0∨ltS prev pname = true)→partsTo c l (k+1)):=HSTP
      have hV:ValB w (wr.alloc (.cells #[.string pname,.string pkind,.string pinto,.string pslot,.int .i64 pmade,.int .i64 psince,.bool pgone,.slice Ap pprops.length mp,.int .i64 pkl,.int .i64 pkh,.int .i64 pcl,.int .i64 pch,.int .i64 pdl,.int .i64 pdh] 47)) #[.slice A' c.length cc] #[.slice (some ⟨b,o,none⟩) l.length cs0] #[.string pname,.string pkind,.string pinto,.string pslot,.int .i64 pmade,.int .i64 psince,.bool pgone,.slice Ap pprops.length mp,.int .i64 pkl,.int .i64 pkh,.int .i64 pcl,.int .i64 pch,.int .i64 pdl,.int .i64 pdh] wr.heap.size:=⟨HC.out.alloc _,HSb.out.alloc _,Has.new wr _ _,HBB.out.alloc HBB.out.size _⟩
      have HV:=Lib.hid hV
      obtain ⟨x3,y3⟩:=hV.s.facts
      clear hV
      obtain ⟨rb,hrb⟩:∃ r,r = rightB c (⟨pname,pkind,pinto,pslot,pmade,psince,pgone,pprops,pkl,pkh,pcl,pch,pdl,pdh⟩:Pa):=⟨_,rfl⟩
      rw [←hrb] at HOW HHD
      have HRB:=Lib.hid hrb
      clear hrb
      go_upto_region 7 with ((with_reducible show wpList _ _ _ (Oper.mk (some 29) _ _ _ _ _ :: _) _ _);refine wpList_load_mid rfl 47 _ rfl b (o+k*14) rfl _ _ hrg' Tryz.underlying47 rfl rfl ?_)
      go_cut [58] from 18 to 119 (fun f wc=>f = .bool (headB c l k)∧Hid (ValB w wc #[.slice A' c.length cc] #[.slice (some ⟨b,o,none⟩) l.length cs0] #[.string pname,.string pkind,.string pinto,.string pslot,.int .i64 pmade,.int .i64 psince,.bool pgone,.slice Ap pprops.length mp,.int .i64 pkl,.int .i64 pkh,.int .i64 pcl,.int .i64 pch,.int .i64 pdl,.int .i64 pdh] wr.heap.size))
      case first =>
        cases rb
        · skip
          have HKs:=Lib.hid (fun W (h:Below (wr.alloc (.cells #[.string pname,.string pkind,.string pinto,.string pslot,.int .i64 pmade,.int .i64 psince,.bool pgone,.slice Ap pprops.length mp,.int .i64 pkl,.int .i64 pkh,.int .i64 pcl,.int .i64 pch,.int .i64 pdl,.int .i64 pdh] 47)).heap.size (wr.alloc (.cells #[.string pname,.string pkind,.string pinto,.string pslot,.int .i64 pmade,.int .i64 psince,.bool pgone,.slice Ap pprops.length mp,.int .i64 pkl,.int .i64 pkh,.int .i64 pcl,.int .i64 pch,.int .i64 pdl,.int .i64 pdh] 47)) W)=>(⟨(HV.out.below h).c.facts.1 0,(HV.out.below h).s.facts.1 0,has_range (HV.out.below h).p,(HV.out.below h).p.facts.1 0,(HV.out.below h).p.facts.1 2,(HV.out.below h).p.facts.1 3⟩:(fun W=>W.cell? ⟨w.heap.size,0,none⟩ = some (.slice A' c.length cc)∧W.cell? ⟨w.heap.size+1,0,none⟩ = some (.slice (some ⟨b,o,none⟩) l.length cs0)∧W.rangeAt wr.heap.size 0 [.string pname,.string pkind,.string pinto,.string pslot,.int .i64 pmade,.int .i64 psince,.bool pgone,.slice Ap pprops.length mp,.int .i64 pkl,.int .i64 pkh,.int .i64 pcl,.int .i64 pch,.int .i64 pdl,.int .i64 pdh]∧W.cell? ⟨wr.heap.size,0,none⟩ = some (.string pname)∧W.cell? ⟨wr.heap.size,2,none⟩ = some (.string pinto)∧W.cell? ⟨wr.heap.size,3,none⟩ = some (.string pslot)) W))
          have hbb:Below (wr.alloc (.cells #[.string pname,.string pkind,.string pinto,.string pslot,.int .i64 pmade,.int .i64 psince,.bool pgone,.slice Ap pprops.length mp,.int .i64 pkl,.int .i64 pkh,.int .i64 pcl,.int .i64 pch,.int .i64 pdl,.int .i64 pdh] 47)).heap.size (wr.alloc (.cells #[.string pname,.string pkind,.string pinto,.string pslot,.int .i64 pmade,.int .i64 psince,.bool pgone,.slice Ap pprops.length mp,.int .i64 pkl,.int .i64 pkh,.int .i64 pcl,.int .i64 pch,.int .i64 pdl,.int .i64 pdh] 47)) (wr.alloc (.cells #[.string pname,.string pkind,.string pinto,.string pslot,.int .i64 pmade,.int .i64 psince,.bool pgone,.slice Ap pprops.length mp,.int .i64 pkl,.int .i64 pkh,.int .i64 pcl,.int .i64 pch,.int .i64 pdl,.int .i64 pdh] 47)):=Below.refl _ _
          refine wp_region_held_drew (S:=fun W=>W.cell? ⟨w.heap.size,0,none⟩ = some (.slice A' c.length cc)∧W.cell? ⟨w.heap.size+1,0,none⟩ = some (.slice (some ⟨b,o,none⟩) l.length cs0)∧W.rangeAt wr.heap.size 0 [.string pname,.string pkind,.string pinto,.string pslot,.int .i64 pmade,.int .i64 psince,.bool pgone,.slice Ap pprops.length mp,.int .i64 pkl,.int .i64 pkh,.int .i64 pcl,.int .i64 pch,.int .i64 pdl,.int .i64 pdh]∧W.cell? ⟨wr.heap.size,0,none⟩ = some (.string pname)∧W.cell? ⟨wr.heap.size,2,none⟩ = some (.string pinto)∧W.cell? ⟨wr.heap.size,3,none⟩ = some (.string pslot)) (by kernel_rfl) (HKs.out _ hbb.drew) (fun hHeld=>?_)
          refine plI [(0,false)] ?_
          repeat ((first | refine plF ?_ | (refine plR (v:=?_) ?_ ?_;rotate_left;focus (intro W hSW;(try dsimp only at hSW);go_simp;all_goals (with_reducible rfl))));try simp only [Act.put,List.setIfInBounds_toArray,List.set_cons_zero,List.set_cons_succ])
          refine plE ?_
          refine wpAnyH_take (i:=1) (oi:=⟨_,_,_,_,_,_⟩) (v:=_) rfl (by kernel_rfl) (by kernel_rfl) (by kernel_rfl) (fun _ _ _ h=>h) (yieldsIf_load_mid (by rfl) 47 _ rfl wr.heap.size 0 rfl [.string pname,.string pkind,.string pinto,.string pslot,.int .i64 pmade,.int .i64 psince,.bool pgone,.slice Ap pprops.length mp,.int .i64 pkl,.int .i64 pkh,.int .i64 pcl,.int .i64 pch,.int .i64 pdl,.int .i64 pdh] _ (fun W h=>h.2.2.1) Tryz.underlying47 rfl rfl) (by assumption) ?_
          try simp only [Act.put,List.setIfInBounds_toArray,List.set_cons_zero,List.set_cons_succ]
          refine wpAnyH_ready (rs:=[2]) (by kernel_rfl) (by simp) ?_
          refine AllReadyH.cons (o:=⟨_,_,_,_,_,_⟩) rfl (fun K hK=>?_) AllReadyH.nil
          go_simp
          go_at_call 51;refine (HOW.out _ (HB0.out.trans ((HV.out.below hbb.drew).b.mono hsz0))).mono ?_;rintro e w5 ⟨rfl,hb5⟩;have hbw:Below (wr.alloc (.cells #[.string pname,.string pkind,.string pinto,.string pslot,.int .i64 pmade,.int .i64 psince,.bool pgone,.slice Ap pprops.length mp,.int .i64 pkl,.int .i64 pkh,.int .i64 pcl,.int .i64 pch,.int .i64 pdl,.int .i64 pdh] 47)).heap.size (wr.alloc (.cells #[.string pname,.string pkind,.string pinto,.string pslot,.int .i64 pmade,.int .i64 psince,.bool pgone,.slice Ap pprops.length mp,.int .i64 pkl,.int .i64 pkh,.int .i64 pcl,.int .i64 pch,.int .i64 pdl,.int .i64 pdh] 47)) w5:=hbb.drew.trans (hb5.mono hbb.drew.size);clear hb5
          refine hK.out _ _ (HKs.out _ hbw) (fun hHeld=>?_)
          clear hK K
          try simp only [Act.put,List.setIfInBounds_toArray,List.set_cons_zero,List.set_cons_succ]
          refine plI [(3,false),(4,false),(5,true),(6,true),(7,true),(8,true),(9,true),(10,true),(11,true),(12,true),(13,true),(14,true),(15,true),(16,true),(17,true),(18,true),(19,false),(20,false),(21,true),(22,true),(23,true),(24,true),(25,true),(26,true),(27,true),(28,false)] ?_
          repeat ((first | refine plF ?_ | (refine plR (v:=?_) ?_ ?_;rotate_left;focus (intro W hSW;(try dsimp only at hSW);go_simp;all_goals (with_reducible rfl))));try simp only [Act.put,List.setIfInBounds_toArray,List.set_cons_zero,List.set_cons_succ])
          refine plE ?_
          refine wpAnyH_done (by kernel_rfl) ?_ _
          clear hHeld HKs
          go_wp2_with fail
          go_meet
          exact ⟨by rw [HHD.out];rfl,HV.out.below hbw⟩
        · by_cases n7:0 < k
          · have hprev:=HPV.out n7
            have hsub:IntKind.i64.wrap ((k:Int) - 1) = ((k - 1:Nat):Int):=by rw [IntKind.wrap_i64];omega
            have hkl:k - 1 < l.length:=by omega
            generalize k - 1 = n at *
            have n7b:decide ((0:Int) < (k:Int)) = true:=by rw [decide_eq_true_iff];omega
            cases n8:Op.bytesLess prev.toList pname.toList
            · have HL:Hid (ltS prev pname = false):=n8
              have HKs:=Lib.hid (fun W (h:Below (wr.alloc (.cells #[.string pname,.string pkind,.string pinto,.string pslot,.int .i64 pmade,.int .i64 psince,.bool pgone,.slice Ap pprops.length mp,.int .i64 pkl,.int .i64 pkh,.int .i64 pcl,.int .i64 pch,.int .i64 pdl,.int .i64 pdh] 47)).heap.size (wr.alloc (.cells #[.string pname,.string pkind,.string pinto,.string pslot,.int .i64 pmade,.int .i64 psince,.bool pgone,.slice Ap pprops.length mp,.int .i64 pkl,.int .i64 pkh,.int .i64 pcl,.int .i64 pch,.int .i64 pdl,.int .i64 pdh] 47)) W)=>(⟨(HV.out.below h).c.facts.1 0,(HV.out.below h).s.facts.1 0,has_range (HV.out.below h).p,(HV.out.below h).p.facts.1 0,(HV.out.below h).p.facts.1 2,(HV.out.below h).p.facts.1 3,cell_later (((Below.refl wr.heap.size wr).alloc (Nat.le_refl _) _).trans (h.mono (by simp))) hprev⟩:(fun W=>W.cell? ⟨w.heap.size,0,none⟩ = some (.slice A' c.length cc)∧W.cell? ⟨w.heap.size+1,0,none⟩ = some (.slice (some ⟨b,o,none⟩) l.length cs0)∧W.rangeAt wr.heap.size 0 [.string pname,.string pkind,.string pinto,.string pslot,.int .i64 pmade,.int .i64 psince,.bool pgone,.slice Ap pprops.length mp,.int .i64 pkl,.int .i64 pkh,.int .i64 pcl,.int .i64 pch,.int .i64 pdl,.int .i64 pdh]∧W.cell? ⟨wr.heap.size,0,none⟩ = some (.string pname)∧W.cell? ⟨wr.heap.size,2,none⟩ = some (.string pinto)∧W.cell? ⟨wr.heap.size,3,none⟩ = some (.string pslot)∧W.cell? ⟨b,o+n*14,none⟩ = some (.string prev)) W))
              have hbb:Below (wr.alloc (.cells #[.string pname,.string pkind,.string pinto,.string pslot,.int .i64 pmade,.int .i64 psince,.bool pgone,.slice Ap pprops.length mp,.int .i64 pkl,.int .i64 pkh,.int .i64 pcl,.int .i64 pch,.int .i64 pdl,.int .i64 pdh] 47)).heap.size (wr.alloc (.cells #[.string pname,.string pkind,.string pinto,.string pslot,.int .i64 pmade,.int .i64 psince,.bool pgone,.slice Ap pprops.length mp,.int .i64 pkl,.int .i64 pkh,.int .i64 pcl,.int .i64 pch,.int .i64 pdl,.int .i64 pdh] 47)) (wr.alloc (.cells #[.string pname,.string pkind,.string pinto,.string pslot,.int .i64 pmade,.int .i64 psince,.bool pgone,.slice Ap pprops.length mp,.int .i64 pkl,.int .i64 pkh,.int .i64 pcl,.int .i64 pch,.int .i64 pdl,.int .i64 pdh] 47)):=Below.refl _ _
              refine wp_region_held_drew (S:=fun W=>W.cell? ⟨w.heap.size,0,none⟩ = some (.slice A' c.length cc)∧W.cell? ⟨w.heap.size+1,0,none⟩ = some (.slice (some ⟨b,o,none⟩) l.length cs0)∧W.rangeAt wr.heap.size 0 [.string pname,.string pkind,.string pinto,.string pslot,.int .i64 pmade,.int .i64 psince,.bool pgone,.slice Ap pprops.length mp,.int .i64 pkl,.int .i64 pkh,.int .i64 pcl,.int .i64 pch,.int .i64 pdl,.int .i64 pdh]∧W.cell? ⟨wr.heap.size,0,none⟩ = some (.string pname)∧W.cell? ⟨wr.heap.size,2,none⟩ = some (.string pinto)∧W.cell? ⟨wr.heap.size,3,none⟩ = some (.string pslot)∧W.cell? ⟨b,o+n*14,none⟩ = some (.string prev)) (by kernel_rfl) (HKs.out _ hbb.drew) (fun hHeld=>?_)
              refine plI [(0,false)] ?_
              repeat ((first | refine plF ?_ | (refine plR (v:=?_) ?_ ?_;rotate_left;focus (intro W hSW;(try dsimp only at hSW);go_simp;all_goals (with_reducible rfl))));try simp only [Act.put,List.setIfInBounds_toArray,List.set_cons_zero,List.set_cons_succ])
              refine plE ?_
              refine wpAnyH_take (i:=1) (oi:=⟨_,_,_,_,_,_⟩) (v:=_) rfl (by kernel_rfl) (by kernel_rfl) (by kernel_rfl) (fun _ _ _ h=>h) (yieldsIf_load_mid (by rfl) 47 _ rfl wr.heap.size 0 rfl [.string pname,.string pkind,.string pinto,.string pslot,.int .i64 pmade,.int .i64 psince,.bool pgone,.slice Ap pprops.length mp,.int .i64 pkl,.int .i64 pkh,.int .i64 pcl,.int .i64 pch,.int .i64 pdl,.int .i64 pdh] _ (fun W h=>h.2.2.1) Tryz.underlying47 rfl rfl) (by assumption) ?_
              try simp only [Act.put,List.setIfInBounds_toArray,List.set_cons_zero,List.set_cons_succ]
              refine wpAnyH_ready (rs:=[2]) (by kernel_rfl) (by simp) ?_
              refine AllReadyH.cons (o:=⟨_,_,_,_,_,_⟩) rfl (fun K hK=>?_) AllReadyH.nil
              go_simp
              go_at_call 51;refine (HOW.out _ (HB0.out.trans ((HV.out.below hbb.drew).b.mono hsz0))).mono ?_;rintro e w5 ⟨rfl,hb5⟩;have hbw:Below (wr.alloc (.cells #[.string pname,.string pkind,.string pinto,.string pslot,.int .i64 pmade,.int .i64 psince,.bool pgone,.slice Ap pprops.length mp,.int .i64 pkl,.int .i64 pkh,.int .i64 pcl,.int .i64 pch,.int .i64 pdl,.int .i64 pdh] 47)).heap.size (wr.alloc (.cells #[.string pname,.string pkind,.string pinto,.string pslot,.int .i64 pmade,.int .i64 psince,.bool pgone,.slice Ap pprops.length mp,.int .i64 pkl,.int .i64 pkh,.int .i64 pcl,.int .i64 pch,.int .i64 pdl,.int .i64 pdh] 47)) w5:=hbb.drew.trans (hb5.mono hbb.drew.size);clear hb5
              refine hK.out _ _ (HKs.out _ hbw) (fun hHeld=>?_)
              clear hK K
              try simp only [Act.put,List.setIfInBounds_toArray,List.set_cons_zero,List.set_cons_succ]
              refine plI [(3,false),(4,false),(5,false),(6,false),(7,false),(8,false),(9,false),(10,false),(11,false),(12,false),(13,false),(14,false),(15,false),(16,false),(17,false),(18,false),(19,false),(20,false),(21,true),(22,true),(23,true),(24,true),(25,true),(26,true),(27,true),(28,false)] ?_
              repeat ((first | refine plF ?_ | (refine plR (v:=?_) ?_ ?_;rotate_left;focus (intro W hSW;(try dsimp only at hSW);go_simp;all_goals (with_reducible rfl))));try simp only [Act.put,List.setIfInBounds_toArray,List.set_cons_zero,List.set_cons_succ])
              refine plE ?_
              refine wpAnyH_done (by kernel_rfl) ?_ _
              clear hHeld HKs
              go_wp2_with fail
              go_meet
              exact ⟨by rw [HHD.out,decide_eq_true (show 0 < k by omega),HL.out];rfl,HV.out.below hbw⟩
            · have HL:Hid (ltS prev pname = true):=n8
              · skip
                have HKs:=Lib.hid (fun W (h:Below (wr.alloc (.cells #[.string pname,.string pkind,.string pinto,.string pslot,.int .i64 pmade,.int .i64 psince,.bool pgone,.slice Ap pprops.length mp,.int .i64 pkl,.int .i64 pkh,.int .i64 pcl,.int .i64 pch,.int .i64 pdl,.int .i64 pdh] 47)).heap.size (wr.alloc (.cells #[.string pname,.string pkind,.string pinto,.string pslot,.int .i64 pmade,.int .i64 psince,.bool pgone,.slice Ap pprops.length mp,.int .i64 pkl,.int .i64 pkh,.int .i64 pcl,.int .i64 pch,.int .i64 pdl,.int .i64 pdh] 47)) W)=>(⟨(HV.out.below h).c.facts.1 0,(HV.out.below h).s.facts.1 0,has_range (HV.out.below h).p,(HV.out.below h).p.facts.1 0,(HV.out.below h).p.facts.1 2,(HV.out.below h).p.facts.1 3,cell_later (((Below.refl wr.heap.size wr).alloc (Nat.le_refl _) _).trans (h.mono (by simp))) hprev⟩:(fun W=>W.cell? ⟨w.heap.size,0,none⟩ = some (.slice A' c.length cc)∧W.cell? ⟨w.heap.size+1,0,none⟩ = some (.slice (some ⟨b,o,none⟩) l.length cs0)∧W.rangeAt wr.heap.size 0 [.string pname,.string pkind,.string pinto,.string pslot,.int .i64 pmade,.int .i64 psince,.bool pgone,.slice Ap pprops.length mp,.int .i64 pkl,.int .i64 pkh,.int .i64 pcl,.int .i64 pch,.int .i64 pdl,.int .i64 pdh]∧W.cell? ⟨wr.heap.size,0,none⟩ = some (.string pname)∧W.cell? ⟨wr.heap.size,2,none⟩ = some (.string pinto)∧W.cell? ⟨wr.heap.size,3,none⟩ = some (.string pslot)∧W.cell? ⟨b,o+n*14,none⟩ = some (.string prev)) W))
                have hbb:Below (wr.alloc (.cells #[.string pname,.string pkind,.string pinto,.string pslot,.int .i64 pmade,.int .i64 psince,.bool pgone,.slice Ap pprops.length mp,.int .i64 pkl,.int .i64 pkh,.int .i64 pcl,.int .i64 pch,.int .i64 pdl,.int .i64 pdh] 47)).heap.size (wr.alloc (.cells #[.string pname,.string pkind,.string pinto,.string pslot,.int .i64 pmade,.int .i64 psince,.bool pgone,.slice Ap pprops.length mp,.int .i64 pkl,.int .i64 pkh,.int .i64 pcl,.int .i64 pch,.int .i64 pdl,.int .i64 pdh] 47)) (wr.alloc (.cells #[.string pname,.string pkind,.string pinto,.string pslot,.int .i64 pmade,.int .i64 psince,.bool pgone,.slice Ap pprops.length mp,.int .i64 pkl,.int .i64 pkh,.int .i64 pcl,.int .i64 pch,.int .i64 pdl,.int .i64 pdh] 47)):=Below.refl _ _
                refine wp_region_held_drew (S:=fun W=>W.cell? ⟨w.heap.size,0,none⟩ = some (.slice A' c.length cc)∧W.cell? ⟨w.heap.size+1,0,none⟩ = some (.slice (some ⟨b,o,none⟩) l.length cs0)∧W.rangeAt wr.heap.size 0 [.string pname,.string pkind,.string pinto,.string pslot,.int .i64 pmade,.int .i64 psince,.bool pgone,.slice Ap pprops.length mp,.int .i64 pkl,.int .i64 pkh,.int .i64 pcl,.int .i64 pch,.int .i64 pdl,.int .i64 pdh]∧W.cell? ⟨wr.heap.size,0,none⟩ = some (.string pname)∧W.cell? ⟨wr.heap.size,2,none⟩ = some (.string pinto)∧W.cell? ⟨wr.heap.size,3,none⟩ = some (.string pslot)∧W.cell? ⟨b,o+n*14,none⟩ = some (.string prev)) (by kernel_rfl) (HKs.out _ hbb.drew) (fun hHeld=>?_)
                refine plI [(0,false)] ?_
                repeat ((first | refine plF ?_ | (refine plR (v:=?_) ?_ ?_;rotate_left;focus (intro W hSW;(try dsimp only at hSW);go_simp;all_goals (with_reducible rfl))));try simp only [Act.put,List.setIfInBounds_toArray,List.set_cons_zero,List.set_cons_succ])
                refine plE ?_
                refine wpAnyH_take (i:=1) (oi:=⟨_,_,_,_,_,_⟩) (v:=_) rfl (by kernel_rfl) (by kernel_rfl) (by kernel_rfl) (fun _ _ _ h=>h) (yieldsIf_load_mid (by rfl) 47 _ rfl wr.heap.size 0 rfl [.string pname,.string pkind,.string pinto,.string pslot,.int .i64 pmade,.int .i64 psince,.bool pgone,.slice Ap pprops.length mp,.int .i64 pkl,.int .i64 pkh,.int .i64 pcl,.int .i64 pch,.int .i64 pdl,.int .i64 pdh] _ (fun W h=>h.2.2.1) Tryz.underlying47 rfl rfl) (by assumption) ?_
                try simp only [Act.put,List.setIfInBounds_toArray,List.set_cons_zero,List.set_cons_succ]
                refine wpAnyH_ready (rs:=[2]) (by kernel_rfl) (by simp) ?_
                refine AllReadyH.cons (o:=⟨_,_,_,_,_,_⟩) rfl (fun K hK=>?_) AllReadyH.nil
                go_simp
                go_at_call 51;refine (HOW.out _ (HB0.out.trans ((HV.out.below hbb.drew).b.mono hsz0))).mono ?_;rintro e w5 ⟨rfl,hb5⟩;have hbw:Below (wr.alloc (.cells #[.string pname,.string pkind,.string pinto,.string pslot,.int .i64 pmade,.int .i64 psince,.bool pgone,.slice Ap pprops.length mp,.int .i64 pkl,.int .i64 pkh,.int .i64 pcl,.int .i64 pch,.int .i64 pdl,.int .i64 pdh] 47)).heap.size (wr.alloc (.cells #[.string pname,.string pkind,.string pinto,.string pslot,.int .i64 pmade,.int .i64 psince,.bool pgone,.slice Ap pprops.length mp,.int .i64 pkl,.int .i64 pkh,.int .i64 pcl,.int .i64 pch,.int .i64 pdl,.int .i64 pdh] 47)) w5:=hbb.drew.trans (hb5.mono hbb.drew.size);clear hb5
                refine hK.out _ _ (HKs.out _ hbw) (fun hHeld=>?_)
                clear hK K
                try simp only [Act.put,List.setIfInBounds_toArray,List.set_cons_zero,List.set_cons_succ]
                refine plI [(3,false),(4,false),(5,false),(6,false),(7,false),(8,false),(9,false),(10,false),(11,false),(12,false),(13,false),(14,false),(15,false),(16,false),(17,false),(18,false),(19,false),(20,false),(21,false),(22,false),(23,false),(24,false),(25,false),(26,false),(27,false),(28,false)] ?_
                repeat ((first | refine plF ?_ | (refine plR (v:=?_) ?_ ?_;rotate_left;focus (intro W hSW;(try dsimp only at hSW);go_simp;all_goals (with_reducible rfl))));try simp only [Act.put,List.setIfInBounds_toArray,List.set_cons_zero,List.set_cons_succ])
                refine plE ?_
                refine wpAnyH_done (by kernel_rfl) ?_ _
                clear hHeld HKs
                go_wp2_with fail
                go_meet
                exact ⟨by rw [HHD.out,decide_eq_true (show 0 < k by omega),HL.out];simp [bne],HV.out.below hbw⟩
          · have n7b:decide ((0:Int) < (k:Int)) = false:=by rw [decide_eq_false_iff_not];omega
            · skip
              have HKs:=Lib.hid (fun W (h:Below (wr.alloc (.cells #[.string pname,.string pkind,.string pinto,.string pslot,.int .i64 pmade,.int .i64 psince,.bool pgone,.slice Ap pprops.length mp,.int .i64 pkl,.int .i64 pkh,.int .i64 pcl,.int .i64 pch,.int .i64 pdl,.int .i64 pdh] 47)).heap.size (wr.alloc (.cells #[.string pname,.string pkind,.string pinto,.string pslot,.int .i64 pmade,.int .i64 psince,.bool pgone,.slice Ap pprops.length mp,.int .i64 pkl,.int .i64 pkh,.int .i64 pcl,.int .i64 pch,.int .i64 pdl,.int .i64 pdh] 47)) W)=>(⟨(HV.out.below h).c.facts.1 0,(HV.out.below h).s.facts.1 0,has_range (HV.out.below h).p,(HV.out.below h).p.facts.1 0,(HV.out.below h).p.facts.1 2,(HV.out.below h).p.facts.1 3⟩:(fun W=>W.cell? ⟨w.heap.size,0,none⟩ = some (.slice A' c.length cc)∧W.cell? ⟨w.heap.size+1,0,none⟩ = some (.slice (some ⟨b,o,none⟩) l.length cs0)∧W.rangeAt wr.heap.size 0 [.string pname,.string pkind,.string pinto,.string pslot,.int .i64 pmade,.int .i64 psince,.bool pgone,.slice Ap pprops.length mp,.int .i64 pkl,.int .i64 pkh,.int .i64 pcl,.int .i64 pch,.int .i64 pdl,.int .i64 pdh]∧W.cell? ⟨wr.heap.size,0,none⟩ = some (.string pname)∧W.cell? ⟨wr.heap.size,2,none⟩ = some (.string pinto)∧W.cell? ⟨wr.heap.size,3,none⟩ = some (.string pslot)) W))
              have hbb:Below (wr.alloc (.cells #[.string pname,.string pkind,.string pinto,.string pslot,.int .i64 pmade,.int .i64 psince,.bool pgone,.slice Ap pprops.length mp,.int .i64 pkl,.int .i64 pkh,.int .i64 pcl,.int .i64 pch,.int .i64 pdl,.int .i64 pdh] 47)).heap.size (wr.alloc (.cells #[.string pname,.string pkind,.string pinto,.string pslot,.int .i64 pmade,.int .i64 psince,.bool pgone,.slice Ap pprops.length mp,.int .i64 pkl,.int .i64 pkh,.int .i64 pcl,.int .i64 pch,.int .i64 pdl,.int .i64 pdh] 47)) (wr.alloc (.cells #[.string pname,.string pkind,.string pinto,.string pslot,.int .i64 pmade,.int .i64 psince,.bool pgone,.slice Ap pprops.length mp,.int .i64 pkl,.int .i64 pkh,.int .i64 pcl,.int .i64 pch,.int .i64 pdl,.int .i64 pdh] 47)):=Below.refl _ _
              refine wp_region_held_drew (S:=fun W=>W.cell? ⟨w.heap.size,0,none⟩ = some (.slice A' c.length cc)∧W.cell? ⟨w.heap.size+1,0,none⟩ = some (.slice (some ⟨b,o,none⟩) l.length cs0)∧W.rangeAt wr.heap.size 0 [.string pname,.string pkind,.string pinto,.string pslot,.int .i64 pmade,.int .i64 psince,.bool pgone,.slice Ap pprops.length mp,.int .i64 pkl,.int .i64 pkh,.int .i64 pcl,.int .i64 pch,.int .i64 pdl,.int .i64 pdh]∧W.cell? ⟨wr.heap.size,0,none⟩ = some (.string pname)∧W.cell? ⟨wr.heap.size,2,none⟩ = some (.string pinto)∧W.cell? ⟨wr.heap.size,3,none⟩ = some (.string pslot)) (by kernel_rfl) (HKs.out _ hbb.drew) (fun hHeld=>?_)
              refine plI [(0,false)] ?_
              repeat ((first | refine plF ?_ | (refine plR (v:=?_) ?_ ?_;rotate_left;focus (intro W hSW;(try dsimp only at hSW);go_simp;all_goals (with_reducible rfl))));try simp only [Act.put,List.setIfInBounds_toArray,List.set_cons_zero,List.set_cons_succ])
              refine plE ?_
              refine wpAnyH_take (i:=1) (oi:=⟨_,_,_,_,_,_⟩) (v:=_) rfl (by kernel_rfl) (by kernel_rfl) (by kernel_rfl) (fun _ _ _ h=>h) (yieldsIf_load_mid (by rfl) 47 _ rfl wr.heap.size 0 rfl [.string pname,.string pkind,.string pinto,.string pslot,.int .i64 pmade,.int .i64 psince,.bool pgone,.slice Ap pprops.length mp,.int .i64 pkl,.int .i64 pkh,.int .i64 pcl,.int .i64 pch,.int .i64 pdl,.int .i64 pdh] _ (fun W h=>h.2.2.1) Tryz.underlying47 rfl rfl) (by assumption) ?_
              try simp only [Act.put,List.setIfInBounds_toArray,List.set_cons_zero,List.set_cons_succ]
              refine wpAnyH_ready (rs:=[2]) (by kernel_rfl) (by simp) ?_
              refine AllReadyH.cons (o:=⟨_,_,_,_,_,_⟩) rfl (fun K hK=>?_) AllReadyH.nil
              go_simp
              go_at_call 51;refine (HOW.out _ (HB0.out.trans ((HV.out.below hbb.drew).b.mono hsz0))).mono ?_;rintro e w5 ⟨rfl,hb5⟩;have hbw:Below (wr.alloc (.cells #[.string pname,.string pkind,.string pinto,.string pslot,.int .i64 pmade,.int .i64 psince,.bool pgone,.slice Ap pprops.length mp,.int .i64 pkl,.int .i64 pkh,.int .i64 pcl,.int .i64 pch,.int .i64 pdl,.int .i64 pdh] 47)).heap.size (wr.alloc (.cells #[.string pname,.string pkind,.string pinto,.string pslot,.int .i64 pmade,.int .i64 psince,.bool pgone,.slice Ap pprops.length mp,.int .i64 pkl,.int .i64 pkh,.int .i64 pcl,.int .i64 pch,.int .i64 pdl,.int .i64 pdh] 47)) w5:=hbb.drew.trans (hb5.mono hbb.drew.size);clear hb5
              refine hK.out _ _ (HKs.out _ hbw) (fun hHeld=>?_)
              clear hK K
              try simp only [Act.put,List.setIfInBounds_toArray,List.set_cons_zero,List.set_cons_succ]
              refine plI [(3,false),(4,false),(5,false),(6,false),(7,false),(8,true),(9,true),(10,true),(11,true),(12,true),(13,true),(14,true),(15,true),(16,true),(17,true),(18,false),(19,false),(20,false),(21,false),(22,false),(23,false),(24,false),(25,false),(26,false),(27,false),(28,false)] ?_
              repeat ((first | refine plF ?_ | (refine plR (v:=?_) ?_ ?_;rotate_left;focus (intro W hSW;(try dsimp only at hSW);go_simp;all_goals (with_reducible rfl))));try simp only [Act.put,List.setIfInBounds_toArray,List.set_cons_zero,List.set_cons_succ])
              refine plE ?_
              refine wpAnyH_done (by kernel_rfl) ?_ _
              clear hHeld HKs
              go_wp2_with fail
              go_meet
              exact ⟨by rw [HHD.out,decide_eq_false (show ¬ 0 < k by omega)];simp [bne],HV.out.below hbw⟩
      case rest =>
        obtain ⟨rfl,HV1⟩:=hcut
        obtain ⟨x4,y4⟩:=HV1.out.s.facts
        obtain ⟨x5,y5⟩:=HV1.out.p.facts
        obtain ⟨x6,y6⟩:=HV1.out.c.facts
        clear HV x3 y3 x2 y2 hrg' HC HSb HBB HBW HPV
        cases hh:headB c l k
        · have HGD:=Lib.hid (HGD.out hh)
          clear hh HBD HHD HOW
          have hie:=emp_iff pinto
          cases hi:pinto.toList.isEmpty
          · have HI:Hid (¬ pinto = eS):=fun e=>by rw [hi,decide_eq_true e] at hie;cases hie
            clear hie
            go_wp2_with fail
            refine (HAT.out pinto _ (HB0.out.trans (HV1.out.b.mono hsz0))).mono ?_
            rintro e w6 ⟨rfl,hb6⟩
            have HV6:=Lib.hid (HV1.out.below hb6)
            clear hb6 x4 y4 x5 y5 x6 y6
            obtain ⟨x4,y4⟩:=HV6.out.s.facts
            obtain ⟨x5,y5⟩:=HV6.out.p.facts
            have HPL:=Lib.hid (placeOk_eq c l (⟨pname,pkind,pinto,pslot,pmade,psince,pgone,pprops,pkl,pkh,pcl,pch,pdl,pdh⟩:Pa))
            have HPO:=Lib.hid (partOk_in (l:=l) HGD.out.1 HGD.out.2.2 HI.out)
            obtain ⟨ai,hai⟩:∃ a,atP l pinto = a:=⟨_,rfl⟩
            rw [hai]
            have HAI:=Lib.hid hai
            clear hai
            go_upto_region 11 with fail
            go_cut [94] from 18 to 119 (fun f wx=>f = .bool (!placeOk c l (⟨pname,pkind,pinto,pslot,pmade,psince,pgone,pprops,pkl,pkh,pcl,pch,pdl,pdh⟩:Pa))∧Hid (ValB w wx #[.slice A' c.length cc] #[.slice (some ⟨b,o,none⟩) l.length cs0] #[.string pname,.string pkind,.string pinto,.string pslot,.int .i64 pmade,.int .i64 psince,.bool pgone,.slice Ap pprops.length mp,.int .i64 pkl,.int .i64 pkh,.int .i64 pcl,.int .i64 pch,.int .i64 pdl,.int .i64 pdh] wr.heap.size))
            case first =>
              cases hqf:pfind l pinto
              · have hA:=HAI.out.symm.trans (atP_no hqf)
                subst hA
                have HF:=Lib.hid (show placeOk c l (⟨pname,pkind,pinto,pslot,pmade,psince,pgone,pprops,pkl,pkh,pcl,pch,pdl,pdh⟩:Pa) = false from place_none hqf)
                clear hqf
                have HKs:=Lib.hid (fun W (h:Below w6.heap.size w6 W)=>(⟨(HV6.out.below h).c.facts.1 0,(HV6.out.below h).s.facts.1 0,(HV6.out.below h).p.facts.1 1,(HV6.out.below h).p.facts.1 3,(HV6.out.below h).p.facts.1 6⟩:(fun W=>W.cell? ⟨w.heap.size,0,none⟩ = some (.slice A' c.length cc)∧W.cell? ⟨w.heap.size+1,0,none⟩ = some (.slice (some ⟨b,o,none⟩) l.length cs0)∧W.cell? ⟨wr.heap.size,1,none⟩ = some (.string pkind)∧W.cell? ⟨wr.heap.size,3,none⟩ = some (.string pslot)∧W.cell? ⟨wr.heap.size,6,none⟩ = some (.bool pgone)) W))
                have hbb:Below w6.heap.size w6 w6:=Below.refl _ _
                refine wp_region_held_drew (S:=fun W=>W.cell? ⟨w.heap.size,0,none⟩ = some (.slice A' c.length cc)∧W.cell? ⟨w.heap.size+1,0,none⟩ = some (.slice (some ⟨b,o,none⟩) l.length cs0)∧W.cell? ⟨wr.heap.size,1,none⟩ = some (.string pkind)∧W.cell? ⟨wr.heap.size,3,none⟩ = some (.string pslot)∧W.cell? ⟨wr.heap.size,6,none⟩ = some (.bool pgone)) (by kernel_rfl) (HKs.out _ hbb.drew) (fun hHeld=>?_)
                refine plI [(0,false),(1,false),(2,false),(3,true),(4,true),(5,false),(6,false),(7,true),(8,true),(9,true),(10,true),(11,true),(12,true),(13,false),(14,false),(15,true),(16,true),(17,true),(18,true),(19,true),(20,true),(21,true),(22,true),(23,true),(24,true),(25,true),(26,true),(27,true),(28,false)] ?_
                repeat ((first | refine plF ?_ | (refine plR (v:=?_) ?_ ?_;rotate_left;focus (intro W hSW;(try dsimp only at hSW);go_simp;all_goals (with_reducible rfl))));try simp only [Act.put,List.setIfInBounds_toArray,List.set_cons_zero,List.set_cons_succ])
                refine plE ?_
                refine wpAnyH_done (by kernel_rfl) ?_ _
                clear hHeld HKs
                go_wp2_with fail
                go_meet
                exact ⟨by rw [HF.out];rfl,HV6.out.below hbb.drew⟩
              · rename_i q
                obtain ⟨kq,hkq,haq,hgq⟩:=atP_yes hqf
                have hA:=HAI.out.symm.trans haq
                subst hA
                have HPL2:=Lib.hid (show placeOk c l (⟨pname,pkind,pinto,pslot,pmade,psince,pgone,pprops,pkl,pkh,pcl,pch,pdl,pdh⟩:Pa) = (!pgone && (!q.gone && takesB c q.kind pslot pkind)) from place_some hqf)
                obtain ⟨bq,oq,cq,csq,heq,_,⟨svq,rfl,hsvq⟩,_,hrgq⟩:=Rd.get HSV.out hkq noPa
                injection heq with e1 e2 e3
                injection e1 with e1
                injection e1 with e1 e1'
                subst e1;subst e1';subst e3
                rw [hgq] at hrgq hsvq
                obtain ⟨Aq,mq,rfl,hnq⟩:=Rd.form hsvq
                have HRQ0:=Lib.hid hrgq
                have hkqi:(kq:Int) < (l.length:Int):=by omega
                have hkq0:¬ (kq:Int) < 0:=by omega
                have hkq1:(0:Int)≤(kq:Int):=by omega
                clear hqf haq hgq hrgq hsvq
                obtain ⟨qname,qkind,qinto,qslot,qmade,qsince,qgone,qprops,qkl,qkh,qcl,qch,qdl,qdh⟩:=q
                have HRQ:Hid (w0.rangeAt b (o+kq*14) [.string qname,.string qkind,.string qinto,.string qslot,.int .i64 qmade,.int .i64 qsince,.bool qgone,.slice Aq qprops.length mq,.int .i64 qkl,.int .i64 qkh,.int .i64 qcl,.int .i64 qch,.int .i64 qdl,.int .i64 qdh]):=HRQ0
                clear HRQ0
                replace HPL2:Hid (placeOk c l (⟨pname,pkind,pinto,pslot,pmade,psince,pgone,pprops,pkl,pkh,pcl,pch,pdl,pdh⟩:Pa) = (!pgone && (!qgone && takesB c qkind pslot pkind))):=HPL2
                have HTQ:=Lib.hid (HTK.out qkind pslot pkind)
                obtain ⟨tb,htb⟩:∃ t,t = takesB c qkind pslot pkind:=⟨_,rfl⟩
                rw [←htb] at HPL2 HTQ
                have HTB:=Lib.hid htb
                clear htb
                cases pgone
                · cases qgone
                  · skip
                    have HKs:=Lib.hid (fun W (h:Below w6.heap.size w6 W)=>(⟨(HV6.out.below h).c.facts.1 0,(HV6.out.below h).s.facts.1 0,(HV6.out.below h).p.facts.1 1,(HV6.out.below h).p.facts.1 3,(HV6.out.below h).p.facts.1 6,range_later HRQ.out (HB0.out.trans ((HV6.out.below h).b.mono hsz0)) 1 _ rfl,range_later HRQ.out (HB0.out.trans ((HV6.out.below h).b.mono hsz0)) 6 _ rfl⟩:(fun W=>W.cell? ⟨w.heap.size,0,none⟩ = some (.slice A' c.length cc)∧W.cell? ⟨w.heap.size+1,0,none⟩ = some (.slice (some ⟨b,o,none⟩) l.length cs0)∧W.cell? ⟨wr.heap.size,1,none⟩ = some (.string pkind)∧W.cell? ⟨wr.heap.size,3,none⟩ = some (.string pslot)∧W.cell? ⟨wr.heap.size,6,none⟩ = some (.bool false)∧W.cell? ⟨b,o+kq*14+1,none⟩ = some (.string qkind)∧W.cell? ⟨b,o+kq*14+6,none⟩ = some (.bool false)) W))
                    have hbb:Below w6.heap.size w6 w6:=Below.refl _ _
                    refine wp_region_held_drew (S:=fun W=>W.cell? ⟨w.heap.size,0,none⟩ = some (.slice A' c.length cc)∧W.cell? ⟨w.heap.size+1,0,none⟩ = some (.slice (some ⟨b,o,none⟩) l.length cs0)∧W.cell? ⟨wr.heap.size,1,none⟩ = some (.string pkind)∧W.cell? ⟨wr.heap.size,3,none⟩ = some (.string pslot)∧W.cell? ⟨wr.heap.size,6,none⟩ = some (.bool false)∧W.cell? ⟨b,o+kq*14+1,none⟩ = some (.string qkind)∧W.cell? ⟨b,o+kq*14+6,none⟩ = some (.bool false)) (by kernel_rfl) (HKs.out _ hbb.drew) (fun hHeld=>?_)
                    refine plI [(0,false),(1,false),(2,false),(3,false),(4,false),(5,false),(6,false),(7,false),(8,false),(9,false),(10,false),(11,false),(12,false),(13,false),(14,false),(15,false),(16,false),(17,false),(18,false),(19,false),(20,false),(21,false),(22,false),(23,false),(24,false),(25,false)] ?_
                    repeat ((first | refine plF ?_ | (refine plR (v:=?_) ?_ ?_;rotate_left;focus (intro W hSW;(try dsimp only at hSW);go_simp;all_goals (with_reducible rfl))));try simp only [Act.put,List.setIfInBounds_toArray,List.set_cons_zero,List.set_cons_succ])
                    refine plE ?_
                    refine wpAnyH_ready (rs:=[26]) (by kernel_rfl) (by simp) ?_
                    refine AllReadyH.cons (o:=⟨_,_,_,_,_,_⟩) rfl (fun K hK=>?_) AllReadyH.nil
                    go_simp
                    go_at_call 53;refine (HTQ.out _ (HB0.out.trans ((HV6.out.below hbb.drew).b.mono hsz0))).mono ?_;rintro e w7 ⟨rfl,hb7⟩;have hbw:Below w6.heap.size w6 w7:=hbb.drew.trans (hb7.mono hbb.drew.size);clear hb7
                    refine hK.out _ _ (HKs.out _ hbw) (fun hHeld=>?_)
                    clear hK K
                    try simp only [Act.put,List.setIfInBounds_toArray,List.set_cons_zero,List.set_cons_succ]
                    refine plI [(27,false),(28,false)] ?_
                    repeat ((first | refine plF ?_ | (refine plR (v:=?_) ?_ ?_;rotate_left;focus (intro W hSW;(try dsimp only at hSW);go_simp;all_goals (with_reducible rfl))));try simp only [Act.put,List.setIfInBounds_toArray,List.set_cons_zero,List.set_cons_succ])
                    refine plE ?_
                    refine wpAnyH_done (by kernel_rfl) ?_ _
                    clear hHeld HKs
                    go_wp2_with fail
                    go_meet
                    exact ⟨by rw [HPL2.out];simp,HV6.out.below hbw⟩
                  · skip
                    have HKs:=Lib.hid (fun W (h:Below w6.heap.size w6 W)=>(⟨(HV6.out.below h).c.facts.1 0,(HV6.out.below h).s.facts.1 0,(HV6.out.below h).p.facts.1 1,(HV6.out.below h).p.facts.1 3,(HV6.out.below h).p.facts.1 6,range_later HRQ.out (HB0.out.trans ((HV6.out.below h).b.mono hsz0)) 1 _ rfl,range_later HRQ.out (HB0.out.trans ((HV6.out.below h).b.mono hsz0)) 6 _ rfl⟩:(fun W=>W.cell? ⟨w.heap.size,0,none⟩ = some (.slice A' c.length cc)∧W.cell? ⟨w.heap.size+1,0,none⟩ = some (.slice (some ⟨b,o,none⟩) l.length cs0)∧W.cell? ⟨wr.heap.size,1,none⟩ = some (.string pkind)∧W.cell? ⟨wr.heap.size,3,none⟩ = some (.string pslot)∧W.cell? ⟨wr.heap.size,6,none⟩ = some (.bool false)∧W.cell? ⟨b,o+kq*14+1,none⟩ = some (.string qkind)∧W.cell? ⟨b,o+kq*14+6,none⟩ = some (.bool true)) W))
                    have hbb:Below w6.heap.size w6 w6:=Below.refl _ _
                    refine wp_region_held_drew (S:=fun W=>W.cell? ⟨w.heap.size,0,none⟩ = some (.slice A' c.length cc)∧W.cell? ⟨w.heap.size+1,0,none⟩ = some (.slice (some ⟨b,o,none⟩) l.length cs0)∧W.cell? ⟨wr.heap.size,1,none⟩ = some (.string pkind)∧W.cell? ⟨wr.heap.size,3,none⟩ = some (.string pslot)∧W.cell? ⟨wr.heap.size,6,none⟩ = some (.bool false)∧W.cell? ⟨b,o+kq*14+1,none⟩ = some (.string qkind)∧W.cell? ⟨b,o+kq*14+6,none⟩ = some (.bool true)) (by kernel_rfl) (HKs.out _ hbb.drew) (fun hHeld=>?_)
                    refine plI [(0,false),(1,false),(2,false),(3,false),(4,false),(5,false),(6,false),(7,false),(8,false),(9,false),(10,false),(11,false),(12,false),(13,false),(14,false),(15,true),(16,true),(17,true),(18,true),(19,true),(20,true),(21,true),(22,true),(23,true),(24,true),(25,true),(26,true),(27,true),(28,false)] ?_
                    repeat ((first | refine plF ?_ | (refine plR (v:=?_) ?_ ?_;rotate_left;focus (intro W hSW;(try dsimp only at hSW);go_simp;all_goals (with_reducible rfl))));try simp only [Act.put,List.setIfInBounds_toArray,List.set_cons_zero,List.set_cons_succ])
                    refine plE ?_
                    refine wpAnyH_done (by kernel_rfl) ?_ _
                    clear hHeld HKs
                    go_wp2_with fail
                    go_meet
                    exact ⟨by rw [HPL2.out];rfl,HV6.out.below hbb.drew⟩
                · skip
                  have HKs:=Lib.hid (fun W (h:Below w6.heap.size w6 W)=>(⟨(HV6.out.below h).c.facts.1 0,(HV6.out.below h).s.facts.1 0,(HV6.out.below h).p.facts.1 1,(HV6.out.below h).p.facts.1 3,(HV6.out.below h).p.facts.1 6,range_later HRQ.out (HB0.out.trans ((HV6.out.below h).b.mono hsz0)) 1 _ rfl,range_later HRQ.out (HB0.out.trans ((HV6.out.below h).b.mono hsz0)) 6 _ rfl⟩:(fun W=>W.cell? ⟨w.heap.size,0,none⟩ = some (.slice A' c.length cc)∧W.cell? ⟨w.heap.size+1,0,none⟩ = some (.slice (some ⟨b,o,none⟩) l.length cs0)∧W.cell? ⟨wr.heap.size,1,none⟩ = some (.string pkind)∧W.cell? ⟨wr.heap.size,3,none⟩ = some (.string pslot)∧W.cell? ⟨wr.heap.size,6,none⟩ = some (.bool true)∧W.cell? ⟨b,o+kq*14+1,none⟩ = some (.string qkind)∧W.cell? ⟨b,o+kq*14+6,none⟩ = some (.bool qgone)) W))
                  have hbb:Below w6.heap.size w6 w6:=Below.refl _ _
                  refine wp_region_held_drew (S:=fun W=>W.cell? ⟨w.heap.size,0,none⟩ = some (.slice A' c.length cc)∧W.cell? ⟨w.heap.size+1,0,none⟩ = some (.slice (some ⟨b,o,none⟩) l.length cs0)∧W.cell? ⟨wr.heap.size,1,none⟩ = some (.string pkind)∧W.cell? ⟨wr.heap.size,3,none⟩ = some (.string pslot)∧W.cell? ⟨wr.heap.size,6,none⟩ = some (.bool true)∧W.cell? ⟨b,o+kq*14+1,none⟩ = some (.string qkind)∧W.cell? ⟨b,o+kq*14+6,none⟩ = some (.bool qgone)) (by kernel_rfl) (HKs.out _ hbb.drew) (fun hHeld=>?_)
                  refine plI [(0,false),(1,false),(2,false),(3,false),(4,false),(5,false),(6,false),(7,true),(8,true),(9,true),(10,true),(11,true),(12,true),(13,false),(14,false),(15,true),(16,true),(17,true),(18,true),(19,true),(20,true),(21,true),(22,true),(23,true),(24,true),(25,true),(26,true),(27,true),(28,false)] ?_
                  repeat ((first | refine plF ?_ | (refine plR (v:=?_) ?_ ?_;rotate_left;focus (intro W hSW;(try dsimp only at hSW);go_simp;all_goals (with_reducible rfl))));try simp only [Act.put,List.setIfInBounds_toArray,List.set_cons_zero,List.set_cons_succ])
                  refine plE ?_
                  refine wpAnyH_done (by kernel_rfl) ?_ _
                  clear hHeld HKs
                  go_wp2_with fail
                  go_meet
                  exact ⟨by rw [HPL2.out];rfl,HV6.out.below hbb.drew⟩
            case rest =>
              obtain ⟨rfl,HV7⟩:=hcut
              clear x4 y4 x5 y5 HV6 HV1 HPL
              obtain ⟨x4,y4⟩:=HV7.out.s.facts
              obtain ⟨x5,y5⟩:=HV7.out.p.facts
              cases hpl:placeOk c l (⟨pname,pkind,pinto,pslot,pmade,psince,pgone,pprops,pkl,pkh,pcl,pch,pdl,pdh⟩:Pa)
              · have HNO:=Lib.hid (HVP.out (HPO.out.trans hpl))
                clear hpl
                go_wp2_with fail
                go_ret
                exact ⟨ret_bool HNO.out.symm,HV7.out.b⟩
              · have HOK:=Lib.hid (HPO.out.trans hpl)
                clear hpl HPO
                go_wp2_with fail
                obtain ⟨wo,rfl⟩:∃ wo:World,wo = wr:=⟨_,rfl⟩
                clear x4 y4 x5 y5
                go_loopw [8] (fun i wv=>∃ n:Nat,n≤k∧i = .int .i64 n∧Hid (∀ q∈l.take n,¬ (q.into = pinto∧q.slot = pslot))∧Hid (ValB w wv #[.slice A' c.length cc] #[.slice (some ⟨b,o,none⟩) l.length cs0] #[.string pname,.string pkind,.string pinto,.string pslot,.int .i64 pmade,.int .i64 psince,.bool pgone,.slice Ap pprops.length mp,.int .i64 pkl,.int .i64 pkh,.int .i64 pcl,.int .i64 pch,.int .i64 pdl,.int .i64 pdh] wo.heap.size)) (fun i _=>k - (intOf i).toNat)
                case atStart=>exact ⟨0,Nat.zero_le _,rfl,fun q hq=>by simp at hq,HV7.out⟩
                case round =>
                  obtain ⟨n,hn,rfl,HSN,HVV⟩:=hrel
                  clear HV7
                  obtain ⟨x4,y4⟩:=HVV.out.s.facts
                  obtain ⟨x5,y5⟩:=HVV.out.p.facts
                  by_cases hnk:n < k
                  · have hnl:n < l.length:=by omega
                    obtain ⟨bq,oq,cq,csq,heq,_,⟨svq,rfl,hsvq⟩,_,hrgq⟩:=Rd.get HSV.out hnl noPa
                    injection heq with e1 e2 e3
                    injection e1 with e1
                    injection e1 with e1 e1'
                    subst e1;subst e1';subst e3
                    have hrq:=range_later hrgq (HB0.out.trans (HVV.out.b.mono hsz0))
                    have HSA:=Lib.hid (fun hi h=>seat_at (l:=l) (k:=k) (n:=n) (p:=(⟨pname,pkind,pinto,pslot,pmade,psince,pgone,pprops,pkl,pkh,pcl,pch,pdl,pdh⟩:Pa)) hi hnk hk h)
                    have HSS:=Lib.hid (fun h=>seen_step (l:=l) (k:=k) (n:=n) (p:=(⟨pname,pkind,pinto,pslot,pmade,psince,pgone,pprops,pkl,pkh,pcl,pch,pdl,pdh⟩:Pa)) hnk hk HSN.out h)
                    have r2:wr.cell? ⟨b,o+n*14+2,none⟩ = some (.string (l.getD n noPa).into):=hrq 2 _ rfl
                    have r3:wr.cell? ⟨b,o+n*14+3,none⟩ = some (.string (l.getD n noPa).slot):=hrq 3 _ rfl
                    have hni:(n:Int) < (l.length:Int):=by omega
                    have hni2:(n:Int) < (k:Int):=by omega
                    clear hrq hrgq hsvq
                    replace HSA:Hid (¬ pinto = eS→(l.getD n noPa).into = pinto∧(l.getD n noPa).slot = pslot→seatOf (⟨pname,pkind,pinto,pslot,pmade,psince,pgone,pprops,pkl,pkh,pcl,pch,pdl,pdh⟩:Pa)∈seats (l.take k)):=HSA
                    replace HSS:Hid (¬ ((l.getD n noPa).into = pinto∧(l.getD n noPa).slot = pslot)→∀ q∈l.take (n+1),¬ (q.into = pinto∧q.slot = pslot)):=HSS
                    generalize (l.getD n noPa).into = qi at *
                    generalize (l.getD n noPa).slot = qs at *
                    cases e1:(qi.toList == pinto.toList)
                    · have HN:=Lib.hid (HSS.out (fun h=>by rw [beq_bytes,decide_eq_true h.1] at e1;cases e1))
                      go_wp2_with fail
                      go_quiet (fail)
                      go_wp2_with fail
                      go_roundw
                      case rel=>(repeat apply Exists.intro);exact ⟨⟨n+1,by omega,by go_num,HN.out,HVV.out.drewN _⟩,rfl⟩
                      case measure=>simp [intOf];omega
                    · cases e2:(qs.toList == pslot.toList)
                      · have HN:=Lib.hid (HSS.out (fun h=>by rw [beq_bytes,decide_eq_true h.2] at e2;cases e2))
                        go_wp2_with fail
                        go_quiet (fail)
                        go_wp2_with fail
                        go_roundw
                        case rel=>(repeat apply Exists.intro);exact ⟨⟨n+1,by omega,by go_num,HN.out,HVV.out.drewN _⟩,rfl⟩
                        case measure=>simp [intOf];omega
                      · have HN:=Lib.hid (HSEAT.out HI.out (HSA.out HI.out ⟨by rw [beq_bytes] at e1;exact of_decide_eq_true e1,by rw [beq_bytes] at e2;exact of_decide_eq_true e2⟩))
                        go_wp2_with fail
                        go_quiet (fail)
                        go_wp2_with fail
                        go_ret
                        exact ⟨ret_bool HN.out.symm,below_drewN HVV.out.b _⟩
                  · obtain rfl:n = k:=by omega
                    have HST:=Lib.hid (HSTP.out HOK.out (.inr (seat_no HI.out HSN.out)) HGD.out.2.1)
                    go_wp2_with fail
                    go_roundw
                    case rel=>exact ⟨n+1,by omega,by go_num,HST.out,HVV.out.c,HVV.out.s,HVV.out.b⟩
                    case measure=>simp [intOf];omega
          · have HI:Hid (pinto = eS):=by show pinto = eS;rw [hi] at hie;exact of_decide_eq_true hie.symm
            clear hie
            go_wp2_with fail
            go_roundw
            case rel=>exact ⟨k+1,by omega,by go_num,HSTP.out (partOk_free HGD.out.1 HGD.out.2.2 HI.out) (.inl HI.out) HGD.out.2.1,HV1.out.c,HV1.out.s,HV1.out.b⟩
            case measure=>simp [intOf];omega
        · have HNO:=Lib.hid (HBD.out hh)
          clear hh
          go_wp2_with fail
          go_ret
          exact ⟨ret_bool HNO.out.symm,HV1.out.b⟩
    · obtain rfl:k = l.length:=by omega
      have HE:=Lib.hid (partsTo_end (c:=c) HCB.out (by omega) HT.out)
      go_wp2_with fail
      go_ret
      exact ⟨ret_bool HE.out.symm,HBB.out⟩
end Go.Proofs.YtpikcofbhkbifaaGreat
