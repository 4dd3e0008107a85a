/- bogieref10.Step: what is not possible, and why. No condition but sizes. bogieref10.Step at removals, runs, overhauls. No condition but sizes. -/
import Derived.Test.YtpikcofbhkbifaaGreatU08
import Derived.Test.YtpikcofbhkbifaaGreatU13
import Derived.Test.YtpikcofbhkbifaaGreatU14
import Derived.Test.YtpikcofbhkbifaaGreatU20
import Derived.Test.YtpikcofbhkbifaaGreatU25
import Derived.Test.YtpikcofbhkbifaaGreatZRD
namespace Go.Proofs.YtpikcofbhkbifaaGreat
open Go Go.RowKit
theorem valid_len {c:List Kd} {l:List Pa} (h:validB c l = true):l.length≤20000:=by
  unfold validB at h
  simp only [Bool.and_eq_true,decide_eq_true_eq] at h
  exact h.1.2.1
set_option maxRecDepth 100000 in
set_option maxHeartbeats 8000000 in
theorem step_none_one (wb:World) (cv sv:Value) (c:List Kd) (l:List Pa) (op:Int) (day:Int) (part kind into slot key value:ByteArray) (ukl ukh ucl uch ull ulh:Int) (w:World) (hb0:Below wb.heap.size wb w) (hcat:Cat wb cv c) (hcl:c.length≤100000) (hks:∀ k∈c,k.short) (hsta:Sta wb sv l) (hvb:validB c l = true) (h1:¬ op = 1) (h2:¬ op = 2) (hpf:pfind l part = none) :
    Calls Tryz.prog 45 #[.agg #[cv],.agg #[sv],.agg #[.int .i64 op,.int .i64 day,.string part,.string kind,.string into,.string slot,.string key,.string value,.int .i64 ukl,.int .i64 ukh,.int .i64 ucl,.int .i64 uch,.int .i64 ull,.int .i64 ulh]] w fun r w'=>∃ v',r = .returned (.tuple #[.agg #[v'],.int .i64 (stepL c l ⟨op,day,part,kind,into,slot,key,value,ukl,ukh,ucl,uch,ull,ulh⟩).2])∧Sta w' v' (stepL c l ⟨op,day,part,kind,into,slot,key,value,ukl,ukh,ucl,uch,ull,ulh⟩).1∧Below w.heap.size w w':=by
  obtain ⟨A',cc,rfl,hn⟩:=Rd.form hcat
  obtain ⟨A,cs0,rfl,hn0⟩:=Rd.form hsta
  have hl20:=(valid_len hvb)
  have HBW:=Lib.hid hb0
  have hsz0:=hb0.size
  have B0:=Lib.hid (ApB.new w A' c.length cc A l.length cs0 #[.int .i64 op,.int .i64 day,.string part,.string kind,.string into,.string slot,.string key,.string value,.int .i64 ukl,.int .i64 ukh,.int .i64 ucl,.int .i64 uch,.int .i64 ull,.int .i64 ulh])
  have HB0:=Lib.hid B0.out.b
  have HV:=Lib.hid hsta
  have HAT:=Lib.hid (fun x W (h:Below wb.heap.size wb W)=>refAt_any wb _ l x W h hsta (by omega))
  have HF:=Lib.hid (fun x W (h:Below wb.heap.size wb W)=>refFind_any wb _ c x W h hcat hcl)
  have HTK:=Lib.hid (fun x y z W (h:Below wb.heap.size wb W)=>refTakes_any wb _ c x y z W h hcat hcl hks)
  have HHD:=Lib.hid (fun x y W (h:Below wb.heap.size wb W)=>refHeld_any wb _ l x y W h hsta (by omega))
  have HSO:=Lib.hid (sorted_ord.1 (validB_sorted hvb))
  clear hb0 hcat hks
  have HAI:=Lib.hid (atP_no hpf)
  have HPF:=Lib.hid hpf
  clear hpf hvb hsta
  go_enter Tryz.func45,Tryz.ntmps45
  go_wp2_with fail
  refine (HAT.out part _ (HBW.out.trans (B0.out.b.mono hsz0))).mono ?_
  rintro e w1 ⟨rfl,hb1⟩
  rw [HAI.out]
  have B1:=Lib.hid (B0.out.below hb1)
  obtain ⟨f1a,f1b,f1c,f1d,f1e⟩:=B1.out.cells
  have fz1:=B1.out.z
  have HB1:=Lib.hid (bon (HB0.out) hb1)
  clear hb1
  go_wp2_with fail
  obtain ⟨n4,n5⟩:=(B1.out.r.put 0 (.slice none 0 0)).facts
  refine bodyPost_ret (v:=.tuple #[.agg #[.slice none 0 0],.int .i64 2]) (by simp [results,Tryz.results45,go_sem,n4]) rfl ?_
  rw [show stepL c l _ = (([]:List Pa),(2:Int)) from (by unfold stepL;simp only [HPF.out,h1,if_false])]
  have hB:=B1.out.b
  exact ⟨_,rfl,Rd.nil _ _,hB.setCell (by simp;omega) _⟩
set_option maxRecDepth 100000 in
set_option maxHeartbeats 8000000 in
theorem step_none_two (wb:World) (cv sv:Value) (c:List Kd) (l:List Pa) (day:Int) (part kind into slot key value:ByteArray) (ukl ukh ucl uch ull ulh:Int) (w:World) (hb0:Below wb.heap.size wb w) (hcat:Cat wb cv c) (hcl:c.length≤100000) (hks:∀ k∈c,k.short) (hsta:Sta wb sv l) (hvb:validB c l = true) (hpf:pfind l part = none) :
    Calls Tryz.prog 45 #[.agg #[cv],.agg #[sv],.agg #[.int .i64 2,.int .i64 day,.string part,.string kind,.string into,.string slot,.string key,.string value,.int .i64 ukl,.int .i64 ukh,.int .i64 ucl,.int .i64 uch,.int .i64 ull,.int .i64 ulh]] w fun r w'=>∃ v',r = .returned (.tuple #[.agg #[v'],.int .i64 (stepL c l ⟨2,day,part,kind,into,slot,key,value,ukl,ukh,ucl,uch,ull,ulh⟩).2])∧Sta w' v' (stepL c l ⟨2,day,part,kind,into,slot,key,value,ukl,ukh,ucl,uch,ull,ulh⟩).1∧Below w.heap.size w w':=by
  obtain ⟨A',cc,rfl,hn⟩:=Rd.form hcat
  obtain ⟨A,cs0,rfl,hn0⟩:=Rd.form hsta
  have hl20:=(valid_len hvb)
  have HBW:=Lib.hid hb0
  have hsz0:=hb0.size
  have B0:=Lib.hid (ApB.new w A' c.length cc A l.length cs0 #[.int .i64 2,.int .i64 day,.string part,.string kind,.string into,.string slot,.string key,.string value,.int .i64 ukl,.int .i64 ukh,.int .i64 ucl,.int .i64 uch,.int .i64 ull,.int .i64 ulh])
  have HB0:=Lib.hid B0.out.b
  have HV:=Lib.hid hsta
  have HAT:=Lib.hid (fun x W (h:Below wb.heap.size wb W)=>refAt_any wb _ l x W h hsta (by omega))
  have HF:=Lib.hid (fun x W (h:Below wb.heap.size wb W)=>refFind_any wb _ c x W h hcat hcl)
  have HTK:=Lib.hid (fun x y z W (h:Below wb.heap.size wb W)=>refTakes_any wb _ c x y z W h hcat hcl hks)
  have HHD:=Lib.hid (fun x y W (h:Below wb.heap.size wb W)=>refHeld_any wb _ l x y W h hsta (by omega))
  have HSO:=Lib.hid (sorted_ord.1 (validB_sorted hvb))
  clear hb0 hcat hks
  have HAI:=Lib.hid (atP_no hpf)
  have HPF:=Lib.hid hpf
  clear hpf hvb hsta
  generalize haj:atP l into = aj
  have HAJ:=Lib.hid haj
  clear haj
  go_enter Tryz.func45,Tryz.ntmps45
  go_wp2_with fail
  refine (HAT.out part _ (HBW.out.trans (B0.out.b.mono hsz0))).mono ?_
  rintro e w1 ⟨rfl,hb1⟩
  rw [HAI.out]
  have B1:=Lib.hid (B0.out.below hb1)
  obtain ⟨f1a,f1b,f1c,f1d,f1e⟩:=B1.out.cells
  have fz1:=B1.out.z
  have HB1:=Lib.hid (bon (HB0.out) hb1)
  clear hb1
  go_wp2_with fail
  refine (HAT.out into _ (HBW.out.trans (B1.out.b.mono hsz0))).mono ?_
  rintro e w2 ⟨rfl,hb2⟩
  rw [HAJ.out]
  have B2:=Lib.hid (B1.out.below hb2)
  clear f1a f1b f1c f1d f1e fz1
  obtain ⟨f2a,f2b,f2c,f2d,f2e⟩:=B2.out.cells
  have fz2:=B2.out.z
  have HB2:=Lib.hid (bon (HB1.out) hb2)
  clear hb2
  go_wp2_with fail
  obtain ⟨n4,n5⟩:=(B2.out.r.put 0 (.slice none 0 0)).facts
  refine bodyPost_ret (v:=.tuple #[.agg #[.slice none 0 0],.int .i64 2]) (by simp [results,Tryz.results45,go_sem,n4]) rfl ?_
  rw [show stepL c l _ = (([]:List Pa),(2:Int)) from (by unfold stepL;simp only [HPF.out];simp)]
  have hB:=B2.out.b
  exact ⟨_,rfl,Rd.nil _ _,hB.setCell (by simp;omega) _⟩
set_option maxRecDepth 100000 in
set_option maxHeartbeats 8000000 in
theorem step_none_host (wb:World) (cv sv:Value) (c:List Kd) (l:List Pa) (day:Int) (part kind into slot key value:ByteArray) (ukl ukh ucl uch ull ulh:Int) (w:World) (hb0:Below wb.heap.size wb w) (hcat:Cat wb cv c) (hcl:c.length≤100000) (hks:∀ k∈c,k.short) (hsta:Sta wb sv l) (hvb:validB c l = true) (p:Pa) (hpf:pfind l part = some p) (hhf:pfind l into = none) :
    Calls Tryz.prog 45 #[.agg #[cv],.agg #[sv],.agg #[.int .i64 2,.int .i64 day,.string part,.string kind,.string into,.string slot,.string key,.string value,.int .i64 ukl,.int .i64 ukh,.int .i64 ucl,.int .i64 uch,.int .i64 ull,.int .i64 ulh]] w fun r w'=>∃ v',r = .returned (.tuple #[.agg #[v'],.int .i64 (stepL c l ⟨2,day,part,kind,into,slot,key,value,ukl,ukh,ucl,uch,ull,ulh⟩).2])∧Sta w' v' (stepL c l ⟨2,day,part,kind,into,slot,key,value,ukl,ukh,ucl,uch,ull,ulh⟩).1∧Below w.heap.size w w':=by
  obtain ⟨A',cc,rfl,hn⟩:=Rd.form hcat
  obtain ⟨A,cs0,rfl,hn0⟩:=Rd.form hsta
  have hl20:=(valid_len hvb)
  have HBW:=Lib.hid hb0
  have hsz0:=hb0.size
  have B0:=Lib.hid (ApB.new w A' c.length cc A l.length cs0 #[.int .i64 2,.int .i64 day,.string part,.string kind,.string into,.string slot,.string key,.string value,.int .i64 ukl,.int .i64 ukh,.int .i64 ucl,.int .i64 uch,.int .i64 ull,.int .i64 ulh])
  have HB0:=Lib.hid B0.out.b
  have HV:=Lib.hid hsta
  have HAT:=Lib.hid (fun x W (h:Below wb.heap.size wb W)=>refAt_any wb _ l x W h hsta (by omega))
  have HF:=Lib.hid (fun x W (h:Below wb.heap.size wb W)=>refFind_any wb _ c x W h hcat hcl)
  have HTK:=Lib.hid (fun x y z W (h:Below wb.heap.size wb W)=>refTakes_any wb _ c x y z W h hcat hcl hks)
  have HHD:=Lib.hid (fun x y W (h:Below wb.heap.size wb W)=>refHeld_any wb _ l x y W h hsta (by omega))
  have HSO:=Lib.hid (sorted_ord.1 (validB_sorted hvb))
  clear hb0 hcat hks
  obtain ⟨kp,hkp,hap,hgp⟩:=atP_yes hpf
  have HAI:=Lib.hid hap
  have HPF:=Lib.hid hpf
  obtain ⟨bp,op0,cp,csp,hep,_,⟨svp,rfl,hsvp⟩,_,hrgp⟩:=Rd.get HV.out hkp noPa
  injection hep with e1 e2 e3
  subst e1;subst e3
  rw [hgp] at hsvp hrgp
  obtain ⟨Ap,mp,rfl,hnp⟩:=Rd.form hsvp
  have HPP:=Lib.hid hsvp
  have HRP0:=Lib.hid hrgp
  have hkpi:(kp:Int) < (l.length:Int):=by omega
  have hkp0:¬ (kp:Int) < 0:=by omega
  clear hap hpf hgp hsvp hrgp
  obtain ⟨pname,pkind,pinto,pslot,pmade,psince,pgone,pprops,pkl,pkh,pcl,pch,pdl,pdh⟩:=p
  have HRP:Hid (wb.rangeAt bp (op0+kp*14) [.string pname,.string pkind,.string pinto,.string pslot,.int .i64 pmade,.int .i64 psince,.bool pgone,.slice Ap pprops.length mp,.int .i64 pkl,.int .i64 pkh,.int .i64 pcl,.int .i64 pch,.int .i64 pdl,.int .i64 pdh]):=HRP0
  clear HRP0
  dsimp only at hnp HPP
  have HAJ:=Lib.hid (atP_no hhf)
  have HHF:=Lib.hid hhf
  clear hhf hvb hsta
  go_enter Tryz.func45,Tryz.ntmps45
  go_wp2_with fail
  refine (HAT.out part _ (HBW.out.trans (B0.out.b.mono hsz0))).mono ?_
  rintro e w1 ⟨rfl,hb1⟩
  rw [HAI.out]
  have B1:=Lib.hid (B0.out.below hb1)
  obtain ⟨f1a,f1b,f1c,f1d,f1e⟩:=B1.out.cells
  have fz1:=B1.out.z
  have HB1:=Lib.hid (bon (HB0.out) hb1)
  clear hb1
  go_wp2_with fail
  refine (HAT.out into _ (HBW.out.trans (B1.out.b.mono hsz0))).mono ?_
  rintro e w2 ⟨rfl,hb2⟩
  rw [HAJ.out]
  have B2:=Lib.hid (B1.out.below hb2)
  clear f1a f1b f1c f1d f1e fz1
  obtain ⟨f2a,f2b,f2c,f2d,f2e⟩:=B2.out.cells
  have fz2:=B2.out.z
  have HB2:=Lib.hid (bon (HB1.out) hb2)
  clear hb2
  go_wp2_with fail
  obtain ⟨n4,n5⟩:=(B2.out.r.put 0 (.slice none 0 0)).facts
  refine bodyPost_ret (v:=.tuple #[.agg #[.slice none 0 0],.int .i64 2]) (by simp [results,Tryz.results45,go_sem,n4]) rfl ?_
  rw [show stepL c l _ = (([]:List Pa),(2:Int)) from (by unfold stepL;simp only [HPF.out,HHF.out];simp)]
  have hB:=B2.out.b
  exact ⟨_,rfl,Rd.nil _ _,hB.setCell (by simp;omega) _⟩
set_option maxRecDepth 100000 in
set_option maxHeartbeats 8000000 in
theorem step_gone_one (wb:World) (cv sv:Value) (c:List Kd) (l:List Pa) (op:Int) (day:Int) (part kind into slot key value:ByteArray) (ukl ukh ucl uch ull ulh:Int) (w:World) (hb0:Below wb.heap.size wb w) (hcat:Cat wb cv c) (hcl:c.length≤100000) (hks:∀ k∈c,k.short) (hsta:Sta wb sv l) (hvb:validB c l = true) (h1:¬ op = 1) (h2:¬ op = 2) (p:Pa) (hpf:pfind l part = some p) (hgo:p.gone = true) :
    Calls Tryz.prog 45 #[.agg #[cv],.agg #[sv],.agg #[.int .i64 op,.int .i64 day,.string part,.string kind,.string into,.string slot,.string key,.string value,.int .i64 ukl,.int .i64 ukh,.int .i64 ucl,.int .i64 uch,.int .i64 ull,.int .i64 ulh]] w fun r w'=>∃ v',r = .returned (.tuple #[.agg #[v'],.int .i64 (stepL c l ⟨op,day,part,kind,into,slot,key,value,ukl,ukh,ucl,uch,ull,ulh⟩).2])∧Sta w' v' (stepL c l ⟨op,day,part,kind,into,slot,key,value,ukl,ukh,ucl,uch,ull,ulh⟩).1∧Below w.heap.size w w':=by
  obtain ⟨A',cc,rfl,hn⟩:=Rd.form hcat
  obtain ⟨A,cs0,rfl,hn0⟩:=Rd.form hsta
  have hl20:=(valid_len hvb)
  have HBW:=Lib.hid hb0
  have hsz0:=hb0.size
  have B0:=Lib.hid (ApB.new w A' c.length cc A l.length cs0 #[.int .i64 op,.int .i64 day,.string part,.string kind,.string into,.string slot,.string key,.string value,.int .i64 ukl,.int .i64 ukh,.int .i64 ucl,.int .i64 uch,.int .i64 ull,.int .i64 ulh])
  have HB0:=Lib.hid B0.out.b
  have HV:=Lib.hid hsta
  have HAT:=Lib.hid (fun x W (h:Below wb.heap.size wb W)=>refAt_any wb _ l x W h hsta (by omega))
  have HF:=Lib.hid (fun x W (h:Below wb.heap.size wb W)=>refFind_any wb _ c x W h hcat hcl)
  have HTK:=Lib.hid (fun x y z W (h:Below wb.heap.size wb W)=>refTakes_any wb _ c x y z W h hcat hcl hks)
  have HHD:=Lib.hid (fun x y W (h:Below wb.heap.size wb W)=>refHeld_any wb _ l x y W h hsta (by omega))
  have HSO:=Lib.hid (sorted_ord.1 (validB_sorted hvb))
  clear hb0 hcat hks
  obtain ⟨kp,hkp,hap,hgp⟩:=atP_yes hpf
  have HAI:=Lib.hid hap
  have HPF:=Lib.hid hpf
  obtain ⟨bp,op0,cp,csp,hep,_,⟨svp,rfl,hsvp⟩,_,hrgp⟩:=Rd.get HV.out hkp noPa
  injection hep with e1 e2 e3
  subst e1;subst e3
  rw [hgp] at hsvp hrgp
  obtain ⟨Ap,mp,rfl,hnp⟩:=Rd.form hsvp
  have HPP:=Lib.hid hsvp
  have HRP0:=Lib.hid hrgp
  have hkpi:(kp:Int) < (l.length:Int):=by omega
  have hkp0:¬ (kp:Int) < 0:=by omega
  clear hap hpf hgp hsvp hrgp
  obtain ⟨pname,pkind,pinto,pslot,pmade,psince,pgone,pprops,pkl,pkh,pcl,pch,pdl,pdh⟩:=p
  have HRP:Hid (wb.rangeAt bp (op0+kp*14) [.string pname,.string pkind,.string pinto,.string pslot,.int .i64 pmade,.int .i64 psince,.bool pgone,.slice Ap pprops.length mp,.int .i64 pkl,.int .i64 pkh,.int .i64 pcl,.int .i64 pch,.int .i64 pdl,.int .i64 pdh]):=HRP0
  clear HRP0
  dsimp only at hnp HPP
  clear hvb hsta
  dsimp only at hgo
  subst hgo
  go_enter Tryz.func45,Tryz.ntmps45
  go_wp2_with fail
  refine (HAT.out part _ (HBW.out.trans (B0.out.b.mono hsz0))).mono ?_
  rintro e w1 ⟨rfl,hb1⟩
  rw [HAI.out]
  have B1:=Lib.hid (B0.out.below hb1)
  obtain ⟨f1a,f1b,f1c,f1d,f1e⟩:=B1.out.cells
  have fz1:=B1.out.z
  have HB1:=Lib.hid (bon (HB0.out) hb1)
  clear hb1
  have hrp:w1.rangeAt bp (op0+kp*14) [.string pname,.string pkind,.string pinto,.string pslot,.int .i64 pmade,.int .i64 psince,.bool true,.slice Ap pprops.length mp,.int .i64 pkl,.int .i64 pkh,.int .i64 pcl,.int .i64 pch,.int .i64 pdl,.int .i64 pdh]:=range_later HRP.out (HBW.out.trans (B1.out.b.mono hsz0))
  obtain ⟨R,hR⟩:∃ R:Array Value,R = #[.string pname,.string pkind,.string pinto,.string pslot,.int .i64 pmade,.int .i64 psince,.bool true,.slice Ap pprops.length mp,.int .i64 pkl,.int .i64 pkh,.int .i64 pcl,.int .i64 pch,.int .i64 pdl,.int .i64 pdh]:=⟨_,rfl⟩
  have b1:=B1.out.alloc (.cells R 47)
  have hrh:(w1.alloc (.cells R 47)).rangeAt bp (op0+kp*14) [.string pname,.string pkind,.string pinto,.string pslot,.int .i64 pmade,.int .i64 psince,.bool true,.slice Ap pprops.length mp,.int .i64 pkl,.int .i64 pkh,.int .i64 pcl,.int .i64 pch,.int .i64 pdl,.int .i64 pdh]:=range_later HRP.out (HBW.out.trans (b1.b.mono hsz0))
  obtain ⟨qa,qb,qc,qd,qe⟩:=b1.cells
  obtain ⟨ra,rb,rc,rd,re⟩:=(b1.alloc (.cells R 47)).cells
  have kP:=(Has.new w1 47 R).alloc (.cells R 47)
  have kH:=Has.new (w1.alloc (.cells R 47)) 47 R
  simp only [World.size_alloc] at kH
  obtain ⟨sa,sb⟩:=kP.facts
  obtain ⟨ta,tb⟩:=kH.facts
  clear kP kH b1
  subst hR
  go_wp2_with (first | ((with_reducible show wpList _ _ _ (Oper.mk (some 71) _ _ _ _ _ :: _) _ _);refine wpList_load_mid rfl 47 _ rfl bp (op0+kp*14) rfl _ _ hrp Tryz.underlying47 rfl rfl ?_) | ((with_reducible show wpList _ _ _ (Oper.mk (some 76) _ _ _ _ _ :: _) _ _);refine wpList_load_mid rfl 47 _ rfl bp (op0+kp*14) rfl _ _ hrh Tryz.underlying47 rfl rfl ?_))
  clear hrp hrh qa qb qc qd qe ra rb rc rd re sa sb ta tb
  go_wp2_with fail
  obtain ⟨n4,n5⟩:=(((B1.out.alloc (.cells #[.string pname,.string pkind,.string pinto,.string pslot,.int .i64 pmade,.int .i64 psince,.bool true,.slice Ap pprops.length mp,.int .i64 pkl,.int .i64 pkh,.int .i64 pcl,.int .i64 pch,.int .i64 pdl,.int .i64 pdh] 47)).alloc (.cells #[.string pname,.string pkind,.string pinto,.string pslot,.int .i64 pmade,.int .i64 psince,.bool true,.slice Ap pprops.length mp,.int .i64 pkl,.int .i64 pkh,.int .i64 pcl,.int .i64 pch,.int .i64 pdl,.int .i64 pdh] 47)).r.put 0 (.slice none 0 0)).facts
  refine bodyPost_ret (v:=.tuple #[.agg #[.slice none 0 0],.int .i64 5]) (by simp [results,Tryz.results45,go_sem,n4]) rfl ?_
  rw [show stepL c l _ = (([]:List Pa),(5:Int)) from (by unfold stepL;simp only [HPF.out,h1,h2,if_false];unfold turnL;simp)]
  have hB:=((B1.out.alloc (.cells #[.string pname,.string pkind,.string pinto,.string pslot,.int .i64 pmade,.int .i64 psince,.bool true,.slice Ap pprops.length mp,.int .i64 pkl,.int .i64 pkh,.int .i64 pcl,.int .i64 pch,.int .i64 pdl,.int .i64 pdh] 47)).alloc (.cells #[.string pname,.string pkind,.string pinto,.string pslot,.int .i64 pmade,.int .i64 psince,.bool true,.slice Ap pprops.length mp,.int .i64 pkl,.int .i64 pkh,.int .i64 pcl,.int .i64 pch,.int .i64 pdl,.int .i64 pdh] 47)).b
  exact ⟨_,rfl,Rd.nil _ _,hB.setCell (by simp;omega) _⟩
set_option maxRecDepth 100000 in
set_option maxHeartbeats 8000000 in
theorem step_gone_two (wb:World) (cv sv:Value) (c:List Kd) (l:List Pa) (day:Int) (part kind into slot key value:ByteArray) (ukl ukh ucl uch ull ulh:Int) (w:World) (hb0:Below wb.heap.size wb w) (hcat:Cat wb cv c) (hcl:c.length≤100000) (hks:∀ k∈c,k.short) (hsta:Sta wb sv l) (hvb:validB c l = true) (p h:Pa) (hpf:pfind l part = some p) (hhf:pfind l into = some h) (hgo:(p.gone || h.gone) = true) :
    Calls Tryz.prog 45 #[.agg #[cv],.agg #[sv],.agg #[.int .i64 2,.int .i64 day,.string part,.string kind,.string into,.string slot,.string key,.string value,.int .i64 ukl,.int .i64 ukh,.int .i64 ucl,.int .i64 uch,.int .i64 ull,.int .i64 ulh]] w fun r w'=>∃ v',r = .returned (.tuple #[.agg #[v'],.int .i64 (stepL c l ⟨2,day,part,kind,into,slot,key,value,ukl,ukh,ucl,uch,ull,ulh⟩).2])∧Sta w' v' (stepL c l ⟨2,day,part,kind,into,slot,key,value,ukl,ukh,ucl,uch,ull,ulh⟩).1∧Below w.heap.size w w':=by
  obtain ⟨A',cc,rfl,hn⟩:=Rd.form hcat
  obtain ⟨A,cs0,rfl,hn0⟩:=Rd.form hsta
  have hl20:=(valid_len hvb)
  have HBW:=Lib.hid hb0
  have hsz0:=hb0.size
  have B0:=Lib.hid (ApB.new w A' c.length cc A l.length cs0 #[.int .i64 2,.int .i64 day,.string part,.string kind,.string into,.string slot,.string key,.string value,.int .i64 ukl,.int .i64 ukh,.int .i64 ucl,.int .i64 uch,.int .i64 ull,.int .i64 ulh])
  have HB0:=Lib.hid B0.out.b
  have HV:=Lib.hid hsta
  have HAT:=Lib.hid (fun x W (h:Below wb.heap.size wb W)=>refAt_any wb _ l x W h hsta (by omega))
  have HF:=Lib.hid (fun x W (h:Below wb.heap.size wb W)=>refFind_any wb _ c x W h hcat hcl)
  have HTK:=Lib.hid (fun x y z W (h:Below wb.heap.size wb W)=>refTakes_any wb _ c x y z W h hcat hcl hks)
  have HHD:=Lib.hid (fun x y W (h:Below wb.heap.size wb W)=>refHeld_any wb _ l x y W h hsta (by omega))
  have HSO:=Lib.hid (sorted_ord.1 (validB_sorted hvb))
  clear hb0 hcat hks
  obtain ⟨kp,hkp,hap,hgp⟩:=atP_yes hpf
  have HAI:=Lib.hid hap
  have HPF:=Lib.hid hpf
  obtain ⟨bp,op0,cp,csp,hep,_,⟨svp,rfl,hsvp⟩,_,hrgp⟩:=Rd.get HV.out hkp noPa
  injection hep with e1 e2 e3
  subst e1;subst e3
  rw [hgp] at hsvp hrgp
  obtain ⟨Ap,mp,rfl,hnp⟩:=Rd.form hsvp
  have HPP:=Lib.hid hsvp
  have HRP0:=Lib.hid hrgp
  have hkpi:(kp:Int) < (l.length:Int):=by omega
  have hkp0:¬ (kp:Int) < 0:=by omega
  clear hap hpf hgp hsvp hrgp
  obtain ⟨pname,pkind,pinto,pslot,pmade,psince,pgone,pprops,pkl,pkh,pcl,pch,pdl,pdh⟩:=p
  have HRP:Hid (wb.rangeAt bp (op0+kp*14) [.string pname,.string pkind,.string pinto,.string pslot,.int .i64 pmade,.int .i64 psince,.bool pgone,.slice Ap pprops.length mp,.int .i64 pkl,.int .i64 pkh,.int .i64 pcl,.int .i64 pch,.int .i64 pdl,.int .i64 pdh]):=HRP0
  clear HRP0
  dsimp only at hnp HPP
  obtain ⟨kh,hkh,hah,hgh⟩:=atP_yes hhf
  have HAJ:=Lib.hid hah
  have HHF:=Lib.hid hhf
  obtain ⟨bh,oh0,ch,csh,heh,_,⟨svh,rfl,hsvh⟩,_,hrgh⟩:=Rd.get HV.out hkh noPa
  injection heh with e1 e2 e3
  injection e1 with e1
  injection e1 with e1 e1'
  subst e1;subst e1';subst e3
  rw [hgh] at hsvh hrgh
  obtain ⟨Ah,mh,rfl,hnh⟩:=Rd.form hsvh
  have HRH0:=Lib.hid hrgh
  have hkhi:(kh:Int) < (l.length:Int):=by omega
  have hkh0:¬ (kh:Int) < 0:=by omega
  clear hah hhf hgh hrgh
  obtain ⟨hname,hkind,hinto,hslot,hmade,hsince,hgone,hprops,hkl,hkh,hcl,hch,hdl,hdh⟩:=h
  have HRH:Hid (wb.rangeAt bp (op0+kh*14) [.string hname,.string hkind,.string hinto,.string hslot,.int .i64 hmade,.int .i64 hsince,.bool hgone,.slice Ah hprops.length mh,.int .i64 hkl,.int .i64 hkh,.int .i64 hcl,.int .i64 hch,.int .i64 hdl,.int .i64 hdh]):=HRH0
  clear HRH0 hsvh
  dsimp only at hnh
  clear hvb hsta
  dsimp only at hgo
  cases pgone
  · obtain rfl:hgone = true:=by simpa using hgo
    go_enter Tryz.func45,Tryz.ntmps45
    go_wp2_with fail
    refine (HAT.out part _ (HBW.out.trans (B0.out.b.mono hsz0))).mono ?_
    rintro e w1 ⟨rfl,hb1⟩
    rw [HAI.out]
    have B1:=Lib.hid (B0.out.below hb1)
    obtain ⟨f1a,f1b,f1c,f1d,f1e⟩:=B1.out.cells
    have fz1:=B1.out.z
    have HB1:=Lib.hid (bon (HB0.out) hb1)
    clear hb1
    go_wp2_with fail
    refine (HAT.out into _ (HBW.out.trans (B1.out.b.mono hsz0))).mono ?_
    rintro e w2 ⟨rfl,hb2⟩
    rw [HAJ.out]
    have B2:=Lib.hid (B1.out.below hb2)
    clear f1a f1b f1c f1d f1e fz1
    obtain ⟨f2a,f2b,f2c,f2d,f2e⟩:=B2.out.cells
    have fz2:=B2.out.z
    have HB2:=Lib.hid (bon (HB1.out) hb2)
    clear hb2
    have hrp:w2.rangeAt bp (op0+kp*14) [.string pname,.string pkind,.string pinto,.string pslot,.int .i64 pmade,.int .i64 psince,.bool false,.slice Ap pprops.length mp,.int .i64 pkl,.int .i64 pkh,.int .i64 pcl,.int .i64 pch,.int .i64 pdl,.int .i64 pdh]:=range_later HRP.out (HBW.out.trans (B2.out.b.mono hsz0))
    obtain ⟨R,hR⟩:∃ R:Array Value,R = #[.string pname,.string pkind,.string pinto,.string pslot,.int .i64 pmade,.int .i64 psince,.bool false,.slice Ap pprops.length mp,.int .i64 pkl,.int .i64 pkh,.int .i64 pcl,.int .i64 pch,.int .i64 pdl,.int .i64 pdh]:=⟨_,rfl⟩
    obtain ⟨Q,hQ⟩:∃ R:Array Value,R = #[.string hname,.string hkind,.string hinto,.string hslot,.int .i64 hmade,.int .i64 hsince,.bool true,.slice Ah hprops.length mh,.int .i64 hkl,.int .i64 hkh,.int .i64 hcl,.int .i64 hch,.int .i64 hdl,.int .i64 hdh]:=⟨_,rfl⟩
    have b1:=B2.out.alloc (.cells R 47)
    have hrh:(w2.alloc (.cells R 47)).rangeAt bp (op0+kh*14) [.string hname,.string hkind,.string hinto,.string hslot,.int .i64 hmade,.int .i64 hsince,.bool true,.slice Ah hprops.length mh,.int .i64 hkl,.int .i64 hkh,.int .i64 hcl,.int .i64 hch,.int .i64 hdl,.int .i64 hdh]:=range_later HRH.out (HBW.out.trans (b1.b.mono hsz0))
    obtain ⟨qa,qb,qc,qd,qe⟩:=b1.cells
    obtain ⟨ra,rb,rc,rd,re⟩:=(b1.alloc (.cells Q 47)).cells
    have kP:=(Has.new w2 47 R).alloc (.cells Q 47)
    have kH:=Has.new (w2.alloc (.cells R 47)) 47 Q
    simp only [World.size_alloc] at kH
    obtain ⟨sa,sb⟩:=kP.facts
    obtain ⟨ta,tb⟩:=kH.facts
    clear kP kH b1
    subst hR
    subst hQ
    go_wp2_with (first | ((with_reducible show wpList _ _ _ (Oper.mk (some 71) _ _ _ _ _ :: _) _ _);refine wpList_load_mid rfl 47 _ rfl bp (op0+kp*14) rfl _ _ hrp Tryz.underlying47 rfl rfl ?_) | ((with_reducible show wpList _ _ _ (Oper.mk (some 76) _ _ _ _ _ :: _) _ _);refine wpList_load_mid rfl 47 _ rfl bp (op0+kh*14) rfl _ _ hrh Tryz.underlying47 rfl rfl ?_))
    clear hrp hrh qa qb qc qd qe ra rb rc rd re sa sb ta tb
    go_wp2_with fail
    obtain ⟨n4,n5⟩:=(((B2.out.alloc (.cells #[.string pname,.string pkind,.string pinto,.string pslot,.int .i64 pmade,.int .i64 psince,.bool false,.slice Ap pprops.length mp,.int .i64 pkl,.int .i64 pkh,.int .i64 pcl,.int .i64 pch,.int .i64 pdl,.int .i64 pdh] 47)).alloc (.cells #[.string hname,.string hkind,.string hinto,.string hslot,.int .i64 hmade,.int .i64 hsince,.bool true,.slice Ah hprops.length mh,.int .i64 hkl,.int .i64 hkh,.int .i64 hcl,.int .i64 hch,.int .i64 hdl,.int .i64 hdh] 47)).r.put 0 (.slice none 0 0)).facts
    refine bodyPost_ret (v:=.tuple #[.agg #[.slice none 0 0],.int .i64 5]) (by simp [results,Tryz.results45,go_sem,n4]) rfl ?_
    rw [show stepL c l _ = (([]:List Pa),(5:Int)) from (by unfold stepL;simp only [HPF.out,HHF.out];unfold turnL;simp)]
    have hB:=((B2.out.alloc (.cells #[.string pname,.string pkind,.string pinto,.string pslot,.int .i64 pmade,.int .i64 psince,.bool false,.slice Ap pprops.length mp,.int .i64 pkl,.int .i64 pkh,.int .i64 pcl,.int .i64 pch,.int .i64 pdl,.int .i64 pdh] 47)).alloc (.cells #[.string hname,.string hkind,.string hinto,.string hslot,.int .i64 hmade,.int .i64 hsince,.bool true,.slice Ah hprops.length mh,.int .i64 hkl,.int .i64 hkh,.int .i64 hcl,.int .i64 hch,.int .i64 hdl,.int .i64 hdh] 47)).b
    exact ⟨_,rfl,Rd.nil _ _,hB.setCell (by simp;omega) _⟩
  · clear hgo
    go_enter Tryz.func45,Tryz.ntmps45
    go_wp2_with fail
    refine (HAT.out part _ (HBW.out.trans (B0.out.b.mono hsz0))).mono ?_
    rintro e w1 ⟨rfl,hb1⟩
    rw [HAI.out]
    have B1:=Lib.hid (B0.out.below hb1)
    obtain ⟨f1a,f1b,f1c,f1d,f1e⟩:=B1.out.cells
    have fz1:=B1.out.z
    have HB1:=Lib.hid (bon (HB0.out) hb1)
    clear hb1
    go_wp2_with fail
    refine (HAT.out into _ (HBW.out.trans (B1.out.b.mono hsz0))).mono ?_
    rintro e w2 ⟨rfl,hb2⟩
    rw [HAJ.out]
    have B2:=Lib.hid (B1.out.below hb2)
    clear f1a f1b f1c f1d f1e fz1
    obtain ⟨f2a,f2b,f2c,f2d,f2e⟩:=B2.out.cells
    have fz2:=B2.out.z
    have HB2:=Lib.hid (bon (HB1.out) hb2)
    clear hb2
    have hrp:w2.rangeAt bp (op0+kp*14) [.string pname,.string pkind,.string pinto,.string pslot,.int .i64 pmade,.int .i64 psince,.bool true,.slice Ap pprops.length mp,.int .i64 pkl,.int .i64 pkh,.int .i64 pcl,.int .i64 pch,.int .i64 pdl,.int .i64 pdh]:=range_later HRP.out (HBW.out.trans (B2.out.b.mono hsz0))
    obtain ⟨R,hR⟩:∃ R:Array Value,R = #[.string pname,.string pkind,.string pinto,.string pslot,.int .i64 pmade,.int .i64 psince,.bool true,.slice Ap pprops.length mp,.int .i64 pkl,.int .i64 pkh,.int .i64 pcl,.int .i64 pch,.int .i64 pdl,.int .i64 pdh]:=⟨_,rfl⟩
    obtain ⟨Q,hQ⟩:∃ R:Array Value,R = #[.string hname,.string hkind,.string hinto,.string hslot,.int .i64 hmade,.int .i64 hsince,.bool hgone,.slice Ah hprops.length mh,.int .i64 hkl,.int .i64 hkh,.int .i64 hcl,.int .i64 hch,.int .i64 hdl,.int .i64 hdh]:=⟨_,rfl⟩
    have b1:=B2.out.alloc (.cells R 47)
    have hrh:(w2.alloc (.cells R 47)).rangeAt bp (op0+kh*14) [.string hname,.string hkind,.string hinto,.string hslot,.int .i64 hmade,.int .i64 hsince,.bool hgone,.slice Ah hprops.length mh,.int .i64 hkl,.int .i64 hkh,.int .i64 hcl,.int .i64 hch,.int .i64 hdl,.int .i64 hdh]:=range_later HRH.out (HBW.out.trans (b1.b.mono hsz0))
    obtain ⟨qa,qb,qc,qd,qe⟩:=b1.cells
    obtain ⟨ra,rb,rc,rd,re⟩:=(b1.alloc (.cells Q 47)).cells
    have kP:=(Has.new w2 47 R).alloc (.cells Q 47)
    have kH:=Has.new (w2.alloc (.cells R 47)) 47 Q
    simp only [World.size_alloc] at kH
    obtain ⟨sa,sb⟩:=kP.facts
    obtain ⟨ta,tb⟩:=kH.facts
    clear kP kH b1
    subst hR
    subst hQ
    go_wp2_with (first | ((with_reducible show wpList _ _ _ (Oper.mk (some 71) _ _ _ _ _ :: _) _ _);refine wpList_load_mid rfl 47 _ rfl bp (op0+kp*14) rfl _ _ hrp Tryz.underlying47 rfl rfl ?_) | ((with_reducible show wpList _ _ _ (Oper.mk (some 76) _ _ _ _ _ :: _) _ _);refine wpList_load_mid rfl 47 _ rfl bp (op0+kh*14) rfl _ _ hrh Tryz.underlying47 rfl rfl ?_))
    clear hrp hrh qa qb qc qd qe ra rb rc rd re sa sb ta tb
    go_wp2_with fail
    obtain ⟨n4,n5⟩:=(((B2.out.alloc (.cells #[.string pname,.string pkind,.string pinto,.string pslot,.int .i64 pmade,.int .i64 psince,.bool true,.slice Ap pprops.length mp,.int .i64 pkl,.int .i64 pkh,.int .i64 pcl,.int .i64 pch,.int .i64 pdl,.int .i64 pdh] 47)).alloc (.cells #[.string hname,.string hkind,.string hinto,.string hslot,.int .i64 hmade,.int .i64 hsince,.bool hgone,.slice Ah hprops.length mh,.int .i64 hkl,.int .i64 hkh,.int .i64 hcl,.int .i64 hch,.int .i64 hdl,.int .i64 hdh] 47)).r.put 0 (.slice none 0 0)).facts
    refine bodyPost_ret (v:=.tuple #[.agg #[.slice none 0 0],.int .i64 5]) (by simp [results,Tryz.results45,go_sem,n4]) rfl ?_
    rw [show stepL c l _ = (([]:List Pa),(5:Int)) from (by unfold stepL;simp only [HPF.out,HHF.out];unfold turnL;simp)]
    have hB:=((B2.out.alloc (.cells #[.string pname,.string pkind,.string pinto,.string pslot,.int .i64 pmade,.int .i64 psince,.bool true,.slice Ap pprops.length mp,.int .i64 pkl,.int .i64 pkh,.int .i64 pcl,.int .i64 pch,.int .i64 pdl,.int .i64 pdh] 47)).alloc (.cells #[.string hname,.string hkind,.string hinto,.string hslot,.int .i64 hmade,.int .i64 hsince,.bool hgone,.slice Ah hprops.length mh,.int .i64 hkl,.int .i64 hkh,.int .i64 hcl,.int .i64 hch,.int .i64 hdl,.int .i64 hdh] 47)).b
    exact ⟨_,rfl,Rd.nil _ _,hB.setCell (by simp;omega) _⟩
end Go.Proofs.YtpikcofbhkbifaaGreat
namespace Go.Proofs.YtpikcofbhkbifaaGreat
open Go Go.RowKit
theorem part_sorted {c:List Kd} {l:List Pa} (h:validB c l = true) {x:Pa} (hx:x∈l):OrdK Pr.key x.props:=by
  have h1:=(vld_iff.1 h).right x hx
  unfold partOk rightB at h1
  simp only [Bool.and_eq_true] at h1
  have:=(sorted_iff _).1 h1.1.2.2.1
  rw [List.pairwise_map] at this
  exact this
set_option maxRecDepth 100000 in
set_option maxHeartbeats 8000000 in
theorem step_remove (wb:World) (cv sv:Value) (c:List Kd) (l:List Pa) (day:Int) (part kind into slot key value:ByteArray) (ukl ukh ucl uch ull ulh:Int) (w:World) (hb0:Below wb.heap.size wb w) (hcat:Cat wb cv c) (hcl:c.length≤100000) (hks:∀ k∈c,k.short) (hsta:Sta wb sv l) (hvb:validB c l = true) (p:Pa) (hpf:pfind l part = some p) (hgo:p.gone = false) :
    Calls Tryz.prog 45 #[.agg #[cv],.agg #[sv],.agg #[.int .i64 3,.int .i64 day,.string part,.string kind,.string into,.string slot,.string key,.string value,.int .i64 ukl,.int .i64 ukh,.int .i64 ucl,.int .i64 uch,.int .i64 ull,.int .i64 ulh]] w fun r w'=>∃ v',r = .returned (.tuple #[.agg #[v'],.int .i64 (stepL c l ⟨3,day,part,kind,into,slot,key,value,ukl,ukh,ucl,uch,ull,ulh⟩).2])∧Sta w' v' (stepL c l ⟨3,day,part,kind,into,slot,key,value,ukl,ukh,ucl,uch,ull,ulh⟩).1∧Below w.heap.size w w':=by
  obtain ⟨A',cc,rfl,hn⟩:=Rd.form hcat
  obtain ⟨A,cs0,rfl,hn0⟩:=Rd.form hsta
  have hl20:=(valid_len hvb)
  have HBW:=Lib.hid hb0
  have hsz0:=hb0.size
  have B0:=Lib.hid (ApB.new w A' c.length cc A l.length cs0 #[.int .i64 3,.int .i64 day,.string part,.string kind,.string into,.string slot,.string key,.string value,.int .i64 ukl,.int .i64 ukh,.int .i64 ucl,.int .i64 uch,.int .i64 ull,.int .i64 ulh])
  have HB0:=Lib.hid B0.out.b
  have HV:=Lib.hid hsta
  have HAT:=Lib.hid (fun x W (h:Below wb.heap.size wb W)=>refAt_any wb _ l x W h hsta (by omega))
  have HF:=Lib.hid (fun x W (h:Below wb.heap.size wb W)=>refFind_any wb _ c x W h hcat hcl)
  have HTK:=Lib.hid (fun x y z W (h:Below wb.heap.size wb W)=>refTakes_any wb _ c x y z W h hcat hcl hks)
  have HHD:=Lib.hid (fun x y W (h:Below wb.heap.size wb W)=>refHeld_any wb _ l x y W h hsta (by omega))
  have HSO:=Lib.hid (sorted_ord.1 (validB_sorted hvb))
  clear hb0 hcat hks
  have HORD:=Lib.hid (fun (x:Pa) (hx:x∈l)=>part_sorted hvb hx)
  have HPM:=Lib.hid (pfind_mem hpf).1
  have HWI:=Lib.hid (fun (W0:World) (h0:Below wb.heap.size wb W0) (pname pkind pinto pslot:ByteArray) (pmade psince:Int) (pgone:Bool) (pprops:List Pr) (Ap:Option Addr) (mp:Nat) (pkl pkh pcl pch pdl pdh:Int) (W:World) (h:Below W0.heap.size W0 W) (hp:Rd 2 PrR W0 (.slice Ap pprops.length mp) pprops)=>with_any W0 _ l pname pkind pinto pslot pmade psince pgone pprops Ap mp pkl pkh pcl pch pdl pdh W h (hsta.below h0) hl20 (sorted_ord.1 (validB_sorted hvb)) hp)
  obtain ⟨kp,hkp,hap,hgp⟩:=atP_yes hpf
  have HAI:=Lib.hid hap
  have HPF:=Lib.hid hpf
  obtain ⟨bp,op0,cp,csp,hep,_,⟨svp,rfl,hsvp⟩,_,hrgp⟩:=Rd.get HV.out hkp noPa
  injection hep with e1 e2 e3
  subst e1;subst e3
  rw [hgp] at hsvp hrgp
  obtain ⟨Ap,mp,rfl,hnp⟩:=Rd.form hsvp
  have HPP:=Lib.hid hsvp
  have HRP0:=Lib.hid hrgp
  have hkpi:(kp:Int) < (l.length:Int):=by omega
  have hkp0:¬ (kp:Int) < 0:=by omega
  clear hap hpf hgp hsvp hrgp
  obtain ⟨pname,pkind,pinto,pslot,pmade,psince,pgone,pprops,pkl,pkh,pcl,pch,pdl,pdh⟩:=p
  have HRP:Hid (wb.rangeAt bp (op0+kp*14) [.string pname,.string pkind,.string pinto,.string pslot,.int .i64 pmade,.int .i64 psince,.bool pgone,.slice Ap pprops.length mp,.int .i64 pkl,.int .i64 pkh,.int .i64 pcl,.int .i64 pch,.int .i64 pdl,.int .i64 pdh]):=HRP0
  clear HRP0
  dsimp only at hnp HPP
  clear hvb hsta
  dsimp only at hgo
  subst hgo
  have HFK:=Lib.hid (fun W h=>HF.out pkind W h)
  generalize hfk:(kfind c pkind).getD noKd = fk at HFK
  have HFKE:=Lib.hid hfk
  clear hfk
  generalize (kfind c pkind).isSome = kb at HFK
  obtain ⟨fn,fv,fs⟩:=fk
  dsimp only at HFK
  have hie:=emp_iff pinto
  cases hi:pinto.toList.isEmpty
  · skip
    have HI:Hid (¬ pinto = eS):=fun e=>by rw [hi,decide_eq_true e] at hie;cases hie
    clear hie
    go_enter Tryz.func45,Tryz.ntmps45
    go_wp2_with fail
    refine (HAT.out part _ (HBW.out.trans (B0.out.b.mono hsz0))).mono ?_
    rintro e w1 ⟨rfl,hb1⟩
    rw [HAI.out]
    have B1:=Lib.hid (B0.out.below hb1)
    obtain ⟨f1a,f1b,f1c,f1d,f1e⟩:=B1.out.cells
    have fz1:=B1.out.z
    have HB1:=Lib.hid (bon (HB0.out) hb1)
    clear hb1
    have hrp:w1.rangeAt bp (op0+kp*14) [.string pname,.string pkind,.string pinto,.string pslot,.int .i64 pmade,.int .i64 psince,.bool false,.slice Ap pprops.length mp,.int .i64 pkl,.int .i64 pkh,.int .i64 pcl,.int .i64 pch,.int .i64 pdl,.int .i64 pdh]:=range_later HRP.out (HBW.out.trans (B1.out.b.mono hsz0))
    obtain ⟨R,hR⟩:∃ R:Array Value,R = #[.string pname,.string pkind,.string pinto,.string pslot,.int .i64 pmade,.int .i64 psince,.bool false,.slice Ap pprops.length mp,.int .i64 pkl,.int .i64 pkh,.int .i64 pcl,.int .i64 pch,.int .i64 pdl,.int .i64 pdh]:=⟨_,rfl⟩
    have b1:=B1.out.alloc (.cells R 47)
    have hrh:(w1.alloc (.cells R 47)).rangeAt bp (op0+kp*14) [.string pname,.string pkind,.string pinto,.string pslot,.int .i64 pmade,.int .i64 psince,.bool false,.slice Ap pprops.length mp,.int .i64 pkl,.int .i64 pkh,.int .i64 pcl,.int .i64 pch,.int .i64 pdl,.int .i64 pdh]:=range_later HRP.out (HBW.out.trans (b1.b.mono hsz0))
    obtain ⟨qa,qb,qc,qd,qe⟩:=b1.cells
    obtain ⟨ra,rb,rc,rd,re⟩:=(b1.alloc (.cells R 47)).cells
    have kP:=(Has.new w1 47 R).alloc (.cells R 47)
    have kH:=Has.new (w1.alloc (.cells R 47)) 47 R
    simp only [World.size_alloc] at kH
    obtain ⟨sa,sb⟩:=kP.facts
    obtain ⟨ta,tb⟩:=kH.facts
    clear kP kH b1
    subst hR
    go_wp2_with (first | ((with_reducible show wpList _ _ _ (Oper.mk (some 71) _ _ _ _ _ :: _) _ _);refine wpList_load_mid rfl 47 _ rfl bp (op0+kp*14) rfl _ _ hrp Tryz.underlying47 rfl rfl ?_) | ((with_reducible show wpList _ _ _ (Oper.mk (some 76) _ _ _ _ _ :: _) _ _);refine wpList_load_mid rfl 47 _ rfl bp (op0+kp*14) rfl _ _ hrh Tryz.underlying47 rfl rfl ?_))
    clear hrp hrh qa qb qc qd qe ra rb rc rd re sa sb ta tb
    refine (HFK.out _ (HBW.out.trans (((B1.out.alloc _).alloc _).b.mono hsz0))).mono ?_
    rintro e w2 ⟨A3,m3,rfl,_,hb2⟩
    have B2:=Lib.hid (((B1.out.alloc _).alloc _).below hb2)
    clear f1a f1b f1c f1d f1e fz1
    obtain ⟨f2a,f2b,f2c,f2d,f2e⟩:=B2.out.cells
    have fz2:=B2.out.z
    have kP:=((Has.new (w1) 47 _).alloc _).on hb2
    (try simp only [World.size_alloc] at kP)
    obtain ⟨xP2,yP2⟩:=kP.facts
    have zP2:=kP.lt
    have KP2:=Lib.hid kP
    have kH:=(Has.new (_) 47 _).on hb2
    (try simp only [World.size_alloc] at kH)
    obtain ⟨xH2,yH2⟩:=kH.facts
    have zH2:=kH.lt
    have KH2:=Lib.hid kH
    have HB2:=Lib.hid (bon (((HB1.out).alloc (HB1.out).size _).alloc ((HB1.out).alloc (HB1.out).size _).size _) hb2)
    clear hb2 kP kH
    have hgp:w.heap.size+1+1+1 < w1.heap.size:=B1.out.z
    obtain ⟨w3,hw3⟩:∃ W,(w2.alloc (.cells #[.string fn,.bool fv,.slice A3 fs.length m3] 79)) = W:=⟨_,rfl⟩
    have qB:=(B2.out.alloc (.cells #[.string fn,.bool fv,.slice A3 fs.length m3] 79))
    rw [hw3] at qB
    have B3:=Lib.hid qB
    clear qB f2a f2b f2c f2d f2e fz2
    obtain ⟨f3a,f3b,f3c,f3d,f3e⟩:=B3.out.cells
    have fz3:=B3.out.z
    clear xP2 yP2 xH2 yH2
    have kP:=(KP2.out.alloc (.cells #[.string fn,.bool fv,.slice A3 fs.length m3] 79))
    rw [hw3] at kP
    obtain ⟨xP3,yP3⟩:=kP.facts
    have zP3:=kP.lt
    have KP3:=Lib.hid kP
    clear kP
    have kH:=(KH2.out.alloc (.cells #[.string fn,.bool fv,.slice A3 fs.length m3] 79))
    rw [hw3] at kH
    obtain ⟨xH3,yH3⟩:=kH.facts
    have zH3:=kH.lt
    have KH3:=Lib.hid kH
    clear kH
    have kK:=(Has.new w2 79 #[.string fn,.bool fv,.slice A3 fs.length m3])
    rw [hw3] at kK
    obtain ⟨xK3,yK3⟩:=kK.facts
    have zK3:=kK.lt
    have KK3:=Lib.hid kK
    clear kK
    have HB3:=Lib.hid B3.out.b
    have HWK:=Lib.hid hw3
    clear hw3
    have hrx:((w3.setCell ⟨w1.heap.size,2,none⟩ (.string ⟨#[]⟩)).setCell ⟨w1.heap.size,3,none⟩ (.string ⟨#[]⟩)).rangeAt w1.heap.size 0 [.string pname,.string pkind,.string ⟨#[]⟩,.string ⟨#[]⟩,.int .i64 pmade,.int .i64 psince,.bool false,.slice Ap pprops.length mp,.int .i64 pkl,.int .i64 pkh,.int .i64 pcl,.int .i64 pch,.int .i64 pdl,.int .i64 pdh]:=has_range ((KP3.out.put 2 (.string ⟨#[]⟩)).put 3 (.string ⟨#[]⟩))
    obtain ⟨ra,rb,rc,rd,re⟩:=((B3.out.setCell hgp 2 (.string ⟨#[]⟩)).setCell hgp 3 (.string ⟨#[]⟩)).cells
    obtain ⟨rf,rg⟩:=((KP3.out.put 2 (.string ⟨#[]⟩)).put 3 (.string ⟨#[]⟩)).facts
    go_wp2_with (first | ((with_reducible show wpList _ _ _ (Oper.mk (some 92) _ _ _ _ _ :: _) _ _);rw [HWK.out]) | ((with_reducible show wpList _ _ _ (Oper.mk (some 179) _ _ _ _ _ :: _) _ _);refine wpList_load_mid rfl 47 _ rfl w1.heap.size 0 rfl _ _ hrx Tryz.underlying47 rfl rfl ?_))
    refine (HWI.out wb (Below.refl _ _) pname pkind ⟨#[]⟩ ⟨#[]⟩ pmade psince false pprops Ap mp pkl pkh pcl pch pdl pdh _ (HBW.out.trans (((B3.out.setCell hgp 2 (.string ⟨#[]⟩)).setCell hgp 3 (.string ⟨#[]⟩)).b.mono hsz0)) HPP.out).mono ?_
    rintro e w9 ⟨v9,rfl,hst9,hb9⟩
    obtain ⟨A9,c9,hv9,_⟩:=Rd.form hst9
    subst hv9
    have BN:=Lib.hid (((B3.out.setCell hgp 2 (.string ⟨#[]⟩)).setCell hgp 3 (.string ⟨#[]⟩)).below hb9)
    have HST9:=Lib.hid hst9
    clear hst9 hb9
    obtain ⟨na,nb,nc,nd,ne⟩:=BN.out.cells
    go_wp2_with fail
    obtain ⟨n4,n5⟩:=(BN.out.r.put 0 (.slice A9 (putG Pa.name l (⟨pname,pkind,⟨#[]⟩,⟨#[]⟩,pmade,psince,false,pprops,pkl,pkh,pcl,pch,pdl,pdh⟩:Pa)).length c9)).facts
    refine bodyPost_ret (v:=.tuple #[.agg #[.slice A9 (putG Pa.name l (⟨pname,pkind,⟨#[]⟩,⟨#[]⟩,pmade,psince,false,pprops,pkl,pkh,pcl,pch,pdl,pdh⟩:Pa)).length c9],.int .i64 0]) (by simp [results,Tryz.results45,go_sem,n4]) rfl ?_
    rw [show stepL c l _ = (putP l (⟨pname,pkind,⟨#[]⟩,⟨#[]⟩,pmade,psince,false,pprops,pkl,pkh,pcl,pch,pdl,pdh⟩:Pa),(0:Int)) from (by unfold stepL;simp only [HPF.out];unfold turnL;simp [show ¬ pinto = (⟨#[]⟩:ByteArray) from HI.out,eS])]
    have hB:=BN.out.b
    have hz:=BN.out.z
    exact ⟨_,rfl,Sta.far1 HST9.out _ BN.out.r,hB.setCell (by simp;omega) _⟩
  · skip
    have HI:Hid (pinto = eS):=by show pinto = eS;rw [hi] at hie;exact of_decide_eq_true hie.symm
    clear hie
    go_enter Tryz.func45,Tryz.ntmps45
    go_wp2_with fail
    refine (HAT.out part _ (HBW.out.trans (B0.out.b.mono hsz0))).mono ?_
    rintro e w1 ⟨rfl,hb1⟩
    rw [HAI.out]
    have B1:=Lib.hid (B0.out.below hb1)
    obtain ⟨f1a,f1b,f1c,f1d,f1e⟩:=B1.out.cells
    have fz1:=B1.out.z
    have HB1:=Lib.hid (bon (HB0.out) hb1)
    clear hb1
    have hrp:w1.rangeAt bp (op0+kp*14) [.string pname,.string pkind,.string pinto,.string pslot,.int .i64 pmade,.int .i64 psince,.bool false,.slice Ap pprops.length mp,.int .i64 pkl,.int .i64 pkh,.int .i64 pcl,.int .i64 pch,.int .i64 pdl,.int .i64 pdh]:=range_later HRP.out (HBW.out.trans (B1.out.b.mono hsz0))
    obtain ⟨R,hR⟩:∃ R:Array Value,R = #[.string pname,.string pkind,.string pinto,.string pslot,.int .i64 pmade,.int .i64 psince,.bool false,.slice Ap pprops.length mp,.int .i64 pkl,.int .i64 pkh,.int .i64 pcl,.int .i64 pch,.int .i64 pdl,.int .i64 pdh]:=⟨_,rfl⟩
    have b1:=B1.out.alloc (.cells R 47)
    have hrh:(w1.alloc (.cells R 47)).rangeAt bp (op0+kp*14) [.string pname,.string pkind,.string pinto,.string pslot,.int .i64 pmade,.int .i64 psince,.bool false,.slice Ap pprops.length mp,.int .i64 pkl,.int .i64 pkh,.int .i64 pcl,.int .i64 pch,.int .i64 pdl,.int .i64 pdh]:=range_later HRP.out (HBW.out.trans (b1.b.mono hsz0))
    obtain ⟨qa,qb,qc,qd,qe⟩:=b1.cells
    obtain ⟨ra,rb,rc,rd,re⟩:=(b1.alloc (.cells R 47)).cells
    have kP:=(Has.new w1 47 R).alloc (.cells R 47)
    have kH:=Has.new (w1.alloc (.cells R 47)) 47 R
    simp only [World.size_alloc] at kH
    obtain ⟨sa,sb⟩:=kP.facts
    obtain ⟨ta,tb⟩:=kH.facts
    clear kP kH b1
    subst hR
    go_wp2_with (first | ((with_reducible show wpList _ _ _ (Oper.mk (some 71) _ _ _ _ _ :: _) _ _);refine wpList_load_mid rfl 47 _ rfl bp (op0+kp*14) rfl _ _ hrp Tryz.underlying47 rfl rfl ?_) | ((with_reducible show wpList _ _ _ (Oper.mk (some 76) _ _ _ _ _ :: _) _ _);refine wpList_load_mid rfl 47 _ rfl bp (op0+kp*14) rfl _ _ hrh Tryz.underlying47 rfl rfl ?_))
    clear hrp hrh qa qb qc qd qe ra rb rc rd re sa sb ta tb
    refine (HFK.out _ (HBW.out.trans (((B1.out.alloc _).alloc _).b.mono hsz0))).mono ?_
    rintro e w2 ⟨A3,m3,rfl,_,hb2⟩
    have B2:=Lib.hid (((B1.out.alloc _).alloc _).below hb2)
    clear f1a f1b f1c f1d f1e fz1
    obtain ⟨f2a,f2b,f2c,f2d,f2e⟩:=B2.out.cells
    have fz2:=B2.out.z
    have kP:=((Has.new (w1) 47 _).alloc _).on hb2
    (try simp only [World.size_alloc] at kP)
    obtain ⟨xP2,yP2⟩:=kP.facts
    have zP2:=kP.lt
    have KP2:=Lib.hid kP
    have kH:=(Has.new (_) 47 _).on hb2
    (try simp only [World.size_alloc] at kH)
    obtain ⟨xH2,yH2⟩:=kH.facts
    have zH2:=kH.lt
    have KH2:=Lib.hid kH
    have HB2:=Lib.hid (bon (((HB1.out).alloc (HB1.out).size _).alloc ((HB1.out).alloc (HB1.out).size _).size _) hb2)
    clear hb2 kP kH
    have hgp:w.heap.size+1+1+1 < w1.heap.size:=B1.out.z
    obtain ⟨w3,hw3⟩:∃ W,(w2.alloc (.cells #[.string fn,.bool fv,.slice A3 fs.length m3] 79)) = W:=⟨_,rfl⟩
    have qB:=(B2.out.alloc (.cells #[.string fn,.bool fv,.slice A3 fs.length m3] 79))
    rw [hw3] at qB
    have B3:=Lib.hid qB
    clear qB f2a f2b f2c f2d f2e fz2
    obtain ⟨f3a,f3b,f3c,f3d,f3e⟩:=B3.out.cells
    have fz3:=B3.out.z
    clear xP2 yP2 xH2 yH2
    have kP:=(KP2.out.alloc (.cells #[.string fn,.bool fv,.slice A3 fs.length m3] 79))
    rw [hw3] at kP
    obtain ⟨xP3,yP3⟩:=kP.facts
    have zP3:=kP.lt
    have KP3:=Lib.hid kP
    clear kP
    have kH:=(KH2.out.alloc (.cells #[.string fn,.bool fv,.slice A3 fs.length m3] 79))
    rw [hw3] at kH
    obtain ⟨xH3,yH3⟩:=kH.facts
    have zH3:=kH.lt
    have KH3:=Lib.hid kH
    clear kH
    have kK:=(Has.new w2 79 #[.string fn,.bool fv,.slice A3 fs.length m3])
    rw [hw3] at kK
    obtain ⟨xK3,yK3⟩:=kK.facts
    have zK3:=kK.lt
    have KK3:=Lib.hid kK
    clear kK
    have HB3:=Lib.hid B3.out.b
    have HWK:=Lib.hid hw3
    clear hw3
    go_wp2_with ((with_reducible show wpList _ _ _ (Oper.mk (some 92) _ _ _ _ _ :: _) _ _);rw [HWK.out])
    obtain ⟨n4,n5⟩:=(B3.out.r.put 0 (.slice none 0 0)).facts
    refine bodyPost_ret (v:=.tuple #[.agg #[.slice none 0 0],.int .i64 5]) (by simp [results,Tryz.results45,go_sem,n4]) rfl ?_
    rw [show stepL c l _ = (([]:List Pa),(5:Int)) from (by unfold stepL;simp only [HPF.out];unfold turnL;simp [HI.out])]
    have hB:=B3.out.b
    exact ⟨_,rfl,Rd.nil _ _,hB.setCell (by simp;omega) _⟩
set_option maxRecDepth 100000 in
set_option maxHeartbeats 8000000 in
theorem step_run (wb:World) (cv sv:Value) (c:List Kd) (l:List Pa) (day:Int) (part kind into slot key value:ByteArray) (ukl ukh ucl uch ull ulh:Int) (w:World) (hb0:Below wb.heap.size wb w) (hcat:Cat wb cv c) (hcl:c.length≤100000) (hks:∀ k∈c,k.short) (hsta:Sta wb sv l) (hvb:validB c l = true) (p:Pa) (hpf:pfind l part = some p) (hgo:p.gone = false) :
    Calls Tryz.prog 45 #[.agg #[cv],.agg #[sv],.agg #[.int .i64 4,.int .i64 day,.string part,.string kind,.string into,.string slot,.string key,.string value,.int .i64 ukl,.int .i64 ukh,.int .i64 ucl,.int .i64 uch,.int .i64 ull,.int .i64 ulh]] w fun r w'=>∃ v',r = .returned (.tuple #[.agg #[v'],.int .i64 (stepL c l ⟨4,day,part,kind,into,slot,key,value,ukl,ukh,ucl,uch,ull,ulh⟩).2])∧Sta w' v' (stepL c l ⟨4,day,part,kind,into,slot,key,value,ukl,ukh,ucl,uch,ull,ulh⟩).1∧Below w.heap.size w w':=by
  obtain ⟨A',cc,rfl,hn⟩:=Rd.form hcat
  obtain ⟨A,cs0,rfl,hn0⟩:=Rd.form hsta
  have hl20:=(valid_len hvb)
  have HBW:=Lib.hid hb0
  have hsz0:=hb0.size
  have B0:=Lib.hid (ApB.new w A' c.length cc A l.length cs0 #[.int .i64 4,.int .i64 day,.string part,.string kind,.string into,.string slot,.string key,.string value,.int .i64 ukl,.int .i64 ukh,.int .i64 ucl,.int .i64 uch,.int .i64 ull,.int .i64 ulh])
  have HB0:=Lib.hid B0.out.b
  have HV:=Lib.hid hsta
  have HAT:=Lib.hid (fun x W (h:Below wb.heap.size wb W)=>refAt_any wb _ l x W h hsta (by omega))
  have HF:=Lib.hid (fun x W (h:Below wb.heap.size wb W)=>refFind_any wb _ c x W h hcat hcl)
  have HTK:=Lib.hid (fun x y z W (h:Below wb.heap.size wb W)=>refTakes_any wb _ c x y z W h hcat hcl hks)
  have HHD:=Lib.hid (fun x y W (h:Below wb.heap.size wb W)=>refHeld_any wb _ l x y W h hsta (by omega))
  have HSO:=Lib.hid (sorted_ord.1 (validB_sorted hvb))
  clear hb0 hcat hks
  have HORD:=Lib.hid (fun (x:Pa) (hx:x∈l)=>part_sorted hvb hx)
  have HPM:=Lib.hid (pfind_mem hpf).1
  have HWI:=Lib.hid (fun (W0:World) (h0:Below wb.heap.size wb W0) (pname pkind pinto pslot:ByteArray) (pmade psince:Int) (pgone:Bool) (pprops:List Pr) (Ap:Option Addr) (mp:Nat) (pkl pkh pcl pch pdl pdh:Int) (W:World) (h:Below W0.heap.size W0 W) (hp:Rd 2 PrR W0 (.slice Ap pprops.length mp) pprops)=>with_any W0 _ l pname pkind pinto pslot pmade psince pgone pprops Ap mp pkl pkh pcl pch pdl pdh W h (hsta.below h0) hl20 (sorted_ord.1 (validB_sorted hvb)) hp)
  obtain ⟨kp,hkp,hap,hgp⟩:=atP_yes hpf
  have HAI:=Lib.hid hap
  have HPF:=Lib.hid hpf
  obtain ⟨bp,op0,cp,csp,hep,_,⟨svp,rfl,hsvp⟩,_,hrgp⟩:=Rd.get HV.out hkp noPa
  injection hep with e1 e2 e3
  subst e1;subst e3
  rw [hgp] at hsvp hrgp
  obtain ⟨Ap,mp,rfl,hnp⟩:=Rd.form hsvp
  have HPP:=Lib.hid hsvp
  have HRP0:=Lib.hid hrgp
  have hkpi:(kp:Int) < (l.length:Int):=by omega
  have hkp0:¬ (kp:Int) < 0:=by omega
  clear hap hpf hgp hsvp hrgp
  obtain ⟨pname,pkind,pinto,pslot,pmade,psince,pgone,pprops,pkl,pkh,pcl,pch,pdl,pdh⟩:=p
  have HRP:Hid (wb.rangeAt bp (op0+kp*14) [.string pname,.string pkind,.string pinto,.string pslot,.int .i64 pmade,.int .i64 psince,.bool pgone,.slice Ap pprops.length mp,.int .i64 pkl,.int .i64 pkh,.int .i64 pcl,.int .i64 pch,.int .i64 pdl,.int .i64 pdh]):=HRP0
  clear HRP0
  dsimp only at hnp HPP
  clear hvb hsta
  dsimp only at hgo
  subst hgo
  have HFK:=Lib.hid (fun W h=>HF.out pkind W h)
  generalize hfk:(kfind c pkind).getD noKd = fk at HFK
  have HFKE:=Lib.hid hfk
  clear hfk
  generalize (kfind c pkind).isSome = kb at HFK
  obtain ⟨fn,fv,fs⟩:=fk
  dsimp only at HFK
  cases fv
  · skip
    go_enter Tryz.func45,Tryz.ntmps45
    go_wp2_with fail
    refine (HAT.out part _ (HBW.out.trans (B0.out.b.mono hsz0))).mono ?_
    rintro e w1 ⟨rfl,hb1⟩
    rw [HAI.out]
    have B1:=Lib.hid (B0.out.below hb1)
    obtain ⟨f1a,f1b,f1c,f1d,f1e⟩:=B1.out.cells
    have fz1:=B1.out.z
    have HB1:=Lib.hid (bon (HB0.out) hb1)
    clear hb1
    have hrp:w1.rangeAt bp (op0+kp*14) [.string pname,.string pkind,.string pinto,.string pslot,.int .i64 pmade,.int .i64 psince,.bool false,.slice Ap pprops.length mp,.int .i64 pkl,.int .i64 pkh,.int .i64 pcl,.int .i64 pch,.int .i64 pdl,.int .i64 pdh]:=range_later HRP.out (HBW.out.trans (B1.out.b.mono hsz0))
    obtain ⟨R,hR⟩:∃ R:Array Value,R = #[.string pname,.string pkind,.string pinto,.string pslot,.int .i64 pmade,.int .i64 psince,.bool false,.slice Ap pprops.length mp,.int .i64 pkl,.int .i64 pkh,.int .i64 pcl,.int .i64 pch,.int .i64 pdl,.int .i64 pdh]:=⟨_,rfl⟩
    have b1:=B1.out.alloc (.cells R 47)
    have hrh:(w1.alloc (.cells R 47)).rangeAt bp (op0+kp*14) [.string pname,.string pkind,.string pinto,.string pslot,.int .i64 pmade,.int .i64 psince,.bool false,.slice Ap pprops.length mp,.int .i64 pkl,.int .i64 pkh,.int .i64 pcl,.int .i64 pch,.int .i64 pdl,.int .i64 pdh]:=range_later HRP.out (HBW.out.trans (b1.b.mono hsz0))
    obtain ⟨qa,qb,qc,qd,qe⟩:=b1.cells
    obtain ⟨ra,rb,rc,rd,re⟩:=(b1.alloc (.cells R 47)).cells
    have kP:=(Has.new w1 47 R).alloc (.cells R 47)
    have kH:=Has.new (w1.alloc (.cells R 47)) 47 R
    simp only [World.size_alloc] at kH
    obtain ⟨sa,sb⟩:=kP.facts
    obtain ⟨ta,tb⟩:=kH.facts
    clear kP kH b1
    subst hR
    go_wp2_with (first | ((with_reducible show wpList _ _ _ (Oper.mk (some 71) _ _ _ _ _ :: _) _ _);refine wpList_load_mid rfl 47 _ rfl bp (op0+kp*14) rfl _ _ hrp Tryz.underlying47 rfl rfl ?_) | ((with_reducible show wpList _ _ _ (Oper.mk (some 76) _ _ _ _ _ :: _) _ _);refine wpList_load_mid rfl 47 _ rfl bp (op0+kp*14) rfl _ _ hrh Tryz.underlying47 rfl rfl ?_))
    clear hrp hrh qa qb qc qd qe ra rb rc rd re sa sb ta tb
    refine (HFK.out _ (HBW.out.trans (((B1.out.alloc _).alloc _).b.mono hsz0))).mono ?_
    rintro e w2 ⟨A3,m3,rfl,_,hb2⟩
    have B2:=Lib.hid (((B1.out.alloc _).alloc _).below hb2)
    clear f1a f1b f1c f1d f1e fz1
    obtain ⟨f2a,f2b,f2c,f2d,f2e⟩:=B2.out.cells
    have fz2:=B2.out.z
    have kP:=((Has.new (w1) 47 _).alloc _).on hb2
    (try simp only [World.size_alloc] at kP)
    obtain ⟨xP2,yP2⟩:=kP.facts
    have zP2:=kP.lt
    have KP2:=Lib.hid kP
    have kH:=(Has.new (_) 47 _).on hb2
    (try simp only [World.size_alloc] at kH)
    obtain ⟨xH2,yH2⟩:=kH.facts
    have zH2:=kH.lt
    have KH2:=Lib.hid kH
    have HB2:=Lib.hid (bon (((HB1.out).alloc (HB1.out).size _).alloc ((HB1.out).alloc (HB1.out).size _).size _) hb2)
    clear hb2 kP kH
    have hgp:w.heap.size+1+1+1 < w1.heap.size:=B1.out.z
    obtain ⟨w3,hw3⟩:∃ W,(w2.alloc (.cells #[.string fn,.bool false,.slice A3 fs.length m3] 79)) = W:=⟨_,rfl⟩
    have qB:=(B2.out.alloc (.cells #[.string fn,.bool false,.slice A3 fs.length m3] 79))
    rw [hw3] at qB
    have B3:=Lib.hid qB
    clear qB f2a f2b f2c f2d f2e fz2
    obtain ⟨f3a,f3b,f3c,f3d,f3e⟩:=B3.out.cells
    have fz3:=B3.out.z
    clear xP2 yP2 xH2 yH2
    have kP:=(KP2.out.alloc (.cells #[.string fn,.bool false,.slice A3 fs.length m3] 79))
    rw [hw3] at kP
    obtain ⟨xP3,yP3⟩:=kP.facts
    have zP3:=kP.lt
    have KP3:=Lib.hid kP
    clear kP
    have kH:=(KH2.out.alloc (.cells #[.string fn,.bool false,.slice A3 fs.length m3] 79))
    rw [hw3] at kH
    obtain ⟨xH3,yH3⟩:=kH.facts
    have zH3:=kH.lt
    have KH3:=Lib.hid kH
    clear kH
    have kK:=(Has.new w2 79 #[.string fn,.bool false,.slice A3 fs.length m3])
    rw [hw3] at kK
    obtain ⟨xK3,yK3⟩:=kK.facts
    have zK3:=kK.lt
    have KK3:=Lib.hid kK
    clear kK
    have HB3:=Lib.hid B3.out.b
    have HWK:=Lib.hid hw3
    clear hw3
    go_wp2_with ((with_reducible show wpList _ _ _ (Oper.mk (some 92) _ _ _ _ _ :: _) _ _);rw [HWK.out])
    obtain ⟨n4,n5⟩:=(B3.out.r.put 0 (.slice none 0 0)).facts
    refine bodyPost_ret (v:=.tuple #[.agg #[.slice none 0 0],.int .i64 4]) (by simp [results,Tryz.results45,go_sem,n4]) rfl ?_
    rw [show stepL c l _ = (([]:List Pa),(4:Int)) from (by unfold stepL;simp only [HPF.out];unfold turnL;simp [HFKE.out])]
    have hB:=B3.out.b
    exact ⟨_,rfl,Rd.nil _ _,hB.setCell (by simp;omega) _⟩
  · skip
    go_enter Tryz.func45,Tryz.ntmps45
    go_wp2_with fail
    refine (HAT.out part _ (HBW.out.trans (B0.out.b.mono hsz0))).mono ?_
    rintro e w1 ⟨rfl,hb1⟩
    rw [HAI.out]
    have B1:=Lib.hid (B0.out.below hb1)
    obtain ⟨f1a,f1b,f1c,f1d,f1e⟩:=B1.out.cells
    have fz1:=B1.out.z
    have HB1:=Lib.hid (bon (HB0.out) hb1)
    clear hb1
    have hrp:w1.rangeAt bp (op0+kp*14) [.string pname,.string pkind,.string pinto,.string pslot,.int .i64 pmade,.int .i64 psince,.bool false,.slice Ap pprops.length mp,.int .i64 pkl,.int .i64 pkh,.int .i64 pcl,.int .i64 pch,.int .i64 pdl,.int .i64 pdh]:=range_later HRP.out (HBW.out.trans (B1.out.b.mono hsz0))
    obtain ⟨R,hR⟩:∃ R:Array Value,R = #[.string pname,.string pkind,.string pinto,.string pslot,.int .i64 pmade,.int .i64 psince,.bool false,.slice Ap pprops.length mp,.int .i64 pkl,.int .i64 pkh,.int .i64 pcl,.int .i64 pch,.int .i64 pdl,.int .i64 pdh]:=⟨_,rfl⟩
    have b1:=B1.out.alloc (.cells R 47)
    have hrh:(w1.alloc (.cells R 47)).rangeAt bp (op0+kp*14) [.string pname,.string pkind,.string pinto,.string pslot,.int .i64 pmade,.int .i64 psince,.bool false,.slice Ap pprops.length mp,.int .i64 pkl,.int .i64 pkh,.int .i64 pcl,.int .i64 pch,.int .i64 pdl,.int .i64 pdh]:=range_later HRP.out (HBW.out.trans (b1.b.mono hsz0))
    obtain ⟨qa,qb,qc,qd,qe⟩:=b1.cells
    obtain ⟨ra,rb,rc,rd,re⟩:=(b1.alloc (.cells R 47)).cells
    have kP:=(Has.new w1 47 R).alloc (.cells R 47)
    have kH:=Has.new (w1.alloc (.cells R 47)) 47 R
    simp only [World.size_alloc] at kH
    obtain ⟨sa,sb⟩:=kP.facts
    obtain ⟨ta,tb⟩:=kH.facts
    clear kP kH b1
    subst hR
    go_wp2_with (first | ((with_reducible show wpList _ _ _ (Oper.mk (some 71) _ _ _ _ _ :: _) _ _);refine wpList_load_mid rfl 47 _ rfl bp (op0+kp*14) rfl _ _ hrp Tryz.underlying47 rfl rfl ?_) | ((with_reducible show wpList _ _ _ (Oper.mk (some 76) _ _ _ _ _ :: _) _ _);refine wpList_load_mid rfl 47 _ rfl bp (op0+kp*14) rfl _ _ hrh Tryz.underlying47 rfl rfl ?_))
    clear hrp hrh qa qb qc qd qe ra rb rc rd re sa sb ta tb
    refine (HFK.out _ (HBW.out.trans (((B1.out.alloc _).alloc _).b.mono hsz0))).mono ?_
    rintro e w2 ⟨A3,m3,rfl,_,hb2⟩
    have B2:=Lib.hid (((B1.out.alloc _).alloc _).below hb2)
    clear f1a f1b f1c f1d f1e fz1
    obtain ⟨f2a,f2b,f2c,f2d,f2e⟩:=B2.out.cells
    have fz2:=B2.out.z
    have kP:=((Has.new (w1) 47 _).alloc _).on hb2
    (try simp only [World.size_alloc] at kP)
    obtain ⟨xP2,yP2⟩:=kP.facts
    have zP2:=kP.lt
    have KP2:=Lib.hid kP
    have kH:=(Has.new (_) 47 _).on hb2
    (try simp only [World.size_alloc] at kH)
    obtain ⟨xH2,yH2⟩:=kH.facts
    have zH2:=kH.lt
    have KH2:=Lib.hid kH
    have HB2:=Lib.hid (bon (((HB1.out).alloc (HB1.out).size _).alloc ((HB1.out).alloc (HB1.out).size _).size _) hb2)
    clear hb2 kP kH
    have hgp:w.heap.size+1+1+1 < w1.heap.size:=B1.out.z
    obtain ⟨w3,hw3⟩:∃ W,(w2.alloc (.cells #[.string fn,.bool true,.slice A3 fs.length m3] 79)) = W:=⟨_,rfl⟩
    have qB:=(B2.out.alloc (.cells #[.string fn,.bool true,.slice A3 fs.length m3] 79))
    rw [hw3] at qB
    have B3:=Lib.hid qB
    clear qB f2a f2b f2c f2d f2e fz2
    obtain ⟨f3a,f3b,f3c,f3d,f3e⟩:=B3.out.cells
    have fz3:=B3.out.z
    clear xP2 yP2 xH2 yH2
    have kP:=(KP2.out.alloc (.cells #[.string fn,.bool true,.slice A3 fs.length m3] 79))
    rw [hw3] at kP
    obtain ⟨xP3,yP3⟩:=kP.facts
    have zP3:=kP.lt
    have KP3:=Lib.hid kP
    clear kP
    have kH:=(KH2.out.alloc (.cells #[.string fn,.bool true,.slice A3 fs.length m3] 79))
    rw [hw3] at kH
    obtain ⟨xH3,yH3⟩:=kH.facts
    have zH3:=kH.lt
    have KH3:=Lib.hid kH
    clear kH
    have kK:=(Has.new w2 79 #[.string fn,.bool true,.slice A3 fs.length m3])
    rw [hw3] at kK
    obtain ⟨xK3,yK3⟩:=kK.facts
    have zK3:=kK.lt
    have KK3:=Lib.hid kK
    clear kK
    have HB3:=Lib.hid B3.out.b
    have HWK:=Lib.hid hw3
    clear hw3
    have hrx:w3.rangeAt w1.heap.size 0 [.string pname,.string pkind,.string pinto,.string pslot,.int .i64 pmade,.int .i64 psince,.bool false,.slice Ap pprops.length mp,.int .i64 pkl,.int .i64 pkh,.int .i64 pcl,.int .i64 pch,.int .i64 pdl,.int .i64 pdh]:=has_range KP3.out
    go_wp2_with (first | ((with_reducible show wpList _ _ _ (Oper.mk (some 92) _ _ _ _ _ :: _) _ _);rw [HWK.out]) | ((with_reducible show wpList _ _ _ (Oper.mk (some 179) _ _ _ _ _ :: _) _ _);refine wpList_load_mid rfl 47 _ rfl w1.heap.size 0 rfl _ _ hrx Tryz.underlying47 rfl rfl ?_))
    refine (HWI.out wb (Below.refl _ _) pname pkind pinto pslot pmade psince false pprops Ap mp pkl pkh pcl pch pdl pdh _ (HBW.out.trans (B3.out.b.mono hsz0)) HPP.out).mono ?_
    rintro e w9 ⟨v9,rfl,hst9,hb9⟩
    obtain ⟨A9,c9,hv9,_⟩:=Rd.form hst9
    subst hv9
    have BN:=Lib.hid (B3.out.below hb9)
    have HST9:=Lib.hid hst9
    clear hst9 hb9
    obtain ⟨na,nb,nc,nd,ne⟩:=BN.out.cells
    go_wp2_with fail
    obtain ⟨n4,n5⟩:=(BN.out.r.put 0 (.slice A9 (putG Pa.name l (⟨pname,pkind,pinto,pslot,pmade,psince,false,pprops,pkl,pkh,pcl,pch,pdl,pdh⟩:Pa)).length c9)).facts
    refine bodyPost_ret (v:=.tuple #[.agg #[.slice A9 (putG Pa.name l (⟨pname,pkind,pinto,pslot,pmade,psince,false,pprops,pkl,pkh,pcl,pch,pdl,pdh⟩:Pa)).length c9],.int .i64 0]) (by simp [results,Tryz.results45,go_sem,n4]) rfl ?_
    rw [show stepL c l _ = (putP l (⟨pname,pkind,pinto,pslot,pmade,psince,false,pprops,pkl,pkh,pcl,pch,pdl,pdh⟩:Pa),(0:Int)) from (by unfold stepL;simp only [HPF.out];unfold turnL;simp [HFKE.out])]
    have hB:=BN.out.b
    have hz:=BN.out.z
    exact ⟨_,rfl,Sta.far1 HST9.out _ BN.out.r,hB.setCell (by simp;omega) _⟩
set_option maxRecDepth 100000 in
set_option maxHeartbeats 8000000 in
theorem step_overhaul (wb:World) (cv sv:Value) (c:List Kd) (l:List Pa) (day:Int) (part kind into slot key value:ByteArray) (ukl ukh ucl uch ull ulh:Int) (w:World) (hb0:Below wb.heap.size wb w) (hcat:Cat wb cv c) (hcl:c.length≤100000) (hks:∀ k∈c,k.short) (hsta:Sta wb sv l) (hvb:validB c l = true) (p:Pa) (hpf:pfind l part = some p) (hgo:p.gone = false) :
    Calls Tryz.prog 45 #[.agg #[cv],.agg #[sv],.agg #[.int .i64 5,.int .i64 day,.string part,.string kind,.string into,.string slot,.string key,.string value,.int .i64 ukl,.int .i64 ukh,.int .i64 ucl,.int .i64 uch,.int .i64 ull,.int .i64 ulh]] w fun r w'=>∃ v',r = .returned (.tuple #[.agg #[v'],.int .i64 (stepL c l ⟨5,day,part,kind,into,slot,key,value,ukl,ukh,ucl,uch,ull,ulh⟩).2])∧Sta w' v' (stepL c l ⟨5,day,part,kind,into,slot,key,value,ukl,ukh,ucl,uch,ull,ulh⟩).1∧Below w.heap.size w w':=by
  obtain ⟨A',cc,rfl,hn⟩:=Rd.form hcat
  obtain ⟨A,cs0,rfl,hn0⟩:=Rd.form hsta
  have hl20:=(valid_len hvb)
  have HBW:=Lib.hid hb0
  have hsz0:=hb0.size
  have B0:=Lib.hid (ApB.new w A' c.length cc A l.length cs0 #[.int .i64 5,.int .i64 day,.string part,.string kind,.string into,.string slot,.string key,.string value,.int .i64 ukl,.int .i64 ukh,.int .i64 ucl,.int .i64 uch,.int .i64 ull,.int .i64 ulh])
  have HB0:=Lib.hid B0.out.b
  have HV:=Lib.hid hsta
  have HAT:=Lib.hid (fun x W (h:Below wb.heap.size wb W)=>refAt_any wb _ l x W h hsta (by omega))
  have HF:=Lib.hid (fun x W (h:Below wb.heap.size wb W)=>refFind_any wb _ c x W h hcat hcl)
  have HTK:=Lib.hid (fun x y z W (h:Below wb.heap.size wb W)=>refTakes_any wb _ c x y z W h hcat hcl hks)
  have HHD:=Lib.hid (fun x y W (h:Below wb.heap.size wb W)=>refHeld_any wb _ l x y W h hsta (by omega))
  have HSO:=Lib.hid (sorted_ord.1 (validB_sorted hvb))
  clear hb0 hcat hks
  have HORD:=Lib.hid (fun (x:Pa) (hx:x∈l)=>part_sorted hvb hx)
  have HPM:=Lib.hid (pfind_mem hpf).1
  have HWI:=Lib.hid (fun (W0:World) (h0:Below wb.heap.size wb W0) (pname pkind pinto pslot:ByteArray) (pmade psince:Int) (pgone:Bool) (pprops:List Pr) (Ap:Option Addr) (mp:Nat) (pkl pkh pcl pch pdl pdh:Int) (W:World) (h:Below W0.heap.size W0 W) (hp:Rd 2 PrR W0 (.slice Ap pprops.length mp) pprops)=>with_any W0 _ l pname pkind pinto pslot pmade psince pgone pprops Ap mp pkl pkh pcl pch pdl pdh W h (hsta.below h0) hl20 (sorted_ord.1 (validB_sorted hvb)) hp)
  obtain ⟨kp,hkp,hap,hgp⟩:=atP_yes hpf
  have HAI:=Lib.hid hap
  have HPF:=Lib.hid hpf
  obtain ⟨bp,op0,cp,csp,hep,_,⟨svp,rfl,hsvp⟩,_,hrgp⟩:=Rd.get HV.out hkp noPa
  injection hep with e1 e2 e3
  subst e1;subst e3
  rw [hgp] at hsvp hrgp
  obtain ⟨Ap,mp,rfl,hnp⟩:=Rd.form hsvp
  have HPP:=Lib.hid hsvp
  have HRP0:=Lib.hid hrgp
  have hkpi:(kp:Int) < (l.length:Int):=by omega
  have hkp0:¬ (kp:Int) < 0:=by omega
  clear hap hpf hgp hsvp hrgp
  obtain ⟨pname,pkind,pinto,pslot,pmade,psince,pgone,pprops,pkl,pkh,pcl,pch,pdl,pdh⟩:=p
  have HRP:Hid (wb.rangeAt bp (op0+kp*14) [.string pname,.string pkind,.string pinto,.string pslot,.int .i64 pmade,.int .i64 psince,.bool pgone,.slice Ap pprops.length mp,.int .i64 pkl,.int .i64 pkh,.int .i64 pcl,.int .i64 pch,.int .i64 pdl,.int .i64 pdh]):=HRP0
  clear HRP0
  dsimp only at hnp HPP
  clear hvb hsta
  dsimp only at hgo
  subst hgo
  have HFK:=Lib.hid (fun W h=>HF.out pkind W h)
  generalize hfk:(kfind c pkind).getD noKd = fk at HFK
  have HFKE:=Lib.hid hfk
  clear hfk
  generalize (kfind c pkind).isSome = kb at HFK
  obtain ⟨fn,fv,fs⟩:=fk
  dsimp only at HFK
  go_enter Tryz.func45,Tryz.ntmps45
  go_wp2_with fail
  refine (HAT.out part _ (HBW.out.trans (B0.out.b.mono hsz0))).mono ?_
  rintro e w1 ⟨rfl,hb1⟩
  rw [HAI.out]
  have B1:=Lib.hid (B0.out.below hb1)
  obtain ⟨f1a,f1b,f1c,f1d,f1e⟩:=B1.out.cells
  have fz1:=B1.out.z
  have HB1:=Lib.hid (bon (HB0.out) hb1)
  clear hb1
  have hrp:w1.rangeAt bp (op0+kp*14) [.string pname,.string pkind,.string pinto,.string pslot,.int .i64 pmade,.int .i64 psince,.bool false,.slice Ap pprops.length mp,.int .i64 pkl,.int .i64 pkh,.int .i64 pcl,.int .i64 pch,.int .i64 pdl,.int .i64 pdh]:=range_later HRP.out (HBW.out.trans (B1.out.b.mono hsz0))
  obtain ⟨R,hR⟩:∃ R:Array Value,R = #[.string pname,.string pkind,.string pinto,.string pslot,.int .i64 pmade,.int .i64 psince,.bool false,.slice Ap pprops.length mp,.int .i64 pkl,.int .i64 pkh,.int .i64 pcl,.int .i64 pch,.int .i64 pdl,.int .i64 pdh]:=⟨_,rfl⟩
  have b1:=B1.out.alloc (.cells R 47)
  have hrh:(w1.alloc (.cells R 47)).rangeAt bp (op0+kp*14) [.string pname,.string pkind,.string pinto,.string pslot,.int .i64 pmade,.int .i64 psince,.bool false,.slice Ap pprops.length mp,.int .i64 pkl,.int .i64 pkh,.int .i64 pcl,.int .i64 pch,.int .i64 pdl,.int .i64 pdh]:=range_later HRP.out (HBW.out.trans (b1.b.mono hsz0))
  obtain ⟨qa,qb,qc,qd,qe⟩:=b1.cells
  obtain ⟨ra,rb,rc,rd,re⟩:=(b1.alloc (.cells R 47)).cells
  have kP:=(Has.new w1 47 R).alloc (.cells R 47)
  have kH:=Has.new (w1.alloc (.cells R 47)) 47 R
  simp only [World.size_alloc] at kH
  obtain ⟨sa,sb⟩:=kP.facts
  obtain ⟨ta,tb⟩:=kH.facts
  clear kP kH b1
  subst hR
  go_wp2_with (first | ((with_reducible show wpList _ _ _ (Oper.mk (some 71) _ _ _ _ _ :: _) _ _);refine wpList_load_mid rfl 47 _ rfl bp (op0+kp*14) rfl _ _ hrp Tryz.underlying47 rfl rfl ?_) | ((with_reducible show wpList _ _ _ (Oper.mk (some 76) _ _ _ _ _ :: _) _ _);refine wpList_load_mid rfl 47 _ rfl bp (op0+kp*14) rfl _ _ hrh Tryz.underlying47 rfl rfl ?_))
  clear hrp hrh qa qb qc qd qe ra rb rc rd re sa sb ta tb
  refine (HFK.out _ (HBW.out.trans (((B1.out.alloc _).alloc _).b.mono hsz0))).mono ?_
  rintro e w2 ⟨A3,m3,rfl,_,hb2⟩
  have B2:=Lib.hid (((B1.out.alloc _).alloc _).below hb2)
  clear f1a f1b f1c f1d f1e fz1
  obtain ⟨f2a,f2b,f2c,f2d,f2e⟩:=B2.out.cells
  have fz2:=B2.out.z
  have kP:=((Has.new (w1) 47 _).alloc _).on hb2
  (try simp only [World.size_alloc] at kP)
  obtain ⟨xP2,yP2⟩:=kP.facts
  have zP2:=kP.lt
  have KP2:=Lib.hid kP
  have kH:=(Has.new (_) 47 _).on hb2
  (try simp only [World.size_alloc] at kH)
  obtain ⟨xH2,yH2⟩:=kH.facts
  have zH2:=kH.lt
  have KH2:=Lib.hid kH
  have HB2:=Lib.hid (bon (((HB1.out).alloc (HB1.out).size _).alloc ((HB1.out).alloc (HB1.out).size _).size _) hb2)
  clear hb2 kP kH
  have hgp:w.heap.size+1+1+1 < w1.heap.size:=B1.out.z
  obtain ⟨w3,hw3⟩:∃ W,(w2.alloc (.cells #[.string fn,.bool fv,.slice A3 fs.length m3] 79)) = W:=⟨_,rfl⟩
  have qB:=(B2.out.alloc (.cells #[.string fn,.bool fv,.slice A3 fs.length m3] 79))
  rw [hw3] at qB
  have B3:=Lib.hid qB
  clear qB f2a f2b f2c f2d f2e fz2
  obtain ⟨f3a,f3b,f3c,f3d,f3e⟩:=B3.out.cells
  have fz3:=B3.out.z
  clear xP2 yP2 xH2 yH2
  have kP:=(KP2.out.alloc (.cells #[.string fn,.bool fv,.slice A3 fs.length m3] 79))
  rw [hw3] at kP
  obtain ⟨xP3,yP3⟩:=kP.facts
  have zP3:=kP.lt
  have KP3:=Lib.hid kP
  clear kP
  have kH:=(KH2.out.alloc (.cells #[.string fn,.bool fv,.slice A3 fs.length m3] 79))
  rw [hw3] at kH
  obtain ⟨xH3,yH3⟩:=kH.facts
  have zH3:=kH.lt
  have KH3:=Lib.hid kH
  clear kH
  have kK:=(Has.new w2 79 #[.string fn,.bool fv,.slice A3 fs.length m3])
  rw [hw3] at kK
  obtain ⟨xK3,yK3⟩:=kK.facts
  have zK3:=kK.lt
  have KK3:=Lib.hid kK
  clear kK
  have HB3:=Lib.hid B3.out.b
  have HWK:=Lib.hid hw3
  clear hw3
  have hrx:(((((((w3.setCell ⟨w1.heap.size,5,none⟩ (.int .i64 (max psince day))).setCell ⟨w1.heap.size,8,none⟩ (.int .i64 0)).setCell ⟨w1.heap.size,9,none⟩ (.int .i64 0)).setCell ⟨w1.heap.size,10,none⟩ (.int .i64 0)).setCell ⟨w1.heap.size,11,none⟩ (.int .i64 0)).setCell ⟨w1.heap.size,12,none⟩ (.int .i64 0)).setCell ⟨w1.heap.size,13,none⟩ (.int .i64 0)).rangeAt w1.heap.size 0 [.string pname,.string pkind,.string pinto,.string pslot,.int .i64 pmade,.int .i64 (max psince day),.bool false,.slice Ap pprops.length mp,.int .i64 0,.int .i64 0,.int .i64 0,.int .i64 0,.int .i64 0,.int .i64 0]:=has_range (((((((KP3.out.put 5 (.int .i64 (max psince day))).put 8 (.int .i64 0)).put 9 (.int .i64 0)).put 10 (.int .i64 0)).put 11 (.int .i64 0)).put 12 (.int .i64 0)).put 13 (.int .i64 0))
  obtain ⟨ra,rb,rc,rd,re⟩:=(((((((B3.out.setCell hgp 5 (.int .i64 (max psince day))).setCell hgp 8 (.int .i64 0)).setCell hgp 9 (.int .i64 0)).setCell hgp 10 (.int .i64 0)).setCell hgp 11 (.int .i64 0)).setCell hgp 12 (.int .i64 0)).setCell hgp 13 (.int .i64 0)).cells
  obtain ⟨rf,rg⟩:=(((((((KP3.out.put 5 (.int .i64 (max psince day))).put 8 (.int .i64 0)).put 9 (.int .i64 0)).put 10 (.int .i64 0)).put 11 (.int .i64 0)).put 12 (.int .i64 0)).put 13 (.int .i64 0)).facts
  go_wp2_with (first | ((with_reducible show wpList _ _ _ (Oper.mk (some 92) _ _ _ _ _ :: _) _ _);rw [HWK.out]) | ((with_reducible show wpList _ _ _ (Oper.mk (some 179) _ _ _ _ _ :: _) _ _);refine wpList_load_mid rfl 47 _ rfl w1.heap.size 0 rfl _ _ hrx Tryz.underlying47 rfl rfl ?_))
  refine (HWI.out wb (Below.refl _ _) pname pkind pinto pslot pmade (max psince day) false pprops Ap mp 0 0 0 0 0 0 _ (HBW.out.trans ((((((((B3.out.setCell hgp 5 (.int .i64 (max psince day))).setCell hgp 8 (.int .i64 0)).setCell hgp 9 (.int .i64 0)).setCell hgp 10 (.int .i64 0)).setCell hgp 11 (.int .i64 0)).setCell hgp 12 (.int .i64 0)).setCell hgp 13 (.int .i64 0)).b.mono hsz0)) HPP.out).mono ?_
  rintro e w9 ⟨v9,rfl,hst9,hb9⟩
  obtain ⟨A9,c9,hv9,_⟩:=Rd.form hst9
  subst hv9
  have BN:=Lib.hid ((((((((B3.out.setCell hgp 5 (.int .i64 (max psince day))).setCell hgp 8 (.int .i64 0)).setCell hgp 9 (.int .i64 0)).setCell hgp 10 (.int .i64 0)).setCell hgp 11 (.int .i64 0)).setCell hgp 12 (.int .i64 0)).setCell hgp 13 (.int .i64 0)).below hb9)
  have HST9:=Lib.hid hst9
  clear hst9 hb9
  obtain ⟨na,nb,nc,nd,ne⟩:=BN.out.cells
  go_wp2_with fail
  obtain ⟨n4,n5⟩:=(BN.out.r.put 0 (.slice A9 (putG Pa.name l (⟨pname,pkind,pinto,pslot,pmade,(max psince day),false,pprops,0,0,0,0,0,0⟩:Pa)).length c9)).facts
  refine bodyPost_ret (v:=.tuple #[.agg #[.slice A9 (putG Pa.name l (⟨pname,pkind,pinto,pslot,pmade,(max psince day),false,pprops,0,0,0,0,0,0⟩:Pa)).length c9],.int .i64 0]) (by simp [results,Tryz.results45,go_sem,n4]) rfl ?_
  rw [show stepL c l _ = (putP l (⟨pname,pkind,pinto,pslot,pmade,(max psince day),false,pprops,0,0,0,0,0,0⟩:Pa),(0:Int)) from (by unfold stepL;simp only [HPF.out];unfold turnL;simp [])]
  have hB:=BN.out.b
  have hz:=BN.out.z
  exact ⟨_,rfl,Sta.far1 HST9.out _ BN.out.r,hB.setCell (by simp;omega) _⟩
end Go.Proofs.YtpikcofbhkbifaaGreat
