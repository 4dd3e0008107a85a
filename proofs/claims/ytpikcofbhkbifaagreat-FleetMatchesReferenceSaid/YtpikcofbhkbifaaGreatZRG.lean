/- bogieref10.Step at fittings. No condition but sizes. -/
import Derived.Test.YtpikcofbhkbifaaGreatZRE
namespace Go.Proofs.YtpikcofbhkbifaaGreat
open Go Go.RowKit
set_option maxRecDepth 100000 in
set_option maxHeartbeats 8000000 in
theorem step_fit_kind (wb:World) (cv sv:Value) (c:List Kd) (l:List Pa) (day:Int) (part kind into slot key value:ByteArray) (ukl ukh ucl uch ull ulh:Int) (w:World) (hb0:Below wb.heap.size wb w) (hcat:Cat wb cv c) (hcl:c.length≤100000) (hks:∀ k∈c,k.short) (hsta:Sta wb sv l) (hvb:validB c l = true) (p h:Pa) (hpf:pfind l part = some p) (hhf:pfind l into = some h) (hgo:p.gone = false) (hgh:h.gone = false) (hbad:(((kfind c p.kind).getD noKd).veh || !takesB c h.kind slot p.kind) = true) :
    Calls Tryz.prog 45 #[.agg #[cv],.agg #[sv],.agg #[.int .i64 2,.int .i64 day,.string part,.string kind,.string into,.string slot,.string key,.string value,.int .i64 ukl,.int .i64 ukh,.int .i64 ucl,.int .i64 uch,.int .i64 ull,.int .i64 ulh]] w fun r w'=>∃ v',r = .returned (.tuple #[.agg #[v'],.int .i64 (stepL c l ⟨2,day,part,kind,into,slot,key,value,ukl,ukh,ucl,uch,ull,ulh⟩).2])∧Sta w' v' (stepL c l ⟨2,day,part,kind,into,slot,key,value,ukl,ukh,ucl,uch,ull,ulh⟩).1∧Below w.heap.size w w':=by
  obtain ⟨A',cc,rfl,hn⟩:=Rd.form hcat
  obtain ⟨A,cs0,rfl,hn0⟩:=Rd.form hsta
  have hl20:=(valid_len hvb)
  have HBW:=Lib.hid hb0
  have hsz0:=hb0.size
  have B0:=Lib.hid (ApB.new w A' c.length cc A l.length cs0 #[.int .i64 2,.int .i64 day,.string part,.string kind,.string into,.string slot,.string key,.string value,.int .i64 ukl,.int .i64 ukh,.int .i64 ucl,.int .i64 uch,.int .i64 ull,.int .i64 ulh])
  have HB0:=Lib.hid B0.out.b
  have HV:=Lib.hid hsta
  have HAT:=Lib.hid (fun x W (h:Below wb.heap.size wb W)=>refAt_any wb _ l x W h hsta (by omega))
  have HF:=Lib.hid (fun x W (h:Below wb.heap.size wb W)=>refFind_any wb _ c x W h hcat hcl)
  have HTK:=Lib.hid (fun x y z W (h:Below wb.heap.size wb W)=>refTakes_any wb _ c x y z W h hcat hcl hks)
  have HHD:=Lib.hid (fun x y W (h:Below wb.heap.size wb W)=>refHeld_any wb _ l x y W h hsta (by omega))
  have HSO:=Lib.hid (sorted_ord.1 (validB_sorted hvb))
  clear hb0 hcat hks
  have HORD:=Lib.hid (fun (x:Pa) (hx:x∈l)=>part_sorted hvb hx)
  have HPM:=Lib.hid (pfind_mem hpf).1
  have HWI:=Lib.hid (fun (W0:World) (h0:Below wb.heap.size wb W0) (pname pkind pinto pslot:ByteArray) (pmade psince:Int) (pgone:Bool) (pprops:List Pr) (Ap:Option Addr) (mp:Nat) (pkl pkh pcl pch pdl pdh:Int) (W:World) (h:Below W0.heap.size W0 W) (hp:Rd 2 PrR W0 (.slice Ap pprops.length mp) pprops)=>with_any W0 _ l pname pkind pinto pslot pmade psince pgone pprops Ap mp pkl pkh pcl pch pdl pdh W h (hsta.below h0) hl20 (sorted_ord.1 (validB_sorted hvb)) hp)
  obtain ⟨kp,hkp,hap,hgp⟩:=atP_yes hpf
  have HAI:=Lib.hid hap
  have HPF:=Lib.hid hpf
  obtain ⟨bp,op0,cp,csp,hep,_,⟨svp,rfl,hsvp⟩,_,hrgp⟩:=Rd.get HV.out hkp noPa
  injection hep with e1 e2 e3
  subst e1;subst e3
  rw [hgp] at hsvp hrgp
  obtain ⟨Ap,mp,rfl,hnp⟩:=Rd.form hsvp
  have HPP:=Lib.hid hsvp
  have HRP0:=Lib.hid hrgp
  have hkpi:(kp:Int) < (l.length:Int):=by omega
  have hkp0:¬ (kp:Int) < 0:=by omega
  clear hap hpf hgp hsvp hrgp
  obtain ⟨pname,pkind,pinto,pslot,pmade,psince,pgone,pprops,pkl,pkh,pcl,pch,pdl,pdh⟩:=p
  have HRP:Hid (wb.rangeAt bp (op0+kp*14) [.string pname,.string pkind,.string pinto,.string pslot,.int .i64 pmade,.int .i64 psince,.bool pgone,.slice Ap pprops.length mp,.int .i64 pkl,.int .i64 pkh,.int .i64 pcl,.int .i64 pch,.int .i64 pdl,.int .i64 pdh]):=HRP0
  clear HRP0
  dsimp only at hnp HPP
  obtain ⟨kh,hkh,hah,hgh⟩:=atP_yes hhf
  have HAJ:=Lib.hid hah
  have HHF:=Lib.hid hhf
  obtain ⟨bh,oh0,ch,csh,heh,_,⟨svh,rfl,hsvh⟩,_,hrgh⟩:=Rd.get HV.out hkh noPa
  injection heh with e1 e2 e3
  injection e1 with e1
  injection e1 with e1 e1'
  subst e1;subst e1';subst e3
  rw [hgh] at hsvh hrgh
  obtain ⟨Ah,mh,rfl,hnh⟩:=Rd.form hsvh
  have HRH0:=Lib.hid hrgh
  have hkhi:(kh:Int) < (l.length:Int):=by omega
  have hkh0:¬ (kh:Int) < 0:=by omega
  clear hah hhf hgh hrgh
  obtain ⟨hname,hkind,hinto,hslot,hmade,hsince,hgone,hprops,hkl,hkh,hcl,hch,hdl,hdh⟩:=h
  have HRH:Hid (wb.rangeAt bp (op0+kh*14) [.string hname,.string hkind,.string hinto,.string hslot,.int .i64 hmade,.int .i64 hsince,.bool hgone,.slice Ah hprops.length mh,.int .i64 hkl,.int .i64 hkh,.int .i64 hcl,.int .i64 hch,.int .i64 hdl,.int .i64 hdh]):=HRH0
  clear HRH0 hsvh
  dsimp only at hnh
  clear hvb hsta
  dsimp only at hbad
  dsimp only at hgo
  subst hgo
  dsimp only at hgh
  subst hgh
  have HFK:=Lib.hid (fun W h=>HF.out pkind W h)
  generalize hfk:(kfind c pkind).getD noKd = fk at HFK hbad
  have HFKE:=Lib.hid hfk
  clear hfk
  generalize (kfind c pkind).isSome = kb at HFK
  obtain ⟨fn,fv,fs⟩:=fk
  dsimp only at HFK hbad
  have HBAD:Hid ((((kfind c pkind).getD noKd).veh || !takesB c hkind slot pkind) = true):=by show _ = true;rw [HFKE.out];exact hbad
  have HTQ:=Lib.hid (HTK.out hkind slot pkind)
  generalize htb:takesB c hkind slot pkind = tb at HTQ
  have HTB:=Lib.hid htb
  clear htb
  rw [show takesB c hkind slot pkind = tb from HTB.out] at hbad
  cases fv
  · obtain rfl:tb = false:=by simpa using hbad
    clear hbad
    go_enter Tryz.func45,Tryz.ntmps45
    go_wp2_with fail
    refine (HAT.out part _ (HBW.out.trans (B0.out.b.mono hsz0))).mono ?_
    rintro e w1 ⟨rfl,hb1⟩
    rw [HAI.out]
    have B1:=Lib.hid (B0.out.below hb1)
    obtain ⟨f1a,f1b,f1c,f1d,f1e⟩:=B1.out.cells
    have fz1:=B1.out.z
    have HB1:=Lib.hid (bon (HB0.out) hb1)
    clear hb1
    go_wp2_with fail
    refine (HAT.out into _ (HBW.out.trans (B1.out.b.mono hsz0))).mono ?_
    rintro e w2 ⟨rfl,hb2⟩
    rw [HAJ.out]
    have B2:=Lib.hid (B1.out.below hb2)
    clear f1a f1b f1c f1d f1e fz1
    obtain ⟨f2a,f2b,f2c,f2d,f2e⟩:=B2.out.cells
    have fz2:=B2.out.z
    have HB2:=Lib.hid (bon (HB1.out) hb2)
    clear hb2
    have hrp:w2.rangeAt bp (op0+kp*14) [.string pname,.string pkind,.string pinto,.string pslot,.int .i64 pmade,.int .i64 psince,.bool false,.slice Ap pprops.length mp,.int .i64 pkl,.int .i64 pkh,.int .i64 pcl,.int .i64 pch,.int .i64 pdl,.int .i64 pdh]:=range_later HRP.out (HBW.out.trans (B2.out.b.mono hsz0))
    obtain ⟨R,hR⟩:∃ R:Array Value,R = #[.string pname,.string pkind,.string pinto,.string pslot,.int .i64 pmade,.int .i64 psince,.bool false,.slice Ap pprops.length mp,.int .i64 pkl,.int .i64 pkh,.int .i64 pcl,.int .i64 pch,.int .i64 pdl,.int .i64 pdh]:=⟨_,rfl⟩
    obtain ⟨Q,hQ⟩:∃ R:Array Value,R = #[.string hname,.string hkind,.string hinto,.string hslot,.int .i64 hmade,.int .i64 hsince,.bool false,.slice Ah hprops.length mh,.int .i64 hkl,.int .i64 hkh,.int .i64 hcl,.int .i64 hch,.int .i64 hdl,.int .i64 hdh]:=⟨_,rfl⟩
    have b1:=B2.out.alloc (.cells R 47)
    have hrh:(w2.alloc (.cells R 47)).rangeAt bp (op0+kh*14) [.string hname,.string hkind,.string hinto,.string hslot,.int .i64 hmade,.int .i64 hsince,.bool false,.slice Ah hprops.length mh,.int .i64 hkl,.int .i64 hkh,.int .i64 hcl,.int .i64 hch,.int .i64 hdl,.int .i64 hdh]:=range_later HRH.out (HBW.out.trans (b1.b.mono hsz0))
    obtain ⟨qa,qb,qc,qd,qe⟩:=b1.cells
    obtain ⟨ra,rb,rc,rd,re⟩:=(b1.alloc (.cells Q 47)).cells
    have kP:=(Has.new w2 47 R).alloc (.cells Q 47)
    have kH:=Has.new (w2.alloc (.cells R 47)) 47 Q
    simp only [World.size_alloc] at kH
    obtain ⟨sa,sb⟩:=kP.facts
    obtain ⟨ta,tb⟩:=kH.facts
    clear kP kH b1
    subst hR
    subst hQ
    go_wp2_with (first | ((with_reducible show wpList _ _ _ (Oper.mk (some 71) _ _ _ _ _ :: _) _ _);refine wpList_load_mid rfl 47 _ rfl bp (op0+kp*14) rfl _ _ hrp Tryz.underlying47 rfl rfl ?_) | ((with_reducible show wpList _ _ _ (Oper.mk (some 76) _ _ _ _ _ :: _) _ _);refine wpList_load_mid rfl 47 _ rfl bp (op0+kh*14) rfl _ _ hrh Tryz.underlying47 rfl rfl ?_))
    clear hrp hrh qa qb qc qd qe ra rb rc rd re sa sb ta tb
    refine (HFK.out _ (HBW.out.trans (((B2.out.alloc _).alloc _).b.mono hsz0))).mono ?_
    rintro e w3 ⟨A3,m3,rfl,_,hb3⟩
    have B3:=Lib.hid (((B2.out.alloc _).alloc _).below hb3)
    clear f2a f2b f2c f2d f2e fz2
    obtain ⟨f3a,f3b,f3c,f3d,f3e⟩:=B3.out.cells
    have fz3:=B3.out.z
    have kP:=((Has.new (w2) 47 _).alloc _).on hb3
    (try simp only [World.size_alloc] at kP)
    obtain ⟨xP3,yP3⟩:=kP.facts
    have zP3:=kP.lt
    have KP3:=Lib.hid kP
    have kH:=(Has.new (_) 47 _).on hb3
    (try simp only [World.size_alloc] at kH)
    obtain ⟨xH3,yH3⟩:=kH.facts
    have zH3:=kH.lt
    have KH3:=Lib.hid kH
    have HB3:=Lib.hid (bon (((HB2.out).alloc (HB2.out).size _).alloc ((HB2.out).alloc (HB2.out).size _).size _) hb3)
    clear hb3 kP kH
    have hgp:w.heap.size+1+1+1 < w2.heap.size:=B2.out.z
    obtain ⟨w4,hw4⟩:∃ W,(w3.alloc (.cells #[.string fn,.bool false,.slice A3 fs.length m3] 79)) = W:=⟨_,rfl⟩
    have qB:=(B3.out.alloc (.cells #[.string fn,.bool false,.slice A3 fs.length m3] 79))
    rw [hw4] at qB
    have B4:=Lib.hid qB
    clear qB f3a f3b f3c f3d f3e fz3
    obtain ⟨f4a,f4b,f4c,f4d,f4e⟩:=B4.out.cells
    have fz4:=B4.out.z
    clear xP3 yP3 xH3 yH3
    have kP:=(KP3.out.alloc (.cells #[.string fn,.bool false,.slice A3 fs.length m3] 79))
    rw [hw4] at kP
    obtain ⟨xP4,yP4⟩:=kP.facts
    have zP4:=kP.lt
    have KP4:=Lib.hid kP
    clear kP
    have kH:=(KH3.out.alloc (.cells #[.string fn,.bool false,.slice A3 fs.length m3] 79))
    rw [hw4] at kH
    obtain ⟨xH4,yH4⟩:=kH.facts
    have zH4:=kH.lt
    have KH4:=Lib.hid kH
    clear kH
    have kK:=(Has.new w3 79 #[.string fn,.bool false,.slice A3 fs.length m3])
    rw [hw4] at kK
    obtain ⟨xK4,yK4⟩:=kK.facts
    have zK4:=kK.lt
    have KK4:=Lib.hid kK
    clear kK
    have HB4:=Lib.hid B4.out.b
    have HWK:=Lib.hid hw4
    clear hw4
    go_wp2_with ((with_reducible show wpList _ _ _ (Oper.mk (some 92) _ _ _ _ _ :: _) _ _);rw [HWK.out])
    refine (HTQ.out _ (HBW.out.trans (B4.out.b.mono hsz0))).mono ?_
    rintro e w5 ⟨rfl,hb5⟩
    have B5:=Lib.hid (B4.out.below hb5)
    clear f4a f4b f4c f4d f4e fz4
    obtain ⟨f5a,f5b,f5c,f5d,f5e⟩:=B5.out.cells
    have fz5:=B5.out.z
    clear xP4 yP4 zP4 xH4 yH4 zH4 xK4 yK4 zK4
    have kP:=(KP4.out).on hb5
    (try simp only [World.size_alloc] at kP)
    obtain ⟨xP5,yP5⟩:=kP.facts
    have zP5:=kP.lt
    have KP5:=Lib.hid kP
    have kH:=(KH4.out).on hb5
    (try simp only [World.size_alloc] at kH)
    obtain ⟨xH5,yH5⟩:=kH.facts
    have zH5:=kH.lt
    have KH5:=Lib.hid kH
    have kK:=(KK4.out).on hb5
    (try simp only [World.size_alloc] at kK)
    obtain ⟨xK5,yK5⟩:=kK.facts
    have zK5:=kK.lt
    have KK5:=Lib.hid kK
    have HB5:=Lib.hid (bon (HB4.out) hb5)
    clear hb5 kP kH kK
    go_wp2_with fail
    obtain ⟨n4,n5⟩:=(B5.out.r.put 0 (.slice none 0 0)).facts
    refine bodyPost_ret (v:=.tuple #[.agg #[.slice none 0 0],.int .i64 4]) (by simp [results,Tryz.results45,go_sem,n4]) rfl ?_
    rw [show stepL c l _ = (([]:List Pa),(4:Int)) from (by unfold stepL;simp only [HPF.out,HHF.out];unfold turnL;have hbb:=HBAD.out;simp only [Bool.false_eq_true,if_false,Bool.or_false,if_true,hbb];simp)]
    have hB:=B5.out.b
    exact ⟨_,rfl,Rd.nil _ _,hB.setCell (by simp;omega) _⟩
  · clear hbad
    go_enter Tryz.func45,Tryz.ntmps45
    go_wp2_with fail
    refine (HAT.out part _ (HBW.out.trans (B0.out.b.mono hsz0))).mono ?_
    rintro e w1 ⟨rfl,hb1⟩
    rw [HAI.out]
    have B1:=Lib.hid (B0.out.below hb1)
    obtain ⟨f1a,f1b,f1c,f1d,f1e⟩:=B1.out.cells
    have fz1:=B1.out.z
    have HB1:=Lib.hid (bon (HB0.out) hb1)
    clear hb1
    go_wp2_with fail
    refine (HAT.out into _ (HBW.out.trans (B1.out.b.mono hsz0))).mono ?_
    rintro e w2 ⟨rfl,hb2⟩
    rw [HAJ.out]
    have B2:=Lib.hid (B1.out.below hb2)
    clear f1a f1b f1c f1d f1e fz1
    obtain ⟨f2a,f2b,f2c,f2d,f2e⟩:=B2.out.cells
    have fz2:=B2.out.z
    have HB2:=Lib.hid (bon (HB1.out) hb2)
    clear hb2
    have hrp:w2.rangeAt bp (op0+kp*14) [.string pname,.string pkind,.string pinto,.string pslot,.int .i64 pmade,.int .i64 psince,.bool false,.slice Ap pprops.length mp,.int .i64 pkl,.int .i64 pkh,.int .i64 pcl,.int .i64 pch,.int .i64 pdl,.int .i64 pdh]:=range_later HRP.out (HBW.out.trans (B2.out.b.mono hsz0))
    obtain ⟨R,hR⟩:∃ R:Array Value,R = #[.string pname,.string pkind,.string pinto,.string pslot,.int .i64 pmade,.int .i64 psince,.bool false,.slice Ap pprops.length mp,.int .i64 pkl,.int .i64 pkh,.int .i64 pcl,.int .i64 pch,.int .i64 pdl,.int .i64 pdh]:=⟨_,rfl⟩
    obtain ⟨Q,hQ⟩:∃ R:Array Value,R = #[.string hname,.string hkind,.string hinto,.string hslot,.int .i64 hmade,.int .i64 hsince,.bool false,.slice Ah hprops.length mh,.int .i64 hkl,.int .i64 hkh,.int .i64 hcl,.int .i64 hch,.int .i64 hdl,.int .i64 hdh]:=⟨_,rfl⟩
    have b1:=B2.out.alloc (.cells R 47)
    have hrh:(w2.alloc (.cells R 47)).rangeAt bp (op0+kh*14) [.string hname,.string hkind,.string hinto,.string hslot,.int .i64 hmade,.int .i64 hsince,.bool false,.slice Ah hprops.length mh,.int .i64 hkl,.int .i64 hkh,.int .i64 hcl,.int .i64 hch,.int .i64 hdl,.int .i64 hdh]:=range_later HRH.out (HBW.out.trans (b1.b.mono hsz0))
    obtain ⟨qa,qb,qc,qd,qe⟩:=b1.cells
    obtain ⟨ra,rb,rc,rd,re⟩:=(b1.alloc (.cells Q 47)).cells
    have kP:=(Has.new w2 47 R).alloc (.cells Q 47)
    have kH:=Has.new (w2.alloc (.cells R 47)) 47 Q
    simp only [World.size_alloc] at kH
    obtain ⟨sa,sb⟩:=kP.facts
    obtain ⟨ta,tb⟩:=kH.facts
    clear kP kH b1
    subst hR
    subst hQ
    go_wp2_with (first | ((with_reducible show wpList _ _ _ (Oper.mk (some 71) _ _ _ _ _ :: _) _ _);refine wpList_load_mid rfl 47 _ rfl bp (op0+kp*14) rfl _ _ hrp Tryz.underlying47 rfl rfl ?_) | ((with_reducible show wpList _ _ _ (Oper.mk (some 76) _ _ _ _ _ :: _) _ _);refine wpList_load_mid rfl 47 _ rfl bp (op0+kh*14) rfl _ _ hrh Tryz.underlying47 rfl rfl ?_))
    clear hrp hrh qa qb qc qd qe ra rb rc rd re sa sb ta tb
    refine (HFK.out _ (HBW.out.trans (((B2.out.alloc _).alloc _).b.mono hsz0))).mono ?_
    rintro e w3 ⟨A3,m3,rfl,_,hb3⟩
    have B3:=Lib.hid (((B2.out.alloc _).alloc _).below hb3)
    clear f2a f2b f2c f2d f2e fz2
    obtain ⟨f3a,f3b,f3c,f3d,f3e⟩:=B3.out.cells
    have fz3:=B3.out.z
    have kP:=((Has.new (w2) 47 _).alloc _).on hb3
    (try simp only [World.size_alloc] at kP)
    obtain ⟨xP3,yP3⟩:=kP.facts
    have zP3:=kP.lt
    have KP3:=Lib.hid kP
    have kH:=(Has.new (_) 47 _).on hb3
    (try simp only [World.size_alloc] at kH)
    obtain ⟨xH3,yH3⟩:=kH.facts
    have zH3:=kH.lt
    have KH3:=Lib.hid kH
    have HB3:=Lib.hid (bon (((HB2.out).alloc (HB2.out).size _).alloc ((HB2.out).alloc (HB2.out).size _).size _) hb3)
    clear hb3 kP kH
    have hgp:w.heap.size+1+1+1 < w2.heap.size:=B2.out.z
    obtain ⟨w4,hw4⟩:∃ W,(w3.alloc (.cells #[.string fn,.bool true,.slice A3 fs.length m3] 79)) = W:=⟨_,rfl⟩
    have qB:=(B3.out.alloc (.cells #[.string fn,.bool true,.slice A3 fs.length m3] 79))
    rw [hw4] at qB
    have B4:=Lib.hid qB
    clear qB f3a f3b f3c f3d f3e fz3
    obtain ⟨f4a,f4b,f4c,f4d,f4e⟩:=B4.out.cells
    have fz4:=B4.out.z
    clear xP3 yP3 xH3 yH3
    have kP:=(KP3.out.alloc (.cells #[.string fn,.bool true,.slice A3 fs.length m3] 79))
    rw [hw4] at kP
    obtain ⟨xP4,yP4⟩:=kP.facts
    have zP4:=kP.lt
    have KP4:=Lib.hid kP
    clear kP
    have kH:=(KH3.out.alloc (.cells #[.string fn,.bool true,.slice A3 fs.length m3] 79))
    rw [hw4] at kH
    obtain ⟨xH4,yH4⟩:=kH.facts
    have zH4:=kH.lt
    have KH4:=Lib.hid kH
    clear kH
    have kK:=(Has.new w3 79 #[.string fn,.bool true,.slice A3 fs.length m3])
    rw [hw4] at kK
    obtain ⟨xK4,yK4⟩:=kK.facts
    have zK4:=kK.lt
    have KK4:=Lib.hid kK
    clear kK
    have HB4:=Lib.hid B4.out.b
    have HWK:=Lib.hid hw4
    clear hw4
    go_wp2_with ((with_reducible show wpList _ _ _ (Oper.mk (some 92) _ _ _ _ _ :: _) _ _);rw [HWK.out])
    obtain ⟨n4,n5⟩:=(B4.out.r.put 0 (.slice none 0 0)).facts
    refine bodyPost_ret (v:=.tuple #[.agg #[.slice none 0 0],.int .i64 4]) (by simp [results,Tryz.results45,go_sem,n4]) rfl ?_
    rw [show stepL c l _ = (([]:List Pa),(4:Int)) from (by unfold stepL;simp only [HPF.out,HHF.out];unfold turnL;have hbb:=HBAD.out;simp only [Bool.false_eq_true,if_false,Bool.or_false,if_true,hbb];simp)]
    have hB:=B4.out.b
    exact ⟨_,rfl,Rd.nil _ _,hB.setCell (by simp;omega) _⟩
set_option maxRecDepth 100000 in
set_option maxHeartbeats 8000000 in
theorem step_fit_in (wb:World) (cv sv:Value) (c:List Kd) (l:List Pa) (day:Int) (part kind into slot key value:ByteArray) (ukl ukh ucl uch ull ulh:Int) (w:World) (hb0:Below wb.heap.size wb w) (hcat:Cat wb cv c) (hcl:c.length≤100000) (hks:∀ k∈c,k.short) (hsta:Sta wb sv l) (hvb:validB c l = true) (p h:Pa) (hpf:pfind l part = some p) (hhf:pfind l into = some h) (hgo:p.gone = false) (hgh:h.gone = false) (hvh:((kfind c p.kind).getD noKd).veh = false) (htk:takesB c h.kind slot p.kind = true) (hin:p.into ≠ eS) :
    Calls Tryz.prog 45 #[.agg #[cv],.agg #[sv],.agg #[.int .i64 2,.int .i64 day,.string part,.string kind,.string into,.string slot,.string key,.string value,.int .i64 ukl,.int .i64 ukh,.int .i64 ucl,.int .i64 uch,.int .i64 ull,.int .i64 ulh]] w fun r w'=>∃ v',r = .returned (.tuple #[.agg #[v'],.int .i64 (stepL c l ⟨2,day,part,kind,into,slot,key,value,ukl,ukh,ucl,uch,ull,ulh⟩).2])∧Sta w' v' (stepL c l ⟨2,day,part,kind,into,slot,key,value,ukl,ukh,ucl,uch,ull,ulh⟩).1∧Below w.heap.size w w':=by
  obtain ⟨A',cc,rfl,hn⟩:=Rd.form hcat
  obtain ⟨A,cs0,rfl,hn0⟩:=Rd.form hsta
  have hl20:=(valid_len hvb)
  have HBW:=Lib.hid hb0
  have hsz0:=hb0.size
  have B0:=Lib.hid (ApB.new w A' c.length cc A l.length cs0 #[.int .i64 2,.int .i64 day,.string part,.string kind,.string into,.string slot,.string key,.string value,.int .i64 ukl,.int .i64 ukh,.int .i64 ucl,.int .i64 uch,.int .i64 ull,.int .i64 ulh])
  have HB0:=Lib.hid B0.out.b
  have HV:=Lib.hid hsta
  have HAT:=Lib.hid (fun x W (h:Below wb.heap.size wb W)=>refAt_any wb _ l x W h hsta (by omega))
  have HF:=Lib.hid (fun x W (h:Below wb.heap.size wb W)=>refFind_any wb _ c x W h hcat hcl)
  have HTK:=Lib.hid (fun x y z W (h:Below wb.heap.size wb W)=>refTakes_any wb _ c x y z W h hcat hcl hks)
  have HHD:=Lib.hid (fun x y W (h:Below wb.heap.size wb W)=>refHeld_any wb _ l x y W h hsta (by omega))
  have HSO:=Lib.hid (sorted_ord.1 (validB_sorted hvb))
  clear hb0 hcat hks
  have HORD:=Lib.hid (fun (x:Pa) (hx:x∈l)=>part_sorted hvb hx)
  have HPM:=Lib.hid (pfind_mem hpf).1
  have HWI:=Lib.hid (fun (W0:World) (h0:Below wb.heap.size wb W0) (pname pkind pinto pslot:ByteArray) (pmade psince:Int) (pgone:Bool) (pprops:List Pr) (Ap:Option Addr) (mp:Nat) (pkl pkh pcl pch pdl pdh:Int) (W:World) (h:Below W0.heap.size W0 W) (hp:Rd 2 PrR W0 (.slice Ap pprops.length mp) pprops)=>with_any W0 _ l pname pkind pinto pslot pmade psince pgone pprops Ap mp pkl pkh pcl pch pdl pdh W h (hsta.below h0) hl20 (sorted_ord.1 (validB_sorted hvb)) hp)
  obtain ⟨kp,hkp,hap,hgp⟩:=atP_yes hpf
  have HAI:=Lib.hid hap
  have HPF:=Lib.hid hpf
  obtain ⟨bp,op0,cp,csp,hep,_,⟨svp,rfl,hsvp⟩,_,hrgp⟩:=Rd.get HV.out hkp noPa
  injection hep with e1 e2 e3
  subst e1;subst e3
  rw [hgp] at hsvp hrgp
  obtain ⟨Ap,mp,rfl,hnp⟩:=Rd.form hsvp
  have HPP:=Lib.hid hsvp
  have HRP0:=Lib.hid hrgp
  have hkpi:(kp:Int) < (l.length:Int):=by omega
  have hkp0:¬ (kp:Int) < 0:=by omega
  clear hap hpf hgp hsvp hrgp
  obtain ⟨pname,pkind,pinto,pslot,pmade,psince,pgone,pprops,pkl,pkh,pcl,pch,pdl,pdh⟩:=p
  have HRP:Hid (wb.rangeAt bp (op0+kp*14) [.string pname,.string pkind,.string pinto,.string pslot,.int .i64 pmade,.int .i64 psince,.bool pgone,.slice Ap pprops.length mp,.int .i64 pkl,.int .i64 pkh,.int .i64 pcl,.int .i64 pch,.int .i64 pdl,.int .i64 pdh]):=HRP0
  clear HRP0
  dsimp only at hnp HPP
  obtain ⟨kh,hkh,hah,hgh⟩:=atP_yes hhf
  have HAJ:=Lib.hid hah
  have HHF:=Lib.hid hhf
  obtain ⟨bh,oh0,ch,csh,heh,_,⟨svh,rfl,hsvh⟩,_,hrgh⟩:=Rd.get HV.out hkh noPa
  injection heh with e1 e2 e3
  injection e1 with e1
  injection e1 with e1 e1'
  subst e1;subst e1';subst e3
  rw [hgh] at hsvh hrgh
  obtain ⟨Ah,mh,rfl,hnh⟩:=Rd.form hsvh
  have HRH0:=Lib.hid hrgh
  have hkhi:(kh:Int) < (l.length:Int):=by omega
  have hkh0:¬ (kh:Int) < 0:=by omega
  clear hah hhf hgh hrgh
  obtain ⟨hname,hkind,hinto,hslot,hmade,hsince,hgone,hprops,hkl,hkh,hcl,hch,hdl,hdh⟩:=h
  have HRH:Hid (wb.rangeAt bp (op0+kh*14) [.string hname,.string hkind,.string hinto,.string hslot,.int .i64 hmade,.int .i64 hsince,.bool hgone,.slice Ah hprops.length mh,.int .i64 hkl,.int .i64 hkh,.int .i64 hcl,.int .i64 hch,.int .i64 hdl,.int .i64 hdh]):=HRH0
  clear HRH0 hsvh
  dsimp only at hnh
  clear hvb hsta
  dsimp only at hvh htk hin
  have HVH:=Lib.hid hvh
  have HTT:=Lib.hid htk
  dsimp only at hgo
  subst hgo
  dsimp only at hgh
  subst hgh
  have HFK:=Lib.hid (fun W h=>HF.out pkind W h)
  generalize hfk:(kfind c pkind).getD noKd = fk at HFK hvh
  have HFKE:=Lib.hid hfk
  clear hfk
  generalize (kfind c pkind).isSome = kb at HFK
  obtain ⟨fn,fv,fs⟩:=fk
  dsimp only at HFK hvh
  subst hvh
  have HTQ:=Lib.hid (HTK.out hkind slot pkind)
  rw [htk] at HTQ
  clear htk
  have hie:=emp_iff pinto
  cases hi:pinto.toList.isEmpty
  · skip
    have HI:Hid (¬ pinto = eS):=fun e=>by rw [hi,decide_eq_true e] at hie;cases hie
    clear hie
    clear hin
    go_enter Tryz.func45,Tryz.ntmps45
    go_wp2_with fail
    refine (HAT.out part _ (HBW.out.trans (B0.out.b.mono hsz0))).mono ?_
    rintro e w1 ⟨rfl,hb1⟩
    rw [HAI.out]
    have B1:=Lib.hid (B0.out.below hb1)
    obtain ⟨f1a,f1b,f1c,f1d,f1e⟩:=B1.out.cells
    have fz1:=B1.out.z
    have HB1:=Lib.hid (bon (HB0.out) hb1)
    clear hb1
    go_wp2_with fail
    refine (HAT.out into _ (HBW.out.trans (B1.out.b.mono hsz0))).mono ?_
    rintro e w2 ⟨rfl,hb2⟩
    rw [HAJ.out]
    have B2:=Lib.hid (B1.out.below hb2)
    clear f1a f1b f1c f1d f1e fz1
    obtain ⟨f2a,f2b,f2c,f2d,f2e⟩:=B2.out.cells
    have fz2:=B2.out.z
    have HB2:=Lib.hid (bon (HB1.out) hb2)
    clear hb2
    have hrp:w2.rangeAt bp (op0+kp*14) [.string pname,.string pkind,.string pinto,.string pslot,.int .i64 pmade,.int .i64 psince,.bool false,.slice Ap pprops.length mp,.int .i64 pkl,.int .i64 pkh,.int .i64 pcl,.int .i64 pch,.int .i64 pdl,.int .i64 pdh]:=range_later HRP.out (HBW.out.trans (B2.out.b.mono hsz0))
    obtain ⟨R,hR⟩:∃ R:Array Value,R = #[.string pname,.string pkind,.string pinto,.string pslot,.int .i64 pmade,.int .i64 psince,.bool false,.slice Ap pprops.length mp,.int .i64 pkl,.int .i64 pkh,.int .i64 pcl,.int .i64 pch,.int .i64 pdl,.int .i64 pdh]:=⟨_,rfl⟩
    obtain ⟨Q,hQ⟩:∃ R:Array Value,R = #[.string hname,.string hkind,.string hinto,.string hslot,.int .i64 hmade,.int .i64 hsince,.bool false,.slice Ah hprops.length mh,.int .i64 hkl,.int .i64 hkh,.int .i64 hcl,.int .i64 hch,.int .i64 hdl,.int .i64 hdh]:=⟨_,rfl⟩
    have b1:=B2.out.alloc (.cells R 47)
    have hrh:(w2.alloc (.cells R 47)).rangeAt bp (op0+kh*14) [.string hname,.string hkind,.string hinto,.string hslot,.int .i64 hmade,.int .i64 hsince,.bool false,.slice Ah hprops.length mh,.int .i64 hkl,.int .i64 hkh,.int .i64 hcl,.int .i64 hch,.int .i64 hdl,.int .i64 hdh]:=range_later HRH.out (HBW.out.trans (b1.b.mono hsz0))
    obtain ⟨qa,qb,qc,qd,qe⟩:=b1.cells
    obtain ⟨ra,rb,rc,rd,re⟩:=(b1.alloc (.cells Q 47)).cells
    have kP:=(Has.new w2 47 R).alloc (.cells Q 47)
    have kH:=Has.new (w2.alloc (.cells R 47)) 47 Q
    simp only [World.size_alloc] at kH
    obtain ⟨sa,sb⟩:=kP.facts
    obtain ⟨ta,tb⟩:=kH.facts
    clear kP kH b1
    subst hR
    subst hQ
    go_wp2_with (first | ((with_reducible show wpList _ _ _ (Oper.mk (some 71) _ _ _ _ _ :: _) _ _);refine wpList_load_mid rfl 47 _ rfl bp (op0+kp*14) rfl _ _ hrp Tryz.underlying47 rfl rfl ?_) | ((with_reducible show wpList _ _ _ (Oper.mk (some 76) _ _ _ _ _ :: _) _ _);refine wpList_load_mid rfl 47 _ rfl bp (op0+kh*14) rfl _ _ hrh Tryz.underlying47 rfl rfl ?_))
    clear hrp hrh qa qb qc qd qe ra rb rc rd re sa sb ta tb
    refine (HFK.out _ (HBW.out.trans (((B2.out.alloc _).alloc _).b.mono hsz0))).mono ?_
    rintro e w3 ⟨A3,m3,rfl,_,hb3⟩
    have B3:=Lib.hid (((B2.out.alloc _).alloc _).below hb3)
    clear f2a f2b f2c f2d f2e fz2
    obtain ⟨f3a,f3b,f3c,f3d,f3e⟩:=B3.out.cells
    have fz3:=B3.out.z
    have kP:=((Has.new (w2) 47 _).alloc _).on hb3
    (try simp only [World.size_alloc] at kP)
    obtain ⟨xP3,yP3⟩:=kP.facts
    have zP3:=kP.lt
    have KP3:=Lib.hid kP
    have kH:=(Has.new (_) 47 _).on hb3
    (try simp only [World.size_alloc] at kH)
    obtain ⟨xH3,yH3⟩:=kH.facts
    have zH3:=kH.lt
    have KH3:=Lib.hid kH
    have HB3:=Lib.hid (bon (((HB2.out).alloc (HB2.out).size _).alloc ((HB2.out).alloc (HB2.out).size _).size _) hb3)
    clear hb3 kP kH
    have hgp:w.heap.size+1+1+1 < w2.heap.size:=B2.out.z
    obtain ⟨w4,hw4⟩:∃ W,(w3.alloc (.cells #[.string fn,.bool false,.slice A3 fs.length m3] 79)) = W:=⟨_,rfl⟩
    have qB:=(B3.out.alloc (.cells #[.string fn,.bool false,.slice A3 fs.length m3] 79))
    rw [hw4] at qB
    have B4:=Lib.hid qB
    clear qB f3a f3b f3c f3d f3e fz3
    obtain ⟨f4a,f4b,f4c,f4d,f4e⟩:=B4.out.cells
    have fz4:=B4.out.z
    clear xP3 yP3 xH3 yH3
    have kP:=(KP3.out.alloc (.cells #[.string fn,.bool false,.slice A3 fs.length m3] 79))
    rw [hw4] at kP
    obtain ⟨xP4,yP4⟩:=kP.facts
    have zP4:=kP.lt
    have KP4:=Lib.hid kP
    clear kP
    have kH:=(KH3.out.alloc (.cells #[.string fn,.bool false,.slice A3 fs.length m3] 79))
    rw [hw4] at kH
    obtain ⟨xH4,yH4⟩:=kH.facts
    have zH4:=kH.lt
    have KH4:=Lib.hid kH
    clear kH
    have kK:=(Has.new w3 79 #[.string fn,.bool false,.slice A3 fs.length m3])
    rw [hw4] at kK
    obtain ⟨xK4,yK4⟩:=kK.facts
    have zK4:=kK.lt
    have KK4:=Lib.hid kK
    clear kK
    have HB4:=Lib.hid B4.out.b
    have HWK:=Lib.hid hw4
    clear hw4
    go_wp2_with ((with_reducible show wpList _ _ _ (Oper.mk (some 92) _ _ _ _ _ :: _) _ _);rw [HWK.out])
    refine (HTQ.out _ (HBW.out.trans (B4.out.b.mono hsz0))).mono ?_
    rintro e w5 ⟨rfl,hb5⟩
    have B5:=Lib.hid (B4.out.below hb5)
    clear f4a f4b f4c f4d f4e fz4
    obtain ⟨f5a,f5b,f5c,f5d,f5e⟩:=B5.out.cells
    have fz5:=B5.out.z
    clear xP4 yP4 zP4 xH4 yH4 zH4 xK4 yK4 zK4
    have kP:=(KP4.out).on hb5
    (try simp only [World.size_alloc] at kP)
    obtain ⟨xP5,yP5⟩:=kP.facts
    have zP5:=kP.lt
    have KP5:=Lib.hid kP
    have kH:=(KH4.out).on hb5
    (try simp only [World.size_alloc] at kH)
    obtain ⟨xH5,yH5⟩:=kH.facts
    have zH5:=kH.lt
    have KH5:=Lib.hid kH
    have kK:=(KK4.out).on hb5
    (try simp only [World.size_alloc] at kK)
    obtain ⟨xK5,yK5⟩:=kK.facts
    have zK5:=kK.lt
    have KK5:=Lib.hid kK
    have HB5:=Lib.hid (bon (HB4.out) hb5)
    clear hb5 kP kH kK
    go_wp2_with fail
    obtain ⟨n4,n5⟩:=(B5.out.r.put 0 (.slice none 0 0)).facts
    refine bodyPost_ret (v:=.tuple #[.agg #[.slice none 0 0],.int .i64 5]) (by simp [results,Tryz.results45,go_sem,n4]) rfl ?_
    rw [show stepL c l _ = (([]:List Pa),(5:Int)) from (by unfold stepL;simp only [HPF.out,HHF.out];unfold turnL;simp [HVH.out,HTT.out,show ¬ pinto = (⟨#[]⟩:ByteArray) from HI.out,eS])]
    have hB:=B5.out.b
    exact ⟨_,rfl,Rd.nil _ _,hB.setCell (by simp;omega) _⟩
  · exact absurd (by rw [hi] at hie;exact of_decide_eq_true hie.symm) hin
set_option maxRecDepth 100000 in
set_option maxHeartbeats 8000000 in
theorem step_fit_ok (wb:World) (cv sv:Value) (c:List Kd) (l:List Pa) (day:Int) (part kind into slot key value:ByteArray) (ukl ukh ucl uch ull ulh:Int) (w:World) (hb0:Below wb.heap.size wb w) (hcat:Cat wb cv c) (hcl:c.length≤100000) (hks:∀ k∈c,k.short) (hsta:Sta wb sv l) (hvb:validB c l = true) (p h:Pa) (hpf:pfind l part = some p) (hhf:pfind l into = some h) (hgo:p.gone = false) (hgh:h.gone = false) (hvh:((kfind c p.kind).getD noKd).veh = false) (htk:takesB c h.kind slot p.kind = true) (hin:p.into = eS) (hse:slot ≠ eS) :
    Calls Tryz.prog 45 #[.agg #[cv],.agg #[sv],.agg #[.int .i64 2,.int .i64 day,.string part,.string kind,.string into,.string slot,.string key,.string value,.int .i64 ukl,.int .i64 ukh,.int .i64 ucl,.int .i64 uch,.int .i64 ull,.int .i64 ulh]] w fun r w'=>∃ v',r = .returned (.tuple #[.agg #[v'],.int .i64 (stepL c l ⟨2,day,part,kind,into,slot,key,value,ukl,ukh,ucl,uch,ull,ulh⟩).2])∧Sta w' v' (stepL c l ⟨2,day,part,kind,into,slot,key,value,ukl,ukh,ucl,uch,ull,ulh⟩).1∧Below w.heap.size w w':=by
  obtain ⟨A',cc,rfl,hn⟩:=Rd.form hcat
  obtain ⟨A,cs0,rfl,hn0⟩:=Rd.form hsta
  have hl20:=(valid_len hvb)
  have HBW:=Lib.hid hb0
  have hsz0:=hb0.size
  have B0:=Lib.hid (ApB.new w A' c.length cc A l.length cs0 #[.int .i64 2,.int .i64 day,.string part,.string kind,.string into,.string slot,.string key,.string value,.int .i64 ukl,.int .i64 ukh,.int .i64 ucl,.int .i64 uch,.int .i64 ull,.int .i64 ulh])
  have HB0:=Lib.hid B0.out.b
  have HV:=Lib.hid hsta
  have HAT:=Lib.hid (fun x W (h:Below wb.heap.size wb W)=>refAt_any wb _ l x W h hsta (by omega))
  have HF:=Lib.hid (fun x W (h:Below wb.heap.size wb W)=>refFind_any wb _ c x W h hcat hcl)
  have HTK:=Lib.hid (fun x y z W (h:Below wb.heap.size wb W)=>refTakes_any wb _ c x y z W h hcat hcl hks)
  have HHD:=Lib.hid (fun x y W (h:Below wb.heap.size wb W)=>refHeld_any wb _ l x y W h hsta (by omega))
  have HSO:=Lib.hid (sorted_ord.1 (validB_sorted hvb))
  clear hb0 hcat hks
  have HORD:=Lib.hid (fun (x:Pa) (hx:x∈l)=>part_sorted hvb hx)
  have HPM:=Lib.hid (pfind_mem hpf).1
  have HWI:=Lib.hid (fun (W0:World) (h0:Below wb.heap.size wb W0) (pname pkind pinto pslot:ByteArray) (pmade psince:Int) (pgone:Bool) (pprops:List Pr) (Ap:Option Addr) (mp:Nat) (pkl pkh pcl pch pdl pdh:Int) (W:World) (h:Below W0.heap.size W0 W) (hp:Rd 2 PrR W0 (.slice Ap pprops.length mp) pprops)=>with_any W0 _ l pname pkind pinto pslot pmade psince pgone pprops Ap mp pkl pkh pcl pch pdl pdh W h (hsta.below h0) hl20 (sorted_ord.1 (validB_sorted hvb)) hp)
  obtain ⟨kp,hkp,hap,hgp⟩:=atP_yes hpf
  have HAI:=Lib.hid hap
  have HPF:=Lib.hid hpf
  obtain ⟨bp,op0,cp,csp,hep,_,⟨svp,rfl,hsvp⟩,_,hrgp⟩:=Rd.get HV.out hkp noPa
  injection hep with e1 e2 e3
  subst e1;subst e3
  rw [hgp] at hsvp hrgp
  obtain ⟨Ap,mp,rfl,hnp⟩:=Rd.form hsvp
  have HPP:=Lib.hid hsvp
  have HRP0:=Lib.hid hrgp
  have hkpi:(kp:Int) < (l.length:Int):=by omega
  have hkp0:¬ (kp:Int) < 0:=by omega
  clear hap hpf hgp hsvp hrgp
  obtain ⟨pname,pkind,pinto,pslot,pmade,psince,pgone,pprops,pkl,pkh,pcl,pch,pdl,pdh⟩:=p
  have HRP:Hid (wb.rangeAt bp (op0+kp*14) [.string pname,.string pkind,.string pinto,.string pslot,.int .i64 pmade,.int .i64 psince,.bool pgone,.slice Ap pprops.length mp,.int .i64 pkl,.int .i64 pkh,.int .i64 pcl,.int .i64 pch,.int .i64 pdl,.int .i64 pdh]):=HRP0
  clear HRP0
  dsimp only at hnp HPP
  obtain ⟨kh,hkh,hah,hgh⟩:=atP_yes hhf
  have HAJ:=Lib.hid hah
  have HHF:=Lib.hid hhf
  obtain ⟨bh,oh0,ch,csh,heh,_,⟨svh,rfl,hsvh⟩,_,hrgh⟩:=Rd.get HV.out hkh noPa
  injection heh with e1 e2 e3
  injection e1 with e1
  injection e1 with e1 e1'
  subst e1;subst e1';subst e3
  rw [hgh] at hsvh hrgh
  obtain ⟨Ah,mh,rfl,hnh⟩:=Rd.form hsvh
  have HRH0:=Lib.hid hrgh
  have hkhi:(kh:Int) < (l.length:Int):=by omega
  have hkh0:¬ (kh:Int) < 0:=by omega
  clear hah hhf hgh hrgh
  obtain ⟨hname,hkind,hinto,hslot,hmade,hsince,hgone,hprops,hkl,hkh,hcl,hch,hdl,hdh⟩:=h
  have HRH:Hid (wb.rangeAt bp (op0+kh*14) [.string hname,.string hkind,.string hinto,.string hslot,.int .i64 hmade,.int .i64 hsince,.bool hgone,.slice Ah hprops.length mh,.int .i64 hkl,.int .i64 hkh,.int .i64 hcl,.int .i64 hch,.int .i64 hdl,.int .i64 hdh]):=HRH0
  clear HRH0 hsvh
  dsimp only at hnh
  clear hvb hsta
  dsimp only at hvh htk hin
  have HVH:=Lib.hid hvh
  have HTT:=Lib.hid htk
  dsimp only at hgo
  subst hgo
  dsimp only at hgh
  subst hgh
  have HFK:=Lib.hid (fun W h=>HF.out pkind W h)
  generalize hfk:(kfind c pkind).getD noKd = fk at HFK hvh
  have HFKE:=Lib.hid hfk
  clear hfk
  generalize (kfind c pkind).isSome = kb at HFK
  obtain ⟨fn,fv,fs⟩:=fk
  dsimp only at HFK hvh
  subst hvh
  have HTQ:=Lib.hid (HTK.out hkind slot pkind)
  rw [htk] at HTQ
  clear htk
  have hie:=emp_iff pinto
  cases hi:pinto.toList.isEmpty
  · exact absurd hin (fun e=>by rw [hi,decide_eq_true e] at hie;cases hie)
  · skip
    have HI:Hid (pinto = eS):=by show pinto = eS;rw [hi] at hie;exact of_decide_eq_true hie.symm
    clear hie
    clear hin
    have hhe:=heldB_slot (l:=l) (into:=into) hse
    cases hhd:heldAt l into slot
    · have HHE:Hid (heldB l into slot = false):=by show heldB l into slot = false;rw [←hhd, ← hhe]
      have HHD2:=Lib.hid hhd
      clear hhd hhe
      go_enter Tryz.func45,Tryz.ntmps45
      go_wp2_with fail
      refine (HAT.out part _ (HBW.out.trans (B0.out.b.mono hsz0))).mono ?_
      rintro e w1 ⟨rfl,hb1⟩
      rw [HAI.out]
      have B1:=Lib.hid (B0.out.below hb1)
      obtain ⟨f1a,f1b,f1c,f1d,f1e⟩:=B1.out.cells
      have fz1:=B1.out.z
      have HB1:=Lib.hid (bon (HB0.out) hb1)
      clear hb1
      go_wp2_with fail
      refine (HAT.out into _ (HBW.out.trans (B1.out.b.mono hsz0))).mono ?_
      rintro e w2 ⟨rfl,hb2⟩
      rw [HAJ.out]
      have B2:=Lib.hid (B1.out.below hb2)
      clear f1a f1b f1c f1d f1e fz1
      obtain ⟨f2a,f2b,f2c,f2d,f2e⟩:=B2.out.cells
      have fz2:=B2.out.z
      have HB2:=Lib.hid (bon (HB1.out) hb2)
      clear hb2
      have hrp:w2.rangeAt bp (op0+kp*14) [.string pname,.string pkind,.string pinto,.string pslot,.int .i64 pmade,.int .i64 psince,.bool false,.slice Ap pprops.length mp,.int .i64 pkl,.int .i64 pkh,.int .i64 pcl,.int .i64 pch,.int .i64 pdl,.int .i64 pdh]:=range_later HRP.out (HBW.out.trans (B2.out.b.mono hsz0))
      obtain ⟨R,hR⟩:∃ R:Array Value,R = #[.string pname,.string pkind,.string pinto,.string pslot,.int .i64 pmade,.int .i64 psince,.bool false,.slice Ap pprops.length mp,.int .i64 pkl,.int .i64 pkh,.int .i64 pcl,.int .i64 pch,.int .i64 pdl,.int .i64 pdh]:=⟨_,rfl⟩
      obtain ⟨Q,hQ⟩:∃ R:Array Value,R = #[.string hname,.string hkind,.string hinto,.string hslot,.int .i64 hmade,.int .i64 hsince,.bool false,.slice Ah hprops.length mh,.int .i64 hkl,.int .i64 hkh,.int .i64 hcl,.int .i64 hch,.int .i64 hdl,.int .i64 hdh]:=⟨_,rfl⟩
      have b1:=B2.out.alloc (.cells R 47)
      have hrh:(w2.alloc (.cells R 47)).rangeAt bp (op0+kh*14) [.string hname,.string hkind,.string hinto,.string hslot,.int .i64 hmade,.int .i64 hsince,.bool false,.slice Ah hprops.length mh,.int .i64 hkl,.int .i64 hkh,.int .i64 hcl,.int .i64 hch,.int .i64 hdl,.int .i64 hdh]:=range_later HRH.out (HBW.out.trans (b1.b.mono hsz0))
      obtain ⟨qa,qb,qc,qd,qe⟩:=b1.cells
      obtain ⟨ra,rb,rc,rd,re⟩:=(b1.alloc (.cells Q 47)).cells
      have kP:=(Has.new w2 47 R).alloc (.cells Q 47)
      have kH:=Has.new (w2.alloc (.cells R 47)) 47 Q
      simp only [World.size_alloc] at kH
      obtain ⟨sa,sb⟩:=kP.facts
      obtain ⟨ta,tb⟩:=kH.facts
      clear kP kH b1
      subst hR
      subst hQ
      go_wp2_with (first | ((with_reducible show wpList _ _ _ (Oper.mk (some 71) _ _ _ _ _ :: _) _ _);refine wpList_load_mid rfl 47 _ rfl bp (op0+kp*14) rfl _ _ hrp Tryz.underlying47 rfl rfl ?_) | ((with_reducible show wpList _ _ _ (Oper.mk (some 76) _ _ _ _ _ :: _) _ _);refine wpList_load_mid rfl 47 _ rfl bp (op0+kh*14) rfl _ _ hrh Tryz.underlying47 rfl rfl ?_))
      clear hrp hrh qa qb qc qd qe ra rb rc rd re sa sb ta tb
      refine (HFK.out _ (HBW.out.trans (((B2.out.alloc _).alloc _).b.mono hsz0))).mono ?_
      rintro e w3 ⟨A3,m3,rfl,_,hb3⟩
      have B3:=Lib.hid (((B2.out.alloc _).alloc _).below hb3)
      clear f2a f2b f2c f2d f2e fz2
      obtain ⟨f3a,f3b,f3c,f3d,f3e⟩:=B3.out.cells
      have fz3:=B3.out.z
      have kP:=((Has.new (w2) 47 _).alloc _).on hb3
      (try simp only [World.size_alloc] at kP)
      obtain ⟨xP3,yP3⟩:=kP.facts
      have zP3:=kP.lt
      have KP3:=Lib.hid kP
      have kH:=(Has.new (_) 47 _).on hb3
      (try simp only [World.size_alloc] at kH)
      obtain ⟨xH3,yH3⟩:=kH.facts
      have zH3:=kH.lt
      have KH3:=Lib.hid kH
      have HB3:=Lib.hid (bon (((HB2.out).alloc (HB2.out).size _).alloc ((HB2.out).alloc (HB2.out).size _).size _) hb3)
      clear hb3 kP kH
      have hgp:w.heap.size+1+1+1 < w2.heap.size:=B2.out.z
      obtain ⟨w4,hw4⟩:∃ W,(w3.alloc (.cells #[.string fn,.bool false,.slice A3 fs.length m3] 79)) = W:=⟨_,rfl⟩
      have qB:=(B3.out.alloc (.cells #[.string fn,.bool false,.slice A3 fs.length m3] 79))
      rw [hw4] at qB
      have B4:=Lib.hid qB
      clear qB f3a f3b f3c f3d f3e fz3
      obtain ⟨f4a,f4b,f4c,f4d,f4e⟩:=B4.out.cells
      have fz4:=B4.out.z
      clear xP3 yP3 xH3 yH3
      have kP:=(KP3.out.alloc (.cells #[.string fn,.bool false,.slice A3 fs.length m3] 79))
      rw [hw4] at kP
      obtain ⟨xP4,yP4⟩:=kP.facts
      have zP4:=kP.lt
      have KP4:=Lib.hid kP
      clear kP
      have kH:=(KH3.out.alloc (.cells #[.string fn,.bool false,.slice A3 fs.length m3] 79))
      rw [hw4] at kH
      obtain ⟨xH4,yH4⟩:=kH.facts
      have zH4:=kH.lt
      have KH4:=Lib.hid kH
      clear kH
      have kK:=(Has.new w3 79 #[.string fn,.bool false,.slice A3 fs.length m3])
      rw [hw4] at kK
      obtain ⟨xK4,yK4⟩:=kK.facts
      have zK4:=kK.lt
      have KK4:=Lib.hid kK
      clear kK
      have HB4:=Lib.hid B4.out.b
      have HWK:=Lib.hid hw4
      clear hw4
      go_wp2_with ((with_reducible show wpList _ _ _ (Oper.mk (some 92) _ _ _ _ _ :: _) _ _);rw [HWK.out])
      refine (HTQ.out _ (HBW.out.trans (B4.out.b.mono hsz0))).mono ?_
      rintro e w5 ⟨rfl,hb5⟩
      have B5:=Lib.hid (B4.out.below hb5)
      clear f4a f4b f4c f4d f4e fz4
      obtain ⟨f5a,f5b,f5c,f5d,f5e⟩:=B5.out.cells
      have fz5:=B5.out.z
      clear xP4 yP4 zP4 xH4 yH4 zH4 xK4 yK4 zK4
      have kP:=(KP4.out).on hb5
      (try simp only [World.size_alloc] at kP)
      obtain ⟨xP5,yP5⟩:=kP.facts
      have zP5:=kP.lt
      have KP5:=Lib.hid kP
      have kH:=(KH4.out).on hb5
      (try simp only [World.size_alloc] at kH)
      obtain ⟨xH5,yH5⟩:=kH.facts
      have zH5:=kH.lt
      have KH5:=Lib.hid kH
      have kK:=(KK4.out).on hb5
      (try simp only [World.size_alloc] at kK)
      obtain ⟨xK5,yK5⟩:=kK.facts
      have zK5:=kK.lt
      have KK5:=Lib.hid kK
      have HB5:=Lib.hid (bon (HB4.out) hb5)
      clear hb5 kP kH kK
      go_wp2_with fail
      refine (HHD.out into slot _ (HBW.out.trans (B5.out.b.mono hsz0))).mono ?_
      rintro e w6 ⟨rfl,hb6⟩
      rw [HHE.out]
      have B6:=Lib.hid (B5.out.below hb6)
      clear f5a f5b f5c f5d f5e fz5
      obtain ⟨f6a,f6b,f6c,f6d,f6e⟩:=B6.out.cells
      have fz6:=B6.out.z
      clear xP5 yP5 zP5 xH5 yH5 zH5 xK5 yK5 zK5
      have kP:=(KP5.out).on hb6
      (try simp only [World.size_alloc] at kP)
      obtain ⟨xP6,yP6⟩:=kP.facts
      have zP6:=kP.lt
      have KP6:=Lib.hid kP
      have kH:=(KH5.out).on hb6
      (try simp only [World.size_alloc] at kH)
      obtain ⟨xH6,yH6⟩:=kH.facts
      have zH6:=kH.lt
      have KH6:=Lib.hid kH
      have kK:=(KK5.out).on hb6
      (try simp only [World.size_alloc] at kK)
      obtain ⟨xK6,yK6⟩:=kK.facts
      have zK6:=kK.lt
      have KK6:=Lib.hid kK
      have HB6:=Lib.hid (bon (HB5.out) hb6)
      clear hb6 kP kH kK
      have hrx:((w6.setCell ⟨w2.heap.size,2,none⟩ (.string into)).setCell ⟨w2.heap.size,3,none⟩ (.string slot)).rangeAt w2.heap.size 0 [.string pname,.string pkind,.string into,.string slot,.int .i64 pmade,.int .i64 psince,.bool false,.slice Ap pprops.length mp,.int .i64 pkl,.int .i64 pkh,.int .i64 pcl,.int .i64 pch,.int .i64 pdl,.int .i64 pdh]:=has_range ((KP6.out.put 2 (.string into)).put 3 (.string slot))
      obtain ⟨ra,rb,rc,rd,re⟩:=((B6.out.setCell hgp 2 (.string into)).setCell hgp 3 (.string slot)).cells
      obtain ⟨rf,rg⟩:=((KP6.out.put 2 (.string into)).put 3 (.string slot)).facts
      go_wp2_with (first | ((with_reducible show wpList _ _ _ (Oper.mk (some 179) _ _ _ _ _ :: _) _ _);refine wpList_load_mid rfl 47 _ rfl w2.heap.size 0 rfl _ _ hrx Tryz.underlying47 rfl rfl ?_))
      refine (HWI.out wb (Below.refl _ _) pname pkind into slot pmade psince false pprops Ap mp pkl pkh pcl pch pdl pdh _ (HBW.out.trans (((B6.out.setCell hgp 2 (.string into)).setCell hgp 3 (.string slot)).b.mono hsz0)) HPP.out).mono ?_
      rintro e w9 ⟨v9,rfl,hst9,hb9⟩
      obtain ⟨A9,c9,hv9,_⟩:=Rd.form hst9
      subst hv9
      have BN:=Lib.hid (((B6.out.setCell hgp 2 (.string into)).setCell hgp 3 (.string slot)).below hb9)
      have HST9:=Lib.hid hst9
      clear hst9 hb9
      obtain ⟨na,nb,nc,nd,ne⟩:=BN.out.cells
      go_wp2_with fail
      obtain ⟨n4,n5⟩:=(BN.out.r.put 0 (.slice A9 (putG Pa.name l (⟨pname,pkind,into,slot,pmade,psince,false,pprops,pkl,pkh,pcl,pch,pdl,pdh⟩:Pa)).length c9)).facts
      refine bodyPost_ret (v:=.tuple #[.agg #[.slice A9 (putG Pa.name l (⟨pname,pkind,into,slot,pmade,psince,false,pprops,pkl,pkh,pcl,pch,pdl,pdh⟩:Pa)).length c9],.int .i64 0]) (by simp [results,Tryz.results45,go_sem,n4]) rfl ?_
      rw [show stepL c l _ = (putP l (⟨pname,pkind,into,slot,pmade,psince,false,pprops,pkl,pkh,pcl,pch,pdl,pdh⟩:Pa),(0:Int)) from (by unfold stepL;simp only [HPF.out,HHF.out];unfold turnL;simp [HVH.out,HTT.out,HI.out,HHD2.out])]
      have hB:=BN.out.b
      have hz:=BN.out.z
      exact ⟨_,rfl,Sta.far1 HST9.out _ BN.out.r,hB.setCell (by simp;omega) _⟩
    · have HHE:Hid (heldB l into slot = true):=by show heldB l into slot = true;rw [←hhd, ← hhe]
      have HHD2:=Lib.hid hhd
      clear hhd hhe
      go_enter Tryz.func45,Tryz.ntmps45
      go_wp2_with fail
      refine (HAT.out part _ (HBW.out.trans (B0.out.b.mono hsz0))).mono ?_
      rintro e w1 ⟨rfl,hb1⟩
      rw [HAI.out]
      have B1:=Lib.hid (B0.out.below hb1)
      obtain ⟨f1a,f1b,f1c,f1d,f1e⟩:=B1.out.cells
      have fz1:=B1.out.z
      have HB1:=Lib.hid (bon (HB0.out) hb1)
      clear hb1
      go_wp2_with fail
      refine (HAT.out into _ (HBW.out.trans (B1.out.b.mono hsz0))).mono ?_
      rintro e w2 ⟨rfl,hb2⟩
      rw [HAJ.out]
      have B2:=Lib.hid (B1.out.below hb2)
      clear f1a f1b f1c f1d f1e fz1
      obtain ⟨f2a,f2b,f2c,f2d,f2e⟩:=B2.out.cells
      have fz2:=B2.out.z
      have HB2:=Lib.hid (bon (HB1.out) hb2)
      clear hb2
      have hrp:w2.rangeAt bp (op0+kp*14) [.string pname,.string pkind,.string pinto,.string pslot,.int .i64 pmade,.int .i64 psince,.bool false,.slice Ap pprops.length mp,.int .i64 pkl,.int .i64 pkh,.int .i64 pcl,.int .i64 pch,.int .i64 pdl,.int .i64 pdh]:=range_later HRP.out (HBW.out.trans (B2.out.b.mono hsz0))
      obtain ⟨R,hR⟩:∃ R:Array Value,R = #[.string pname,.string pkind,.string pinto,.string pslot,.int .i64 pmade,.int .i64 psince,.bool false,.slice Ap pprops.length mp,.int .i64 pkl,.int .i64 pkh,.int .i64 pcl,.int .i64 pch,.int .i64 pdl,.int .i64 pdh]:=⟨_,rfl⟩
      obtain ⟨Q,hQ⟩:∃ R:Array Value,R = #[.string hname,.string hkind,.string hinto,.string hslot,.int .i64 hmade,.int .i64 hsince,.bool false,.slice Ah hprops.length mh,.int .i64 hkl,.int .i64 hkh,.int .i64 hcl,.int .i64 hch,.int .i64 hdl,.int .i64 hdh]:=⟨_,rfl⟩
      have b1:=B2.out.alloc (.cells R 47)
      have hrh:(w2.alloc (.cells R 47)).rangeAt bp (op0+kh*14) [.string hname,.string hkind,.string hinto,.string hslot,.int .i64 hmade,.int .i64 hsince,.bool false,.slice Ah hprops.length mh,.int .i64 hkl,.int .i64 hkh,.int .i64 hcl,.int .i64 hch,.int .i64 hdl,.int .i64 hdh]:=range_later HRH.out (HBW.out.trans (b1.b.mono hsz0))
      obtain ⟨qa,qb,qc,qd,qe⟩:=b1.cells
      obtain ⟨ra,rb,rc,rd,re⟩:=(b1.alloc (.cells Q 47)).cells
      have kP:=(Has.new w2 47 R).alloc (.cells Q 47)
      have kH:=Has.new (w2.alloc (.cells R 47)) 47 Q
      simp only [World.size_alloc] at kH
      obtain ⟨sa,sb⟩:=kP.facts
      obtain ⟨ta,tb⟩:=kH.facts
      clear kP kH b1
      subst hR
      subst hQ
      go_wp2_with (first | ((with_reducible show wpList _ _ _ (Oper.mk (some 71) _ _ _ _ _ :: _) _ _);refine wpList_load_mid rfl 47 _ rfl bp (op0+kp*14) rfl _ _ hrp Tryz.underlying47 rfl rfl ?_) | ((with_reducible show wpList _ _ _ (Oper.mk (some 76) _ _ _ _ _ :: _) _ _);refine wpList_load_mid rfl 47 _ rfl bp (op0+kh*14) rfl _ _ hrh Tryz.underlying47 rfl rfl ?_))
      clear hrp hrh qa qb qc qd qe ra rb rc rd re sa sb ta tb
      refine (HFK.out _ (HBW.out.trans (((B2.out.alloc _).alloc _).b.mono hsz0))).mono ?_
      rintro e w3 ⟨A3,m3,rfl,_,hb3⟩
      have B3:=Lib.hid (((B2.out.alloc _).alloc _).below hb3)
      clear f2a f2b f2c f2d f2e fz2
      obtain ⟨f3a,f3b,f3c,f3d,f3e⟩:=B3.out.cells
      have fz3:=B3.out.z
      have kP:=((Has.new (w2) 47 _).alloc _).on hb3
      (try simp only [World.size_alloc] at kP)
      obtain ⟨xP3,yP3⟩:=kP.facts
      have zP3:=kP.lt
      have KP3:=Lib.hid kP
      have kH:=(Has.new (_) 47 _).on hb3
      (try simp only [World.size_alloc] at kH)
      obtain ⟨xH3,yH3⟩:=kH.facts
      have zH3:=kH.lt
      have KH3:=Lib.hid kH
      have HB3:=Lib.hid (bon (((HB2.out).alloc (HB2.out).size _).alloc ((HB2.out).alloc (HB2.out).size _).size _) hb3)
      clear hb3 kP kH
      have hgp:w.heap.size+1+1+1 < w2.heap.size:=B2.out.z
      obtain ⟨w4,hw4⟩:∃ W,(w3.alloc (.cells #[.string fn,.bool false,.slice A3 fs.length m3] 79)) = W:=⟨_,rfl⟩
      have qB:=(B3.out.alloc (.cells #[.string fn,.bool false,.slice A3 fs.length m3] 79))
      rw [hw4] at qB
      have B4:=Lib.hid qB
      clear qB f3a f3b f3c f3d f3e fz3
      obtain ⟨f4a,f4b,f4c,f4d,f4e⟩:=B4.out.cells
      have fz4:=B4.out.z
      clear xP3 yP3 xH3 yH3
      have kP:=(KP3.out.alloc (.cells #[.string fn,.bool false,.slice A3 fs.length m3] 79))
      rw [hw4] at kP
      obtain ⟨xP4,yP4⟩:=kP.facts
      have zP4:=kP.lt
      have KP4:=Lib.hid kP
      clear kP
      have kH:=(KH3.out.alloc (.cells #[.string fn,.bool false,.slice A3 fs.length m3] 79))
      rw [hw4] at kH
      obtain ⟨xH4,yH4⟩:=kH.facts
      have zH4:=kH.lt
      have KH4:=Lib.hid kH
      clear kH
      have kK:=(Has.new w3 79 #[.string fn,.bool false,.slice A3 fs.length m3])
      rw [hw4] at kK
      obtain ⟨xK4,yK4⟩:=kK.facts
      have zK4:=kK.lt
      have KK4:=Lib.hid kK
      clear kK
      have HB4:=Lib.hid B4.out.b
      have HWK:=Lib.hid hw4
      clear hw4
      go_wp2_with ((with_reducible show wpList _ _ _ (Oper.mk (some 92) _ _ _ _ _ :: _) _ _);rw [HWK.out])
      refine (HTQ.out _ (HBW.out.trans (B4.out.b.mono hsz0))).mono ?_
      rintro e w5 ⟨rfl,hb5⟩
      have B5:=Lib.hid (B4.out.below hb5)
      clear f4a f4b f4c f4d f4e fz4
      obtain ⟨f5a,f5b,f5c,f5d,f5e⟩:=B5.out.cells
      have fz5:=B5.out.z
      clear xP4 yP4 zP4 xH4 yH4 zH4 xK4 yK4 zK4
      have kP:=(KP4.out).on hb5
      (try simp only [World.size_alloc] at kP)
      obtain ⟨xP5,yP5⟩:=kP.facts
      have zP5:=kP.lt
      have KP5:=Lib.hid kP
      have kH:=(KH4.out).on hb5
      (try simp only [World.size_alloc] at kH)
      obtain ⟨xH5,yH5⟩:=kH.facts
      have zH5:=kH.lt
      have KH5:=Lib.hid kH
      have kK:=(KK4.out).on hb5
      (try simp only [World.size_alloc] at kK)
      obtain ⟨xK5,yK5⟩:=kK.facts
      have zK5:=kK.lt
      have KK5:=Lib.hid kK
      have HB5:=Lib.hid (bon (HB4.out) hb5)
      clear hb5 kP kH kK
      go_wp2_with fail
      refine (HHD.out into slot _ (HBW.out.trans (B5.out.b.mono hsz0))).mono ?_
      rintro e w6 ⟨rfl,hb6⟩
      rw [HHE.out]
      have B6:=Lib.hid (B5.out.below hb6)
      clear f5a f5b f5c f5d f5e fz5
      obtain ⟨f6a,f6b,f6c,f6d,f6e⟩:=B6.out.cells
      have fz6:=B6.out.z
      clear xP5 yP5 zP5 xH5 yH5 zH5 xK5 yK5 zK5
      have kP:=(KP5.out).on hb6
      (try simp only [World.size_alloc] at kP)
      obtain ⟨xP6,yP6⟩:=kP.facts
      have zP6:=kP.lt
      have KP6:=Lib.hid kP
      have kH:=(KH5.out).on hb6
      (try simp only [World.size_alloc] at kH)
      obtain ⟨xH6,yH6⟩:=kH.facts
      have zH6:=kH.lt
      have KH6:=Lib.hid kH
      have kK:=(KK5.out).on hb6
      (try simp only [World.size_alloc] at kK)
      obtain ⟨xK6,yK6⟩:=kK.facts
      have zK6:=kK.lt
      have KK6:=Lib.hid kK
      have HB6:=Lib.hid (bon (HB5.out) hb6)
      clear hb6 kP kH kK
      go_wp2_with fail
      obtain ⟨n4,n5⟩:=(B6.out.r.put 0 (.slice none 0 0)).facts
      refine bodyPost_ret (v:=.tuple #[.agg #[.slice none 0 0],.int .i64 6]) (by simp [results,Tryz.results45,go_sem,n4]) rfl ?_
      rw [show stepL c l _ = (([]:List Pa),(6:Int)) from (by unfold stepL;simp only [HPF.out,HHF.out];unfold turnL;simp [HVH.out,HTT.out,HI.out,HHD2.out])]
      have hB:=B6.out.b
      exact ⟨_,rfl,Rd.nil _ _,hB.setCell (by simp;omega) _⟩
end Go.Proofs.YtpikcofbhkbifaaGreat
