/- bogieref10.Step at notes and scrappings. No condition but sizes. -/
import Derived.Test.YtpikcofbhkbifaaGreatZRE
namespace Go.Proofs.YtpikcofbhkbifaaGreat
open Go Go.RowKit
theorem part_few {c:List Kd} {l:List Pa} (h:validB c l = true) {x:Pa} (hx:x∈l):x.props.length≤60:=by
  have h1:=(vld_iff.1 h).right x hx
  unfold partOk rightB at h1
  simp only [Bool.and_eq_true,decide_eq_true_eq] at h1
  exact h1.1.1.2
theorem outX_any {w0 w:World} {base t:Nat} {v:Value} {l:List Pr} (h:Out 2 PrR w0 w base t v l):Out 2 PrR w w base t v l:=by
  obtain ⟨css,h1,h2⟩:=h
  exact ⟨css,⟨h1.len,fun i cs a hc ha=>⟨(h1.each i cs a hc ha).1,(h1.each i cs a hc ha).2⟩⟩,h2⟩
theorem out_form {α:Type} {C:Nat} {R:World→List Value→α→Prop} {w0 w:World} {base t:Nat} {v:Value} {l:List α} (h:Out C R w0 w base t v l):∃ A c,v = .slice A l.length c:=by
  obtain ⟨css,_,h2⟩:=h
  exact own_form h2
set_option maxRecDepth 100000 in
set_option maxHeartbeats 8000000 in
theorem step_scrap (wb:World) (cv sv:Value) (c:List Kd) (l:List Pa) (day:Int) (part kind into slot key value:ByteArray) (ukl ukh ucl uch ull ulh:Int) (w:World) (hb0:Below wb.heap.size wb w) (hcat:Cat wb cv c) (hcl:c.length≤100000) (hks:∀ k∈c,k.short) (hsta:Sta wb sv l) (hvb:validB c l = true) (p:Pa) (hpf:pfind l part = some p) (hgo:p.gone = false) :
    Calls Tryz.prog 45 #[.agg #[cv],.agg #[sv],.agg #[.int .i64 7,.int .i64 day,.string part,.string kind,.string into,.string slot,.string key,.string value,.int .i64 ukl,.int .i64 ukh,.int .i64 ucl,.int .i64 uch,.int .i64 ull,.int .i64 ulh]] w fun r w'=>∃ v',r = .returned (.tuple #[.agg #[v'],.int .i64 (stepL c l ⟨7,day,part,kind,into,slot,key,value,ukl,ukh,ucl,uch,ull,ulh⟩).2])∧Sta w' v' (stepL c l ⟨7,day,part,kind,into,slot,key,value,ukl,ukh,ucl,uch,ull,ulh⟩).1∧Below w.heap.size w w':=by
  obtain ⟨A',cc,rfl,hn⟩:=Rd.form hcat
  obtain ⟨A,cs0,rfl,hn0⟩:=Rd.form hsta
  have hl20:=(valid_len hvb)
  have HBW:=Lib.hid hb0
  have hsz0:=hb0.size
  have B0:=Lib.hid (ApB.new w A' c.length cc A l.length cs0 #[.int .i64 7,.int .i64 day,.string part,.string kind,.string into,.string slot,.string key,.string value,.int .i64 ukl,.int .i64 ukh,.int .i64 ucl,.int .i64 uch,.int .i64 ull,.int .i64 ulh])
  have HB0:=Lib.hid B0.out.b
  have HV:=Lib.hid hsta
  have HAT:=Lib.hid (fun x W (h:Below wb.heap.size wb W)=>refAt_any wb _ l x W h hsta (by omega))
  have HF:=Lib.hid (fun x W (h:Below wb.heap.size wb W)=>refFind_any wb _ c x W h hcat hcl)
  have HTK:=Lib.hid (fun x y z W (h:Below wb.heap.size wb W)=>refTakes_any wb _ c x y z W h hcat hcl hks)
  have HHD:=Lib.hid (fun x y W (h:Below wb.heap.size wb W)=>refHeld_any wb _ l x y W h hsta (by omega))
  have HSO:=Lib.hid (sorted_ord.1 (validB_sorted hvb))
  clear hb0 hcat hks
  have HORD:=Lib.hid (fun (x:Pa) (hx:x∈l)=>part_sorted hvb hx)
  have HPM:=Lib.hid (pfind_mem hpf).1
  have HWI:=Lib.hid (fun (W0:World) (h0:Below wb.heap.size wb W0) (pname pkind pinto pslot:ByteArray) (pmade psince:Int) (pgone:Bool) (pprops:List Pr) (Ap:Option Addr) (mp:Nat) (pkl pkh pcl pch pdl pdh:Int) (W:World) (h:Below W0.heap.size W0 W) (hp:Rd 2 PrR W0 (.slice Ap pprops.length mp) pprops)=>with_any W0 _ l pname pkind pinto pslot pmade psince pgone pprops Ap mp pkl pkh pcl pch pdl pdh W h (hsta.below h0) hl20 (sorted_ord.1 (validB_sorted hvb)) hp)
  obtain ⟨kp,hkp,hap,hgp⟩:=atP_yes hpf
  have HAI:=Lib.hid hap
  have HPF:=Lib.hid hpf
  obtain ⟨bp,op0,cp,csp,hep,_,⟨svp,rfl,hsvp⟩,_,hrgp⟩:=Rd.get HV.out hkp noPa
  injection hep with e1 e2 e3
  subst e1;subst e3
  rw [hgp] at hsvp hrgp
  obtain ⟨Ap,mp,rfl,hnp⟩:=Rd.form hsvp
  have HPP:=Lib.hid hsvp
  have HRP0:=Lib.hid hrgp
  have hkpi:(kp:Int) < (l.length:Int):=by omega
  have hkp0:¬ (kp:Int) < 0:=by omega
  clear hap hpf hgp hsvp hrgp
  obtain ⟨pname,pkind,pinto,pslot,pmade,psince,pgone,pprops,pkl,pkh,pcl,pch,pdl,pdh⟩:=p
  have HRP:Hid (wb.rangeAt bp (op0+kp*14) [.string pname,.string pkind,.string pinto,.string pslot,.int .i64 pmade,.int .i64 psince,.bool pgone,.slice Ap pprops.length mp,.int .i64 pkl,.int .i64 pkh,.int .i64 pcl,.int .i64 pch,.int .i64 pdl,.int .i64 pdh]):=HRP0
  clear HRP0
  dsimp only at hnp HPP
  clear hvb hsta
  dsimp only at hgo
  subst hgo
  have HFK:=Lib.hid (fun W h=>HF.out pkind W h)
  generalize hfk:(kfind c pkind).getD noKd = fk at HFK
  have HFKE:=Lib.hid hfk
  clear hfk
  generalize (kfind c pkind).isSome = kb at HFK
  obtain ⟨fn,fv,fs⟩:=fk
  dsimp only at HFK
  have hie:=emp_iff pinto
  cases hi:pinto.toList.isEmpty
  · skip
    have HI:Hid (¬ pinto = eS):=fun e=>by rw [hi,decide_eq_true e] at hie;cases hie
    clear hie
    go_enter Tryz.func45,Tryz.ntmps45
    go_wp2_with fail
    refine (HAT.out part _ (HBW.out.trans (B0.out.b.mono hsz0))).mono ?_
    rintro e w1 ⟨rfl,hb1⟩
    rw [HAI.out]
    have B1:=Lib.hid (B0.out.below hb1)
    obtain ⟨f1a,f1b,f1c,f1d,f1e⟩:=B1.out.cells
    have fz1:=B1.out.z
    have HB1:=Lib.hid (bon (HB0.out) hb1)
    clear hb1
    have hrp:w1.rangeAt bp (op0+kp*14) [.string pname,.string pkind,.string pinto,.string pslot,.int .i64 pmade,.int .i64 psince,.bool false,.slice Ap pprops.length mp,.int .i64 pkl,.int .i64 pkh,.int .i64 pcl,.int .i64 pch,.int .i64 pdl,.int .i64 pdh]:=range_later HRP.out (HBW.out.trans (B1.out.b.mono hsz0))
    obtain ⟨R,hR⟩:∃ R:Array Value,R = #[.string pname,.string pkind,.string pinto,.string pslot,.int .i64 pmade,.int .i64 psince,.bool false,.slice Ap pprops.length mp,.int .i64 pkl,.int .i64 pkh,.int .i64 pcl,.int .i64 pch,.int .i64 pdl,.int .i64 pdh]:=⟨_,rfl⟩
    have b1:=B1.out.alloc (.cells R 47)
    have hrh:(w1.alloc (.cells R 47)).rangeAt bp (op0+kp*14) [.string pname,.string pkind,.string pinto,.string pslot,.int .i64 pmade,.int .i64 psince,.bool false,.slice Ap pprops.length mp,.int .i64 pkl,.int .i64 pkh,.int .i64 pcl,.int .i64 pch,.int .i64 pdl,.int .i64 pdh]:=range_later HRP.out (HBW.out.trans (b1.b.mono hsz0))
    obtain ⟨qa,qb,qc,qd,qe⟩:=b1.cells
    obtain ⟨ra,rb,rc,rd,re⟩:=(b1.alloc (.cells R 47)).cells
    have kP:=(Has.new w1 47 R).alloc (.cells R 47)
    have kH:=Has.new (w1.alloc (.cells R 47)) 47 R
    simp only [World.size_alloc] at kH
    obtain ⟨sa,sb⟩:=kP.facts
    obtain ⟨ta,tb⟩:=kH.facts
    clear kP kH b1
    subst hR
    go_wp2_with (first | ((with_reducible show wpList _ _ _ (Oper.mk (some 71) _ _ _ _ _ :: _) _ _);refine wpList_load_mid rfl 47 _ rfl bp (op0+kp*14) rfl _ _ hrp Tryz.underlying47 rfl rfl ?_) | ((with_reducible show wpList _ _ _ (Oper.mk (some 76) _ _ _ _ _ :: _) _ _);refine wpList_load_mid rfl 47 _ rfl bp (op0+kp*14) rfl _ _ hrh Tryz.underlying47 rfl rfl ?_))
    clear hrp hrh qa qb qc qd qe ra rb rc rd re sa sb ta tb
    refine (HFK.out _ (HBW.out.trans (((B1.out.alloc _).alloc _).b.mono hsz0))).mono ?_
    rintro e w2 ⟨A3,m3,rfl,_,hb2⟩
    have B2:=Lib.hid (((B1.out.alloc _).alloc _).below hb2)
    clear f1a f1b f1c f1d f1e fz1
    obtain ⟨f2a,f2b,f2c,f2d,f2e⟩:=B2.out.cells
    have fz2:=B2.out.z
    have kP:=((Has.new (w1) 47 _).alloc _).on hb2
    (try simp only [World.size_alloc] at kP)
    obtain ⟨xP2,yP2⟩:=kP.facts
    have zP2:=kP.lt
    have KP2:=Lib.hid kP
    have kH:=(Has.new (_) 47 _).on hb2
    (try simp only [World.size_alloc] at kH)
    obtain ⟨xH2,yH2⟩:=kH.facts
    have zH2:=kH.lt
    have KH2:=Lib.hid kH
    have HB2:=Lib.hid (bon (((HB1.out).alloc (HB1.out).size _).alloc ((HB1.out).alloc (HB1.out).size _).size _) hb2)
    clear hb2 kP kH
    have hgp:w.heap.size+1+1+1 < w1.heap.size:=B1.out.z
    obtain ⟨w3,hw3⟩:∃ W,(w2.alloc (.cells #[.string fn,.bool fv,.slice A3 fs.length m3] 79)) = W:=⟨_,rfl⟩
    have qB:=(B2.out.alloc (.cells #[.string fn,.bool fv,.slice A3 fs.length m3] 79))
    rw [hw3] at qB
    have B3:=Lib.hid qB
    clear qB f2a f2b f2c f2d f2e fz2
    obtain ⟨f3a,f3b,f3c,f3d,f3e⟩:=B3.out.cells
    have fz3:=B3.out.z
    clear xP2 yP2 xH2 yH2
    have kP:=(KP2.out.alloc (.cells #[.string fn,.bool fv,.slice A3 fs.length m3] 79))
    rw [hw3] at kP
    obtain ⟨xP3,yP3⟩:=kP.facts
    have zP3:=kP.lt
    have KP3:=Lib.hid kP
    clear kP
    have kH:=(KH2.out.alloc (.cells #[.string fn,.bool fv,.slice A3 fs.length m3] 79))
    rw [hw3] at kH
    obtain ⟨xH3,yH3⟩:=kH.facts
    have zH3:=kH.lt
    have KH3:=Lib.hid kH
    clear kH
    have kK:=(Has.new w2 79 #[.string fn,.bool fv,.slice A3 fs.length m3])
    rw [hw3] at kK
    obtain ⟨xK3,yK3⟩:=kK.facts
    have zK3:=kK.lt
    have KK3:=Lib.hid kK
    clear kK
    have HB3:=Lib.hid B3.out.b
    have HWK:=Lib.hid hw3
    clear hw3
    go_wp2_with ((with_reducible show wpList _ _ _ (Oper.mk (some 92) _ _ _ _ _ :: _) _ _);rw [HWK.out])
    obtain ⟨n4,n5⟩:=(B3.out.r.put 0 (.slice none 0 0)).facts
    refine bodyPost_ret (v:=.tuple #[.agg #[.slice none 0 0],.int .i64 5]) (by simp [results,Tryz.results45,go_sem,n4]) rfl ?_
    rw [show stepL c l _ = (([]:List Pa),(5:Int)) from (by unfold stepL;simp only [HPF.out];unfold turnL;simp [show ¬ pinto = (⟨#[]⟩:ByteArray) from HI.out,eS])]
    have hB:=B3.out.b
    exact ⟨_,rfl,Rd.nil _ _,hB.setCell (by simp;omega) _⟩
  · skip
    have HI:Hid (pinto = eS):=by show pinto = eS;rw [hi] at hie;exact of_decide_eq_true hie.symm
    clear hie
    have hhe:=heldB_any l pname
    cases hhd:heldIn l pname
    · have HHE:Hid (heldB l pname ⟨#[]⟩ = false):=by show heldB l pname ⟨#[]⟩ = false;rw [←hhd, ← hhe];rfl
      have HHD2:=Lib.hid hhd
      clear hhd hhe
      go_enter Tryz.func45,Tryz.ntmps45
      go_wp2_with fail
      refine (HAT.out part _ (HBW.out.trans (B0.out.b.mono hsz0))).mono ?_
      rintro e w1 ⟨rfl,hb1⟩
      rw [HAI.out]
      have B1:=Lib.hid (B0.out.below hb1)
      obtain ⟨f1a,f1b,f1c,f1d,f1e⟩:=B1.out.cells
      have fz1:=B1.out.z
      have HB1:=Lib.hid (bon (HB0.out) hb1)
      clear hb1
      have hrp:w1.rangeAt bp (op0+kp*14) [.string pname,.string pkind,.string pinto,.string pslot,.int .i64 pmade,.int .i64 psince,.bool false,.slice Ap pprops.length mp,.int .i64 pkl,.int .i64 pkh,.int .i64 pcl,.int .i64 pch,.int .i64 pdl,.int .i64 pdh]:=range_later HRP.out (HBW.out.trans (B1.out.b.mono hsz0))
      obtain ⟨R,hR⟩:∃ R:Array Value,R = #[.string pname,.string pkind,.string pinto,.string pslot,.int .i64 pmade,.int .i64 psince,.bool false,.slice Ap pprops.length mp,.int .i64 pkl,.int .i64 pkh,.int .i64 pcl,.int .i64 pch,.int .i64 pdl,.int .i64 pdh]:=⟨_,rfl⟩
      have b1:=B1.out.alloc (.cells R 47)
      have hrh:(w1.alloc (.cells R 47)).rangeAt bp (op0+kp*14) [.string pname,.string pkind,.string pinto,.string pslot,.int .i64 pmade,.int .i64 psince,.bool false,.slice Ap pprops.length mp,.int .i64 pkl,.int .i64 pkh,.int .i64 pcl,.int .i64 pch,.int .i64 pdl,.int .i64 pdh]:=range_later HRP.out (HBW.out.trans (b1.b.mono hsz0))
      obtain ⟨qa,qb,qc,qd,qe⟩:=b1.cells
      obtain ⟨ra,rb,rc,rd,re⟩:=(b1.alloc (.cells R 47)).cells
      have kP:=(Has.new w1 47 R).alloc (.cells R 47)
      have kH:=Has.new (w1.alloc (.cells R 47)) 47 R
      simp only [World.size_alloc] at kH
      obtain ⟨sa,sb⟩:=kP.facts
      obtain ⟨ta,tb⟩:=kH.facts
      clear kP kH b1
      subst hR
      go_wp2_with (first | ((with_reducible show wpList _ _ _ (Oper.mk (some 71) _ _ _ _ _ :: _) _ _);refine wpList_load_mid rfl 47 _ rfl bp (op0+kp*14) rfl _ _ hrp Tryz.underlying47 rfl rfl ?_) | ((with_reducible show wpList _ _ _ (Oper.mk (some 76) _ _ _ _ _ :: _) _ _);refine wpList_load_mid rfl 47 _ rfl bp (op0+kp*14) rfl _ _ hrh Tryz.underlying47 rfl rfl ?_))
      clear hrp hrh qa qb qc qd qe ra rb rc rd re sa sb ta tb
      refine (HFK.out _ (HBW.out.trans (((B1.out.alloc _).alloc _).b.mono hsz0))).mono ?_
      rintro e w2 ⟨A3,m3,rfl,_,hb2⟩
      have B2:=Lib.hid (((B1.out.alloc _).alloc _).below hb2)
      clear f1a f1b f1c f1d f1e fz1
      obtain ⟨f2a,f2b,f2c,f2d,f2e⟩:=B2.out.cells
      have fz2:=B2.out.z
      have kP:=((Has.new (w1) 47 _).alloc _).on hb2
      (try simp only [World.size_alloc] at kP)
      obtain ⟨xP2,yP2⟩:=kP.facts
      have zP2:=kP.lt
      have KP2:=Lib.hid kP
      have kH:=(Has.new (_) 47 _).on hb2
      (try simp only [World.size_alloc] at kH)
      obtain ⟨xH2,yH2⟩:=kH.facts
      have zH2:=kH.lt
      have KH2:=Lib.hid kH
      have HB2:=Lib.hid (bon (((HB1.out).alloc (HB1.out).size _).alloc ((HB1.out).alloc (HB1.out).size _).size _) hb2)
      clear hb2 kP kH
      have hgp:w.heap.size+1+1+1 < w1.heap.size:=B1.out.z
      obtain ⟨w3,hw3⟩:∃ W,(w2.alloc (.cells #[.string fn,.bool fv,.slice A3 fs.length m3] 79)) = W:=⟨_,rfl⟩
      have qB:=(B2.out.alloc (.cells #[.string fn,.bool fv,.slice A3 fs.length m3] 79))
      rw [hw3] at qB
      have B3:=Lib.hid qB
      clear qB f2a f2b f2c f2d f2e fz2
      obtain ⟨f3a,f3b,f3c,f3d,f3e⟩:=B3.out.cells
      have fz3:=B3.out.z
      clear xP2 yP2 xH2 yH2
      have kP:=(KP2.out.alloc (.cells #[.string fn,.bool fv,.slice A3 fs.length m3] 79))
      rw [hw3] at kP
      obtain ⟨xP3,yP3⟩:=kP.facts
      have zP3:=kP.lt
      have KP3:=Lib.hid kP
      clear kP
      have kH:=(KH2.out.alloc (.cells #[.string fn,.bool fv,.slice A3 fs.length m3] 79))
      rw [hw3] at kH
      obtain ⟨xH3,yH3⟩:=kH.facts
      have zH3:=kH.lt
      have KH3:=Lib.hid kH
      clear kH
      have kK:=(Has.new w2 79 #[.string fn,.bool fv,.slice A3 fs.length m3])
      rw [hw3] at kK
      obtain ⟨xK3,yK3⟩:=kK.facts
      have zK3:=kK.lt
      have KK3:=Lib.hid kK
      clear kK
      have HB3:=Lib.hid B3.out.b
      have HWK:=Lib.hid hw3
      clear hw3
      go_wp2_with ((with_reducible show wpList _ _ _ (Oper.mk (some 92) _ _ _ _ _ :: _) _ _);rw [HWK.out])
      refine (HHD.out pname ⟨#[]⟩ _ (HBW.out.trans (B3.out.b.mono hsz0))).mono ?_
      rintro e w4 ⟨rfl,hb4⟩
      rw [HHE.out]
      have B4:=Lib.hid (B3.out.below hb4)
      clear f3a f3b f3c f3d f3e fz3
      obtain ⟨f4a,f4b,f4c,f4d,f4e⟩:=B4.out.cells
      have fz4:=B4.out.z
      clear xP3 yP3 zP3 xH3 yH3 zH3 xK3 yK3 zK3
      have kP:=(KP3.out).on hb4
      (try simp only [World.size_alloc] at kP)
      obtain ⟨xP4,yP4⟩:=kP.facts
      have zP4:=kP.lt
      have KP4:=Lib.hid kP
      have kH:=(KH3.out).on hb4
      (try simp only [World.size_alloc] at kH)
      obtain ⟨xH4,yH4⟩:=kH.facts
      have zH4:=kH.lt
      have KH4:=Lib.hid kH
      have kK:=(KK3.out).on hb4
      (try simp only [World.size_alloc] at kK)
      obtain ⟨xK4,yK4⟩:=kK.facts
      have zK4:=kK.lt
      have KK4:=Lib.hid kK
      have HB4:=Lib.hid (bon (HB3.out) hb4)
      clear hb4 kP kH kK
      have hrx:(w4.setCell ⟨w1.heap.size,6,none⟩ (.bool true)).rangeAt w1.heap.size 0 [.string pname,.string pkind,.string pinto,.string pslot,.int .i64 pmade,.int .i64 psince,.bool true,.slice Ap pprops.length mp,.int .i64 pkl,.int .i64 pkh,.int .i64 pcl,.int .i64 pch,.int .i64 pdl,.int .i64 pdh]:=has_range (KP4.out.put 6 (.bool true))
      obtain ⟨ra,rb,rc,rd,re⟩:=(B4.out.setCell hgp 6 (.bool true)).cells
      obtain ⟨rf,rg⟩:=(KP4.out.put 6 (.bool true)).facts
      go_wp2_with (first | ((with_reducible show wpList _ _ _ (Oper.mk (some 179) _ _ _ _ _ :: _) _ _);refine wpList_load_mid rfl 47 _ rfl w1.heap.size 0 rfl _ _ hrx Tryz.underlying47 rfl rfl ?_))
      refine (HWI.out wb (Below.refl _ _) pname pkind pinto pslot pmade psince true pprops Ap mp pkl pkh pcl pch pdl pdh _ (HBW.out.trans ((B4.out.setCell hgp 6 (.bool true)).b.mono hsz0)) HPP.out).mono ?_
      rintro e w9 ⟨v9,rfl,hst9,hb9⟩
      obtain ⟨A9,c9,hv9,_⟩:=Rd.form hst9
      subst hv9
      have BN:=Lib.hid ((B4.out.setCell hgp 6 (.bool true)).below hb9)
      have HST9:=Lib.hid hst9
      clear hst9 hb9
      obtain ⟨na,nb,nc,nd,ne⟩:=BN.out.cells
      go_wp2_with fail
      obtain ⟨n4,n5⟩:=(BN.out.r.put 0 (.slice A9 (putG Pa.name l (⟨pname,pkind,pinto,pslot,pmade,psince,true,pprops,pkl,pkh,pcl,pch,pdl,pdh⟩:Pa)).length c9)).facts
      refine bodyPost_ret (v:=.tuple #[.agg #[.slice A9 (putG Pa.name l (⟨pname,pkind,pinto,pslot,pmade,psince,true,pprops,pkl,pkh,pcl,pch,pdl,pdh⟩:Pa)).length c9],.int .i64 0]) (by simp [results,Tryz.results45,go_sem,n4]) rfl ?_
      rw [show stepL c l _ = (putP l (⟨pname,pkind,pinto,pslot,pmade,psince,true,pprops,pkl,pkh,pcl,pch,pdl,pdh⟩:Pa),(0:Int)) from (by unfold stepL;simp only [HPF.out];unfold turnL;simp [HI.out,HHD2.out])]
      have hB:=BN.out.b
      have hz:=BN.out.z
      exact ⟨_,rfl,Sta.far1 HST9.out _ BN.out.r,hB.setCell (by simp;omega) _⟩
    · have HHE:Hid (heldB l pname ⟨#[]⟩ = true):=by show heldB l pname ⟨#[]⟩ = true;rw [←hhd, ← hhe];rfl
      have HHD2:=Lib.hid hhd
      clear hhd hhe
      go_enter Tryz.func45,Tryz.ntmps45
      go_wp2_with fail
      refine (HAT.out part _ (HBW.out.trans (B0.out.b.mono hsz0))).mono ?_
      rintro e w1 ⟨rfl,hb1⟩
      rw [HAI.out]
      have B1:=Lib.hid (B0.out.below hb1)
      obtain ⟨f1a,f1b,f1c,f1d,f1e⟩:=B1.out.cells
      have fz1:=B1.out.z
      have HB1:=Lib.hid (bon (HB0.out) hb1)
      clear hb1
      have hrp:w1.rangeAt bp (op0+kp*14) [.string pname,.string pkind,.string pinto,.string pslot,.int .i64 pmade,.int .i64 psince,.bool false,.slice Ap pprops.length mp,.int .i64 pkl,.int .i64 pkh,.int .i64 pcl,.int .i64 pch,.int .i64 pdl,.int .i64 pdh]:=range_later HRP.out (HBW.out.trans (B1.out.b.mono hsz0))
      obtain ⟨R,hR⟩:∃ R:Array Value,R = #[.string pname,.string pkind,.string pinto,.string pslot,.int .i64 pmade,.int .i64 psince,.bool false,.slice Ap pprops.length mp,.int .i64 pkl,.int .i64 pkh,.int .i64 pcl,.int .i64 pch,.int .i64 pdl,.int .i64 pdh]:=⟨_,rfl⟩
      have b1:=B1.out.alloc (.cells R 47)
      have hrh:(w1.alloc (.cells R 47)).rangeAt bp (op0+kp*14) [.string pname,.string pkind,.string pinto,.string pslot,.int .i64 pmade,.int .i64 psince,.bool false,.slice Ap pprops.length mp,.int .i64 pkl,.int .i64 pkh,.int .i64 pcl,.int .i64 pch,.int .i64 pdl,.int .i64 pdh]:=range_later HRP.out (HBW.out.trans (b1.b.mono hsz0))
      obtain ⟨qa,qb,qc,qd,qe⟩:=b1.cells
      obtain ⟨ra,rb,rc,rd,re⟩:=(b1.alloc (.cells R 47)).cells
      have kP:=(Has.new w1 47 R).alloc (.cells R 47)
      have kH:=Has.new (w1.alloc (.cells R 47)) 47 R
      simp only [World.size_alloc] at kH
      obtain ⟨sa,sb⟩:=kP.facts
      obtain ⟨ta,tb⟩:=kH.facts
      clear kP kH b1
      subst hR
      go_wp2_with (first | ((with_reducible show wpList _ _ _ (Oper.mk (some 71) _ _ _ _ _ :: _) _ _);refine wpList_load_mid rfl 47 _ rfl bp (op0+kp*14) rfl _ _ hrp Tryz.underlying47 rfl rfl ?_) | ((with_reducible show wpList _ _ _ (Oper.mk (some 76) _ _ _ _ _ :: _) _ _);refine wpList_load_mid rfl 47 _ rfl bp (op0+kp*14) rfl _ _ hrh Tryz.underlying47 rfl rfl ?_))
      clear hrp hrh qa qb qc qd qe ra rb rc rd re sa sb ta tb
      refine (HFK.out _ (HBW.out.trans (((B1.out.alloc _).alloc _).b.mono hsz0))).mono ?_
      rintro e w2 ⟨A3,m3,rfl,_,hb2⟩
      have B2:=Lib.hid (((B1.out.alloc _).alloc _).below hb2)
      clear f1a f1b f1c f1d f1e fz1
      obtain ⟨f2a,f2b,f2c,f2d,f2e⟩:=B2.out.cells
      have fz2:=B2.out.z
      have kP:=((Has.new (w1) 47 _).alloc _).on hb2
      (try simp only [World.size_alloc] at kP)
      obtain ⟨xP2,yP2⟩:=kP.facts
      have zP2:=kP.lt
      have KP2:=Lib.hid kP
      have kH:=(Has.new (_) 47 _).on hb2
      (try simp only [World.size_alloc] at kH)
      obtain ⟨xH2,yH2⟩:=kH.facts
      have zH2:=kH.lt
      have KH2:=Lib.hid kH
      have HB2:=Lib.hid (bon (((HB1.out).alloc (HB1.out).size _).alloc ((HB1.out).alloc (HB1.out).size _).size _) hb2)
      clear hb2 kP kH
      have hgp:w.heap.size+1+1+1 < w1.heap.size:=B1.out.z
      obtain ⟨w3,hw3⟩:∃ W,(w2.alloc (.cells #[.string fn,.bool fv,.slice A3 fs.length m3] 79)) = W:=⟨_,rfl⟩
      have qB:=(B2.out.alloc (.cells #[.string fn,.bool fv,.slice A3 fs.length m3] 79))
      rw [hw3] at qB
      have B3:=Lib.hid qB
      clear qB f2a f2b f2c f2d f2e fz2
      obtain ⟨f3a,f3b,f3c,f3d,f3e⟩:=B3.out.cells
      have fz3:=B3.out.z
      clear xP2 yP2 xH2 yH2
      have kP:=(KP2.out.alloc (.cells #[.string fn,.bool fv,.slice A3 fs.length m3] 79))
      rw [hw3] at kP
      obtain ⟨xP3,yP3⟩:=kP.facts
      have zP3:=kP.lt
      have KP3:=Lib.hid kP
      clear kP
      have kH:=(KH2.out.alloc (.cells #[.string fn,.bool fv,.slice A3 fs.length m3] 79))
      rw [hw3] at kH
      obtain ⟨xH3,yH3⟩:=kH.facts
      have zH3:=kH.lt
      have KH3:=Lib.hid kH
      clear kH
      have kK:=(Has.new w2 79 #[.string fn,.bool fv,.slice A3 fs.length m3])
      rw [hw3] at kK
      obtain ⟨xK3,yK3⟩:=kK.facts
      have zK3:=kK.lt
      have KK3:=Lib.hid kK
      clear kK
      have HB3:=Lib.hid B3.out.b
      have HWK:=Lib.hid hw3
      clear hw3
      go_wp2_with ((with_reducible show wpList _ _ _ (Oper.mk (some 92) _ _ _ _ _ :: _) _ _);rw [HWK.out])
      refine (HHD.out pname ⟨#[]⟩ _ (HBW.out.trans (B3.out.b.mono hsz0))).mono ?_
      rintro e w4 ⟨rfl,hb4⟩
      rw [HHE.out]
      have B4:=Lib.hid (B3.out.below hb4)
      clear f3a f3b f3c f3d f3e fz3
      obtain ⟨f4a,f4b,f4c,f4d,f4e⟩:=B4.out.cells
      have fz4:=B4.out.z
      clear xP3 yP3 zP3 xH3 yH3 zH3 xK3 yK3 zK3
      have kP:=(KP3.out).on hb4
      (try simp only [World.size_alloc] at kP)
      obtain ⟨xP4,yP4⟩:=kP.facts
      have zP4:=kP.lt
      have KP4:=Lib.hid kP
      have kH:=(KH3.out).on hb4
      (try simp only [World.size_alloc] at kH)
      obtain ⟨xH4,yH4⟩:=kH.facts
      have zH4:=kH.lt
      have KH4:=Lib.hid kH
      have kK:=(KK3.out).on hb4
      (try simp only [World.size_alloc] at kK)
      obtain ⟨xK4,yK4⟩:=kK.facts
      have zK4:=kK.lt
      have KK4:=Lib.hid kK
      have HB4:=Lib.hid (bon (HB3.out) hb4)
      clear hb4 kP kH kK
      go_wp2_with fail
      obtain ⟨n4,n5⟩:=(B4.out.r.put 0 (.slice none 0 0)).facts
      refine bodyPost_ret (v:=.tuple #[.agg #[.slice none 0 0],.int .i64 5]) (by simp [results,Tryz.results45,go_sem,n4]) rfl ?_
      rw [show stepL c l _ = (([]:List Pa),(5:Int)) from (by unfold stepL;simp only [HPF.out];unfold turnL;simp [HI.out,HHD2.out])]
      have hB:=B4.out.b
      exact ⟨_,rfl,Rd.nil _ _,hB.setCell (by simp;omega) _⟩
set_option maxRecDepth 100000 in
set_option maxHeartbeats 8000000 in
theorem step_note (wb:World) (cv sv:Value) (c:List Kd) (l:List Pa) (day:Int) (part kind into slot key value:ByteArray) (ukl ukh ucl uch ull ulh:Int) (w:World) (hb0:Below wb.heap.size wb w) (hcat:Cat wb cv c) (hcl:c.length≤100000) (hks:∀ k∈c,k.short) (hsta:Sta wb sv l) (hvb:validB c l = true) (p:Pa) (hpf:pfind l part = some p) (hgo:p.gone = false) :
    Calls Tryz.prog 45 #[.agg #[cv],.agg #[sv],.agg #[.int .i64 6,.int .i64 day,.string part,.string kind,.string into,.string slot,.string key,.string value,.int .i64 ukl,.int .i64 ukh,.int .i64 ucl,.int .i64 uch,.int .i64 ull,.int .i64 ulh]] w fun r w'=>∃ v',r = .returned (.tuple #[.agg #[v'],.int .i64 (stepL c l ⟨6,day,part,kind,into,slot,key,value,ukl,ukh,ucl,uch,ull,ulh⟩).2])∧Sta w' v' (stepL c l ⟨6,day,part,kind,into,slot,key,value,ukl,ukh,ucl,uch,ull,ulh⟩).1∧Below w.heap.size w w':=by
  obtain ⟨A',cc,rfl,hn⟩:=Rd.form hcat
  obtain ⟨A,cs0,rfl,hn0⟩:=Rd.form hsta
  have hl20:=(valid_len hvb)
  have HBW:=Lib.hid hb0
  have hsz0:=hb0.size
  have B0:=Lib.hid (ApB.new w A' c.length cc A l.length cs0 #[.int .i64 6,.int .i64 day,.string part,.string kind,.string into,.string slot,.string key,.string value,.int .i64 ukl,.int .i64 ukh,.int .i64 ucl,.int .i64 uch,.int .i64 ull,.int .i64 ulh])
  have HB0:=Lib.hid B0.out.b
  have HV:=Lib.hid hsta
  have HAT:=Lib.hid (fun x W (h:Below wb.heap.size wb W)=>refAt_any wb _ l x W h hsta (by omega))
  have HF:=Lib.hid (fun x W (h:Below wb.heap.size wb W)=>refFind_any wb _ c x W h hcat hcl)
  have HTK:=Lib.hid (fun x y z W (h:Below wb.heap.size wb W)=>refTakes_any wb _ c x y z W h hcat hcl hks)
  have HHD:=Lib.hid (fun x y W (h:Below wb.heap.size wb W)=>refHeld_any wb _ l x y W h hsta (by omega))
  have HSO:=Lib.hid (sorted_ord.1 (validB_sorted hvb))
  clear hb0 hcat hks
  have HLN:=Lib.hid (part_few hvb (pfind_mem hpf).1)
  have HORD:=Lib.hid (fun (x:Pa) (hx:x∈l)=>part_sorted hvb hx)
  have HPM:=Lib.hid (pfind_mem hpf).1
  have HWI:=Lib.hid (fun (W0:World) (h0:Below wb.heap.size wb W0) (pname pkind pinto pslot:ByteArray) (pmade psince:Int) (pgone:Bool) (pprops:List Pr) (Ap:Option Addr) (mp:Nat) (pkl pkh pcl pch pdl pdh:Int) (W:World) (h:Below W0.heap.size W0 W) (hp:Rd 2 PrR W0 (.slice Ap pprops.length mp) pprops)=>with_any W0 _ l pname pkind pinto pslot pmade psince pgone pprops Ap mp pkl pkh pcl pch pdl pdh W h (hsta.below h0) hl20 (sorted_ord.1 (validB_sorted hvb)) hp)
  obtain ⟨kp,hkp,hap,hgp⟩:=atP_yes hpf
  have HAI:=Lib.hid hap
  have HPF:=Lib.hid hpf
  obtain ⟨bp,op0,cp,csp,hep,_,⟨svp,rfl,hsvp⟩,_,hrgp⟩:=Rd.get HV.out hkp noPa
  injection hep with e1 e2 e3
  subst e1;subst e3
  rw [hgp] at hsvp hrgp
  obtain ⟨Ap,mp,rfl,hnp⟩:=Rd.form hsvp
  have HPP:=Lib.hid hsvp
  have HRP0:=Lib.hid hrgp
  have hkpi:(kp:Int) < (l.length:Int):=by omega
  have hkp0:¬ (kp:Int) < 0:=by omega
  clear hap hpf hgp hsvp hrgp
  obtain ⟨pname,pkind,pinto,pslot,pmade,psince,pgone,pprops,pkl,pkh,pcl,pch,pdl,pdh⟩:=p
  have HRP:Hid (wb.rangeAt bp (op0+kp*14) [.string pname,.string pkind,.string pinto,.string pslot,.int .i64 pmade,.int .i64 psince,.bool pgone,.slice Ap pprops.length mp,.int .i64 pkl,.int .i64 pkh,.int .i64 pcl,.int .i64 pch,.int .i64 pdl,.int .i64 pdh]):=HRP0
  clear HRP0
  dsimp only at hnp HPP
  clear hvb hsta
  dsimp only at hgo
  subst hgo
  have HFK:=Lib.hid (fun W h=>HF.out pkind W h)
  generalize hfk:(kfind c pkind).getD noKd = fk at HFK
  have HFKE:=Lib.hid hfk
  clear hfk
  generalize (kfind c pkind).isSome = kb at HFK
  obtain ⟨fn,fv,fs⟩:=fk
  dsimp only at HFK
  have hpl:pprops.length≤60:=HLN.out
  have hord:=HORD.out _ HPM.out
  have hnl:=putG_len Pr.key hord (⟨key,value⟩:Pr)
  have HOX:=Lib.hid hord
  have HNO:=Lib.hid (fun W (h:Below wb.heap.size wb W)=>note_any (.slice Ap pprops.length mp) pprops key value W (HPP.out.below PrR.stays h) (by omega) hord)
  clear hord
  change Hid (OrdK Pr.key pprops) at HOX
  change pprops.length≤(putG Pr.key pprops (⟨key,value⟩:Pr)).length∧(putG Pr.key pprops (⟨key,value⟩:Pr)).length≤pprops.length+1 at hnl
  obtain ⟨nps,hnps⟩:∃ n,n = putG Pr.key pprops (⟨key,value⟩:Pr):=⟨_,rfl⟩
  rw [←hnps] at hnl HNO
  have HNP:Hid (putX pprops ⟨key,value⟩ = nps):=hnps.symm
  clear hnps
  by_cases hn60:60 < nps.length
  · have hn60:(60:Int) < (nps.length:Int):=by omega
    go_enter Tryz.func45,Tryz.ntmps45
    go_wp2_with fail
    refine (HAT.out part _ (HBW.out.trans (B0.out.b.mono hsz0))).mono ?_
    rintro e w1 ⟨rfl,hb1⟩
    rw [HAI.out]
    have B1:=Lib.hid (B0.out.below hb1)
    obtain ⟨f1a,f1b,f1c,f1d,f1e⟩:=B1.out.cells
    have fz1:=B1.out.z
    have HB1:=Lib.hid (bon (HB0.out) hb1)
    clear hb1
    have hrp:w1.rangeAt bp (op0+kp*14) [.string pname,.string pkind,.string pinto,.string pslot,.int .i64 pmade,.int .i64 psince,.bool false,.slice Ap pprops.length mp,.int .i64 pkl,.int .i64 pkh,.int .i64 pcl,.int .i64 pch,.int .i64 pdl,.int .i64 pdh]:=range_later HRP.out (HBW.out.trans (B1.out.b.mono hsz0))
    obtain ⟨R,hR⟩:∃ R:Array Value,R = #[.string pname,.string pkind,.string pinto,.string pslot,.int .i64 pmade,.int .i64 psince,.bool false,.slice Ap pprops.length mp,.int .i64 pkl,.int .i64 pkh,.int .i64 pcl,.int .i64 pch,.int .i64 pdl,.int .i64 pdh]:=⟨_,rfl⟩
    have b1:=B1.out.alloc (.cells R 47)
    have hrh:(w1.alloc (.cells R 47)).rangeAt bp (op0+kp*14) [.string pname,.string pkind,.string pinto,.string pslot,.int .i64 pmade,.int .i64 psince,.bool false,.slice Ap pprops.length mp,.int .i64 pkl,.int .i64 pkh,.int .i64 pcl,.int .i64 pch,.int .i64 pdl,.int .i64 pdh]:=range_later HRP.out (HBW.out.trans (b1.b.mono hsz0))
    obtain ⟨qa,qb,qc,qd,qe⟩:=b1.cells
    obtain ⟨ra,rb,rc,rd,re⟩:=(b1.alloc (.cells R 47)).cells
    have kP:=(Has.new w1 47 R).alloc (.cells R 47)
    have kH:=Has.new (w1.alloc (.cells R 47)) 47 R
    simp only [World.size_alloc] at kH
    obtain ⟨sa,sb⟩:=kP.facts
    obtain ⟨ta,tb⟩:=kH.facts
    clear kP kH b1
    subst hR
    go_wp2_with (first | ((with_reducible show wpList _ _ _ (Oper.mk (some 71) _ _ _ _ _ :: _) _ _);refine wpList_load_mid rfl 47 _ rfl bp (op0+kp*14) rfl _ _ hrp Tryz.underlying47 rfl rfl ?_) | ((with_reducible show wpList _ _ _ (Oper.mk (some 76) _ _ _ _ _ :: _) _ _);refine wpList_load_mid rfl 47 _ rfl bp (op0+kp*14) rfl _ _ hrh Tryz.underlying47 rfl rfl ?_))
    clear hrp hrh qa qb qc qd qe ra rb rc rd re sa sb ta tb
    refine (HFK.out _ (HBW.out.trans (((B1.out.alloc _).alloc _).b.mono hsz0))).mono ?_
    rintro e w2 ⟨A3,m3,rfl,_,hb2⟩
    have B2:=Lib.hid (((B1.out.alloc _).alloc _).below hb2)
    clear f1a f1b f1c f1d f1e fz1
    obtain ⟨f2a,f2b,f2c,f2d,f2e⟩:=B2.out.cells
    have fz2:=B2.out.z
    have kP:=((Has.new (w1) 47 _).alloc _).on hb2
    (try simp only [World.size_alloc] at kP)
    obtain ⟨xP2,yP2⟩:=kP.facts
    have zP2:=kP.lt
    have KP2:=Lib.hid kP
    have kH:=(Has.new (_) 47 _).on hb2
    (try simp only [World.size_alloc] at kH)
    obtain ⟨xH2,yH2⟩:=kH.facts
    have zH2:=kH.lt
    have KH2:=Lib.hid kH
    have HB2:=Lib.hid (bon (((HB1.out).alloc (HB1.out).size _).alloc ((HB1.out).alloc (HB1.out).size _).size _) hb2)
    clear hb2 kP kH
    have hgp:w.heap.size+1+1+1 < w1.heap.size:=B1.out.z
    obtain ⟨w3,hw3⟩:∃ W,(w2.alloc (.cells #[.string fn,.bool fv,.slice A3 fs.length m3] 79)) = W:=⟨_,rfl⟩
    have qB:=(B2.out.alloc (.cells #[.string fn,.bool fv,.slice A3 fs.length m3] 79))
    rw [hw3] at qB
    have B3:=Lib.hid qB
    clear qB f2a f2b f2c f2d f2e fz2
    obtain ⟨f3a,f3b,f3c,f3d,f3e⟩:=B3.out.cells
    have fz3:=B3.out.z
    clear xP2 yP2 xH2 yH2
    have kP:=(KP2.out.alloc (.cells #[.string fn,.bool fv,.slice A3 fs.length m3] 79))
    rw [hw3] at kP
    obtain ⟨xP3,yP3⟩:=kP.facts
    have zP3:=kP.lt
    have KP3:=Lib.hid kP
    clear kP
    have kH:=(KH2.out.alloc (.cells #[.string fn,.bool fv,.slice A3 fs.length m3] 79))
    rw [hw3] at kH
    obtain ⟨xH3,yH3⟩:=kH.facts
    have zH3:=kH.lt
    have KH3:=Lib.hid kH
    clear kH
    have kK:=(Has.new w2 79 #[.string fn,.bool fv,.slice A3 fs.length m3])
    rw [hw3] at kK
    obtain ⟨xK3,yK3⟩:=kK.facts
    have zK3:=kK.lt
    have KK3:=Lib.hid kK
    clear kK
    have HB3:=Lib.hid B3.out.b
    have HWK:=Lib.hid hw3
    clear hw3
    go_wp2_with ((with_reducible show wpList _ _ _ (Oper.mk (some 92) _ _ _ _ _ :: _) _ _);rw [HWK.out])
    refine (HNO.out _ (HBW.out.trans (B3.out.b.mono hsz0))).mono ?_
    rintro e w4 ⟨v6,rfl,ho6,hb4⟩
    obtain ⟨A6,c6,hf6⟩:=out_form ho6
    subst hf6
    have HO6:=Lib.hid ho6
    clear ho6
    have B4:=Lib.hid (B3.out.below hb4)
    clear f3a f3b f3c f3d f3e fz3
    obtain ⟨f4a,f4b,f4c,f4d,f4e⟩:=B4.out.cells
    have fz4:=B4.out.z
    clear xP3 yP3 zP3 xH3 yH3 zH3 xK3 yK3 zK3
    have kP:=(KP3.out).on hb4
    (try simp only [World.size_alloc] at kP)
    obtain ⟨xP4,yP4⟩:=kP.facts
    have zP4:=kP.lt
    have KP4:=Lib.hid kP
    have kH:=(KH3.out).on hb4
    (try simp only [World.size_alloc] at kH)
    obtain ⟨xH4,yH4⟩:=kH.facts
    have zH4:=kH.lt
    have KH4:=Lib.hid kH
    have kK:=(KK3.out).on hb4
    (try simp only [World.size_alloc] at kK)
    obtain ⟨xK4,yK4⟩:=kK.facts
    have zK4:=kK.lt
    have KK4:=Lib.hid kK
    have HB4:=Lib.hid (bon (HB3.out) hb4)
    clear hb4 kP kH kK
    obtain ⟨ra,rb,rc,rd,re⟩:=(B4.out.setCell hgp 7 (.slice A6 nps.length c6)).cells
    obtain ⟨rf,rg⟩:=(KP4.out.put 7 (.slice A6 nps.length c6)).facts
    go_wp2_with fail
    obtain ⟨n4,n5⟩:=((B4.out.setCell hgp 7 (.slice A6 nps.length c6)).r.put 0 (.slice none 0 0)).facts
    refine bodyPost_ret (v:=.tuple #[.agg #[.slice none 0 0],.int .i64 7]) (by simp [results,Tryz.results45,go_sem,n4]) rfl ?_
    rw [show stepL c l _ = (([]:List Pa),(7:Int)) from (by have h9:putX pprops ⟨key,value⟩ = nps:=HNP.out;have h8:60 < nps.length:=(by omega);unfold stepL;simp only [HPF.out];unfold turnL;simp [h9,h8])]
    have hB:=(B4.out.setCell hgp 7 (.slice A6 nps.length c6)).b
    exact ⟨_,rfl,Rd.nil _ _,hB.setCell (by simp;omega) _⟩
  · have hn61:¬ (60:Int) < (nps.length:Int):=by omega
    go_enter Tryz.func45,Tryz.ntmps45
    go_wp2_with fail
    refine (HAT.out part _ (HBW.out.trans (B0.out.b.mono hsz0))).mono ?_
    rintro e w1 ⟨rfl,hb1⟩
    rw [HAI.out]
    have B1:=Lib.hid (B0.out.below hb1)
    obtain ⟨f1a,f1b,f1c,f1d,f1e⟩:=B1.out.cells
    have fz1:=B1.out.z
    have HB1:=Lib.hid (bon (HB0.out) hb1)
    clear hb1
    have hrp:w1.rangeAt bp (op0+kp*14) [.string pname,.string pkind,.string pinto,.string pslot,.int .i64 pmade,.int .i64 psince,.bool false,.slice Ap pprops.length mp,.int .i64 pkl,.int .i64 pkh,.int .i64 pcl,.int .i64 pch,.int .i64 pdl,.int .i64 pdh]:=range_later HRP.out (HBW.out.trans (B1.out.b.mono hsz0))
    obtain ⟨R,hR⟩:∃ R:Array Value,R = #[.string pname,.string pkind,.string pinto,.string pslot,.int .i64 pmade,.int .i64 psince,.bool false,.slice Ap pprops.length mp,.int .i64 pkl,.int .i64 pkh,.int .i64 pcl,.int .i64 pch,.int .i64 pdl,.int .i64 pdh]:=⟨_,rfl⟩
    have b1:=B1.out.alloc (.cells R 47)
    have hrh:(w1.alloc (.cells R 47)).rangeAt bp (op0+kp*14) [.string pname,.string pkind,.string pinto,.string pslot,.int .i64 pmade,.int .i64 psince,.bool false,.slice Ap pprops.length mp,.int .i64 pkl,.int .i64 pkh,.int .i64 pcl,.int .i64 pch,.int .i64 pdl,.int .i64 pdh]:=range_later HRP.out (HBW.out.trans (b1.b.mono hsz0))
    obtain ⟨qa,qb,qc,qd,qe⟩:=b1.cells
    obtain ⟨ra,rb,rc,rd,re⟩:=(b1.alloc (.cells R 47)).cells
    have kP:=(Has.new w1 47 R).alloc (.cells R 47)
    have kH:=Has.new (w1.alloc (.cells R 47)) 47 R
    simp only [World.size_alloc] at kH
    obtain ⟨sa,sb⟩:=kP.facts
    obtain ⟨ta,tb⟩:=kH.facts
    clear kP kH b1
    subst hR
    go_wp2_with (first | ((with_reducible show wpList _ _ _ (Oper.mk (some 71) _ _ _ _ _ :: _) _ _);refine wpList_load_mid rfl 47 _ rfl bp (op0+kp*14) rfl _ _ hrp Tryz.underlying47 rfl rfl ?_) | ((with_reducible show wpList _ _ _ (Oper.mk (some 76) _ _ _ _ _ :: _) _ _);refine wpList_load_mid rfl 47 _ rfl bp (op0+kp*14) rfl _ _ hrh Tryz.underlying47 rfl rfl ?_))
    clear hrp hrh qa qb qc qd qe ra rb rc rd re sa sb ta tb
    refine (HFK.out _ (HBW.out.trans (((B1.out.alloc _).alloc _).b.mono hsz0))).mono ?_
    rintro e w2 ⟨A3,m3,rfl,_,hb2⟩
    have B2:=Lib.hid (((B1.out.alloc _).alloc _).below hb2)
    clear f1a f1b f1c f1d f1e fz1
    obtain ⟨f2a,f2b,f2c,f2d,f2e⟩:=B2.out.cells
    have fz2:=B2.out.z
    have kP:=((Has.new (w1) 47 _).alloc _).on hb2
    (try simp only [World.size_alloc] at kP)
    obtain ⟨xP2,yP2⟩:=kP.facts
    have zP2:=kP.lt
    have KP2:=Lib.hid kP
    have kH:=(Has.new (_) 47 _).on hb2
    (try simp only [World.size_alloc] at kH)
    obtain ⟨xH2,yH2⟩:=kH.facts
    have zH2:=kH.lt
    have KH2:=Lib.hid kH
    have HB2:=Lib.hid (bon (((HB1.out).alloc (HB1.out).size _).alloc ((HB1.out).alloc (HB1.out).size _).size _) hb2)
    clear hb2 kP kH
    have hgp:w.heap.size+1+1+1 < w1.heap.size:=B1.out.z
    obtain ⟨w3,hw3⟩:∃ W,(w2.alloc (.cells #[.string fn,.bool fv,.slice A3 fs.length m3] 79)) = W:=⟨_,rfl⟩
    have qB:=(B2.out.alloc (.cells #[.string fn,.bool fv,.slice A3 fs.length m3] 79))
    rw [hw3] at qB
    have B3:=Lib.hid qB
    clear qB f2a f2b f2c f2d f2e fz2
    obtain ⟨f3a,f3b,f3c,f3d,f3e⟩:=B3.out.cells
    have fz3:=B3.out.z
    clear xP2 yP2 xH2 yH2
    have kP:=(KP2.out.alloc (.cells #[.string fn,.bool fv,.slice A3 fs.length m3] 79))
    rw [hw3] at kP
    obtain ⟨xP3,yP3⟩:=kP.facts
    have zP3:=kP.lt
    have KP3:=Lib.hid kP
    clear kP
    have kH:=(KH2.out.alloc (.cells #[.string fn,.bool fv,.slice A3 fs.length m3] 79))
    rw [hw3] at kH
    obtain ⟨xH3,yH3⟩:=kH.facts
    have zH3:=kH.lt
    have KH3:=Lib.hid kH
    clear kH
    have kK:=(Has.new w2 79 #[.string fn,.bool fv,.slice A3 fs.length m3])
    rw [hw3] at kK
    obtain ⟨xK3,yK3⟩:=kK.facts
    have zK3:=kK.lt
    have KK3:=Lib.hid kK
    clear kK
    have HB3:=Lib.hid B3.out.b
    have HWK:=Lib.hid hw3
    clear hw3
    go_wp2_with ((with_reducible show wpList _ _ _ (Oper.mk (some 92) _ _ _ _ _ :: _) _ _);rw [HWK.out])
    refine (HNO.out _ (HBW.out.trans (B3.out.b.mono hsz0))).mono ?_
    rintro e w4 ⟨v6,rfl,ho6,hb4⟩
    obtain ⟨A6,c6,hf6⟩:=out_form ho6
    subst hf6
    have HO6:=Lib.hid ho6
    clear ho6
    have B4:=Lib.hid (B3.out.below hb4)
    clear f3a f3b f3c f3d f3e fz3
    obtain ⟨f4a,f4b,f4c,f4d,f4e⟩:=B4.out.cells
    have fz4:=B4.out.z
    clear xP3 yP3 zP3 xH3 yH3 zH3 xK3 yK3 zK3
    have kP:=(KP3.out).on hb4
    (try simp only [World.size_alloc] at kP)
    obtain ⟨xP4,yP4⟩:=kP.facts
    have zP4:=kP.lt
    have KP4:=Lib.hid kP
    have kH:=(KH3.out).on hb4
    (try simp only [World.size_alloc] at kH)
    obtain ⟨xH4,yH4⟩:=kH.facts
    have zH4:=kH.lt
    have KH4:=Lib.hid kH
    have kK:=(KK3.out).on hb4
    (try simp only [World.size_alloc] at kK)
    obtain ⟨xK4,yK4⟩:=kK.facts
    have zK4:=kK.lt
    have KK4:=Lib.hid kK
    have HB4:=Lib.hid (bon (HB3.out) hb4)
    clear hb4 kP kH kK
    have hrx:(w4.setCell ⟨w1.heap.size,7,none⟩ (.slice A6 nps.length c6)).rangeAt w1.heap.size 0 [.string pname,.string pkind,.string pinto,.string pslot,.int .i64 pmade,.int .i64 psince,.bool false,.slice A6 nps.length c6,.int .i64 pkl,.int .i64 pkh,.int .i64 pcl,.int .i64 pch,.int .i64 pdl,.int .i64 pdh]:=has_range (KP4.out.put 7 (.slice A6 nps.length c6))
    obtain ⟨ra,rb,rc,rd,re⟩:=(B4.out.setCell hgp 7 (.slice A6 nps.length c6)).cells
    obtain ⟨rf,rg⟩:=(KP4.out.put 7 (.slice A6 nps.length c6)).facts
    go_wp2_with (first | ((with_reducible show wpList _ _ _ (Oper.mk (some 179) _ _ _ _ _ :: _) _ _);refine wpList_load_mid rfl 47 _ rfl w1.heap.size 0 rfl _ _ hrx Tryz.underlying47 rfl rfl ?_))
    refine (HWI.out _ (HBW.out.trans ((B4.out.setCell hgp 7 (.slice A6 nps.length c6)).b.mono hsz0)) pname pkind pinto pslot pmade psince false nps A6 c6 pkl pkh pcl pch pdl pdh _ (Below.refl _ _) (Out.rd PrR.stays (Below.refl _ _) (outX_any (HO6.out.far KP3.out.lt 7 (.slice A6 nps.length c6))))).mono ?_
    rintro e w9 ⟨v9,rfl,hst9,hb9⟩
    obtain ⟨A9,c9,hv9,_⟩:=Rd.form hst9
    subst hv9
    have BN:=Lib.hid ((B4.out.setCell hgp 7 (.slice A6 nps.length c6)).below hb9)
    have HST9:=Lib.hid hst9
    clear hst9 hb9
    obtain ⟨na,nb,nc,nd,ne⟩:=BN.out.cells
    go_wp2_with fail
    obtain ⟨n4,n5⟩:=(BN.out.r.put 0 (.slice A9 (putG Pa.name l (⟨pname,pkind,pinto,pslot,pmade,psince,false,nps,pkl,pkh,pcl,pch,pdl,pdh⟩:Pa)).length c9)).facts
    refine bodyPost_ret (v:=.tuple #[.agg #[.slice A9 (putG Pa.name l (⟨pname,pkind,pinto,pslot,pmade,psince,false,nps,pkl,pkh,pcl,pch,pdl,pdh⟩:Pa)).length c9],.int .i64 0]) (by simp [results,Tryz.results45,go_sem,n4]) rfl ?_
    rw [show stepL c l _ = (putP l (⟨pname,pkind,pinto,pslot,pmade,psince,false,nps,pkl,pkh,pcl,pch,pdl,pdh⟩:Pa),(0:Int)) from (by have h9:putX pprops ⟨key,value⟩ = nps:=HNP.out;have h8:¬ 60 < nps.length:=(by omega);unfold stepL;simp only [HPF.out];unfold turnL;simp [h9,h8])]
    have hB:=BN.out.b
    have hz:=BN.out.z
    exact ⟨_,rfl,Sta.far1 HST9.out _ BN.out.r,hB.setCell (by simp;omega) _⟩
end Go.Proofs.YtpikcofbhkbifaaGreat
