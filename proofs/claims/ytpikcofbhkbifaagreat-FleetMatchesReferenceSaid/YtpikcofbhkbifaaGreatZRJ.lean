/- bogieref10.Apply: it is the fleet's. No condition but sizes. bogielaw10.FleetMatchesReference returns true: the walk. No condition but sizes. For every catalog, state and event bogielaw10.FleetMatchesReference returns true, and leaves them alone. No condition of its own. -/
import Derived.Test.YtpikcofbhkbifaaGreatRows
import Derived.Test.YtpikcofbhkbifaaGreatU26
import Derived.Test.YtpikcofbhkbifaaGreatU27
import Derived.Test.YtpikcofbhkbifaaGreatZRA
import Derived.Test.YtpikcofbhkbifaaGreatZRH
import Derived.Test.YtpikcofbhkbifaaGreatZRI
namespace Go.Proofs.YtpikcofbhkbifaaGreat
open Go Go.RowKit
set_option maxRecDepth 100000 in
set_option maxHeartbeats 8000000 in
theorem refApply_any (wb:World) (cv sv:Value) (c:List Kd) (l:List Pa) (ev:Ev) (w:World) (hb0:Below wb.heap.size wb w) (hcat:Cat wb cv c) (hcl:c.length≤100000) (hks:∀ k∈c,k.short) (hsta:Sta wb sv l) (hl:l.length≤99999) (hps:∀ p∈l,p.short) (hev:ev.short) :
    Calls Tryz.prog 11 #[.agg #[cv],.agg #[sv],.agg ev.cells] w fun r w'=>∃ v',r = .returned (.tuple #[.agg #[v'],.int .i64 (applyL c l ev).2])∧Sta w' v' (applyL c l ev).1∧Below w.heap.size w w':=by
  obtain ⟨A',cc,rfl,hn⟩:=Rd.form hcat
  obtain ⟨A,cs0,rfl,hn0⟩:=Rd.form hsta
  obtain ⟨op,day,part,kind,into,slot,key,value,ukl,ukh,ucl,uch,ull,ulh⟩:=ev
  have HBW:=Lib.hid hb0
  have hsz0:=hb0.size
  have B0:=Lib.hid (ApB.new w A' c.length cc A l.length cs0 #[.int .i64 op,.int .i64 day,.string part,.string kind,.string into,.string slot,.string key,.string value,.int .i64 ukl,.int .i64 ukh,.int .i64 ucl,.int .i64 uch,.int .i64 ull,.int .i64 ulh])
  have HB0:=Lib.hid B0.out.b
  have HVA:=Lib.hid (fun W (h:Below wb.heap.size wb W)=>refValid_any wb _ _ c l W h hcat hcl hks hsta (by omega) hps)
  have HEA:=Lib.hid (fun W=>refEv_any (⟨op,day,part,kind,into,slot,key,value,ukl,ukh,ucl,uch,ull,ulh⟩:Ev) W hev)
  have HSA:=Lib.hid (fun hv ho W (h:Below wb.heap.size wb W)=>step_any wb _ _ c l (⟨op,day,part,kind,into,slot,key,value,ukl,ukh,ucl,uch,ull,ulh⟩:Ev) W h hcat hcl hks hsta hv ho)
  show Calls Tryz.prog 11 #[.agg #[.slice A' c.length cc],.agg #[.slice A l.length cs0],.agg #[.int .i64 op,.int .i64 day,.string part,.string kind,.string into,.string slot,.string key,.string value,.int .i64 ukl,.int .i64 ukh,.int .i64 ucl,.int .i64 uch,.int .i64 ull,.int .i64 ulh]] w _
  clear hb0 hcat hks hsta hps hev
  cases hvb:validB c l
  · have HVB:=Lib.hid hvb
    clear hvb
    go_enter Tryz.func11,Tryz.ntmps11
    go_wp2_with fail
    refine (HVA.out _ (HBW.out.trans (B0.out.b.mono hsz0))).mono ?_
    rintro e w1 ⟨rfl,hb1⟩
    rw [HVB.out]
    have B1:=Lib.hid (B0.out.below hb1)
    obtain ⟨f1a,f1b,f1c,f1d,f1e⟩:=B1.out.cells
    have fz1:=B1.out.z
    have HB1:=Lib.hid (bon (HB0.out) hb1)
    clear hb1
    go_wp2_with fail
    obtain ⟨n4,n5⟩:=(B1.out.r.put 0 (.slice none 0 0)).facts
    refine bodyPost_ret (v:=.tuple #[.agg #[.slice none 0 0],.int .i64 1]) (by simp [results,Tryz.results11,go_sem,n4]) rfl ?_
    rw [show applyL c l _ = (([]:List Pa),(1:Int)) from (by unfold applyL;rw [HVB.out];rfl)]
    have hB:=B1.out.b
    exact ⟨_,rfl,Rd.nil _ _,hB.setCell (by simp;omega) _⟩
  · have HVB:=Lib.hid hvb
    clear hvb
    cases hob:evOk (⟨op,day,part,kind,into,slot,key,value,ukl,ukh,ucl,uch,ull,ulh⟩:Ev)
    · have HOB:=Lib.hid hob
      clear hob
      go_enter Tryz.func11,Tryz.ntmps11
      go_wp2_with fail
      refine (HVA.out _ (HBW.out.trans (B0.out.b.mono hsz0))).mono ?_
      rintro e w1 ⟨rfl,hb1⟩
      rw [HVB.out]
      have B1:=Lib.hid (B0.out.below hb1)
      obtain ⟨f1a,f1b,f1c,f1d,f1e⟩:=B1.out.cells
      have fz1:=B1.out.z
      have HB1:=Lib.hid (bon (HB0.out) hb1)
      clear hb1
      go_wp2_with fail
      refine (HEA.out _).mono ?_
      rintro e w2 ⟨rfl,hb2⟩
      rw [HOB.out]
      have B2:=Lib.hid (B1.out.below hb2)
      clear f1a f1b f1c f1d f1e fz1
      obtain ⟨f2a,f2b,f2c,f2d,f2e⟩:=B2.out.cells
      have fz2:=B2.out.z
      have HB2:=Lib.hid (bon (HB1.out) hb2)
      clear hb2
      go_wp2_with fail
      obtain ⟨n4,n5⟩:=(B2.out.r.put 0 (.slice none 0 0)).facts
      refine bodyPost_ret (v:=.tuple #[.agg #[.slice none 0 0],.int .i64 1]) (by simp [results,Tryz.results11,go_sem,n4]) rfl ?_
      rw [show applyL c l _ = (([]:List Pa),(1:Int)) from (by unfold applyL;rw [HVB.out,HOB.out];rfl)]
      have hB:=B2.out.b
      exact ⟨_,rfl,Rd.nil _ _,hB.setCell (by simp;omega) _⟩
    · have HOB:=Lib.hid hob
      have HSB:=Lib.hid (HSA.out HVB.out hob)
      clear hob HSA
      have hap:applyL c l (⟨op,day,part,kind,into,slot,key,value,ukl,ukh,ucl,uch,ull,ulh⟩:Ev) = stepL c l ⟨op,day,part,kind,into,slot,key,value,ukl,ukh,ucl,uch,ull,ulh⟩:=by unfold applyL;rw [HVB.out,HOB.out];rfl
      rw [hap]
      clear hap
      generalize stepL c l (⟨op,day,part,kind,into,slot,key,value,ukl,ukh,ucl,uch,ull,ulh⟩:Ev) = R at HSB ⊢
      obtain ⟨t,r⟩:=R
      dsimp only at HSB ⊢
      go_enter Tryz.func11,Tryz.ntmps11
      go_wp2_with fail
      refine (HVA.out _ (HBW.out.trans (B0.out.b.mono hsz0))).mono ?_
      rintro e w1 ⟨rfl,hb1⟩
      rw [HVB.out]
      have B1:=Lib.hid (B0.out.below hb1)
      obtain ⟨f1a,f1b,f1c,f1d,f1e⟩:=B1.out.cells
      have fz1:=B1.out.z
      have HB1:=Lib.hid (bon (HB0.out) hb1)
      clear hb1
      go_wp2_with fail
      refine (HEA.out _).mono ?_
      rintro e w2 ⟨rfl,hb2⟩
      rw [HOB.out]
      have B2:=Lib.hid (B1.out.below hb2)
      clear f1a f1b f1c f1d f1e fz1
      obtain ⟨f2a,f2b,f2c,f2d,f2e⟩:=B2.out.cells
      have fz2:=B2.out.z
      have HB2:=Lib.hid (bon (HB1.out) hb2)
      clear hb2
      go_wp2_with fail
      refine (HSB.out _ (HBW.out.trans (B2.out.b.mono hsz0))).mono ?_
      rintro e w9 ⟨v9,rfl,hst9,hb9⟩
      obtain ⟨A9,c9,hv9,_⟩:=Rd.form hst9
      subst hv9
      have BN:=Lib.hid (B2.out.below hb9)
      have HST9:=Lib.hid hst9
      clear hst9 hb9
      obtain ⟨na,nb,nc,nd,ne⟩:=BN.out.cells
      go_wp2_with fail
      obtain ⟨n4,n5⟩:=(BN.out.r.put 0 (.slice A9 t.length c9)).facts
      refine bodyPost_ret (v:=.tuple #[.agg #[.slice A9 t.length c9],.int .i64 r]) (by simp [results,Tryz.results11,go_sem,n4]) rfl ?_
      have hB:=BN.out.b
      have hz:=BN.out.z
      exact ⟨_,rfl,Sta.far1 HST9.out _ BN.out.r,hB.setCell (by simp;omega) _⟩
end Go.Proofs.YtpikcofbhkbifaaGreat
namespace Go.Proofs.YtpikcofbhkbifaaGreat
open Go Go.RowKit
theorem app_size {c:List Kd} {l:List Pa} {e:Ev} (hl:∀ p∈l,p.short) (he:e.short):(applyL c l e).1.length≤1000000∧∀ p∈(applyL c l e).1,p.props.length≤100000:=by
  by_cases h0:(applyL c l e).2 = 0
  · obtain ⟨h1,h2⟩:=apply_short hl he (apply_err0 h0)
    exact ⟨by omega,fun p hp=>(h2 p hp).2.2.2.2.1⟩
  · rw [apply_err h0]
    exact ⟨by simp,fun p hp=>by cases hp⟩
set_option maxRecDepth 100000 in
set_option maxHeartbeats 16000000 in
theorem matches_any (cv sv:Value) (c:List Kd) (l:List Pa) (ev:Ev) (w:World) (hcat:Cat w cv c) (hsta:Sta w sv l) (hl:l.length≤maxLen) (hps:∀ p∈l,p.wide) (hev:ev.short) :
    Calls Tryz.prog 3 #[.agg #[cv],.agg #[sv],.agg ev.cells] w fun e w'=>e = .returned (.bool true)∧Below w.heap.size w w':=by
  obtain ⟨A',cc,rfl,_⟩:=Rd.form hcat
  obtain ⟨A,cs,rfl,hn⟩:=Rd.form hsta
  obtain ⟨op,day,part,kind,into,slot,key,value,ukl,ukh,ucl,uch,ull,ulh⟩:=ev
  have HST:=Lib.hid hsta
  have HFW:=Lib.hid (fun W (h:Below w.heap.size w W) {g:Nat} (hv:Sl W (.slice (some ⟨g,0,none⟩) 1 1) 1 14 (evF [⟨op,day,part,kind,into,slot,key,value,ukl,ukh,ucl,uch,ull,ulh⟩]))=>few_any W (.slice A' c.length cc) (.slice A l.length cs) (.slice (some ⟨g,0,none⟩) 1 1) c l [⟨op,day,part,kind,into,slot,key,value,ukl,ukh,ucl,uch,ull,ulh⟩] W (Below.refl _ _) (hcat.below h) (hsta.below h) hv hl hps (by simp [maxLen]))
  have HAP:=Lib.hid (fun (h65:c.length≤65∧∀ k∈c,k.short) (h20:l.length≤20∧∀ p∈l,p.short) W (h:Below w.heap.size w W)=>apply_any w (.slice A' c.length cc) (.slice A l.length cs) c l ⟨op,day,part,kind,into,slot,key,value,ukl,ukh,ucl,uch,ull,ulh⟩ W h hcat (by omega) h65.2 hsta (by omega) h20.2 hev)
  have HRA:=Lib.hid (fun (h65:c.length≤65∧∀ k∈c,k.short) (h20:l.length≤20∧∀ p∈l,p.short) W (h:Below w.heap.size w W)=>refApply_any w (.slice A' c.length cc) (.slice A l.length cs) c l ⟨op,day,part,kind,into,slot,key,value,ukl,ukh,ucl,uch,ull,ulh⟩ W h hcat (by omega) h65.2 hsta (by omega) h20.2 hev)
  have HVL:=Lib.hid (fun (h65:c.length≤65∧∀ k∈c,k.short) (h20:l.length≤20∧∀ p∈l,p.short) W (h:Below w.heap.size w W)=>fvalid_any w (.slice A' c.length cc) (.slice A l.length cs) c l W h hcat (by omega) h65.2 hsta (by omega) h20.2)
  have HRV:=Lib.hid (fun (h65:c.length≤65∧∀ k∈c,k.short) (h20:l.length≤20∧∀ p∈l,p.short) W (h:Below w.heap.size w W)=>refValid_any w (.slice A' c.length cc) (.slice A l.length cs) c l W h hcat (by omega) h65.2 hsta (by omega) h20.2)
  have HSZ:=Lib.hid (fun (h20:l.length≤20∧∀ p∈l,p.short)=>app_size (c:=c) h20.2 hev)
  have k1:=((Has.new w 24 #[.slice A' c.length cc]).alloc (.cells #[.slice A l.length cs] 27)).alloc (.cells #[.int .i64 op,.int .i64 day,.string part,.string kind,.string into,.string slot,.string key,.string value,.int .i64 ukl,.int .i64 ukh,.int .i64 ucl,.int .i64 uch,.int .i64 ull,.int .i64 ulh] 33)
  have k2:=(Has.new (w.alloc (.cells #[.slice A' c.length cc] 24)) 27 #[.slice A l.length cs]).alloc (.cells #[.int .i64 op,.int .i64 day,.string part,.string kind,.string into,.string slot,.string key,.string value,.int .i64 ukl,.int .i64 ukh,.int .i64 ucl,.int .i64 uch,.int .i64 ull,.int .i64 ulh] 33)
  have k3:=Has.new ((w.alloc (.cells #[.slice A' c.length cc] 24)).alloc (.cells #[.slice A l.length cs] 27)) 33 #[.int .i64 op,.int .i64 day,.string part,.string kind,.string into,.string slot,.string key,.string value,.int .i64 ukl,.int .i64 ukh,.int .i64 ucl,.int .i64 uch,.int .i64 ull,.int .i64 ulh]
  simp only [World.size_alloc] at k2 k3
  have KC0:=Lib.hid k1
  have KS0:=Lib.hid k2
  have KE0:=Lib.hid k3
  have HB0:=Lib.hid ((((Below.refl w.heap.size w).alloc (Nat.le_refl _) (.cells #[.slice A' c.length cc] 24)).alloc (by simp) (.cells #[.slice A l.length cs] 27)).alloc (by simp;omega) (.cells #[.int .i64 op,.int .i64 day,.string part,.string kind,.string into,.string slot,.string key,.string value,.int .i64 ukl,.int .i64 ukh,.int .i64 ucl,.int .i64 uch,.int .i64 ull,.int .i64 ulh] 33))
  show Calls Tryz.prog 3 #[.agg #[.slice A' c.length cc],.agg #[.slice A l.length cs],.agg #[.int .i64 op,.int .i64 day,.string part,.string kind,.string into,.string slot,.string key,.string value,.int .i64 ukl,.int .i64 ukh,.int .i64 ucl,.int .i64 uch,.int .i64 ull,.int .i64 ulh]] w _
  clear hcat hsta hps k1 k2 k3
  cases hfew:fewB c l [⟨op,day,part,kind,into,slot,key,value,ukl,ukh,ucl,uch,ull,ulh⟩]
  · have HFEW:=Lib.hid hfew
    clear hfew HVL HRV HAP HRA HST HSZ hev
    go_enter Tryz.func3,Tryz.ntmps3
    go_wp2_with fail
    refine (head_any _).mono ?_
    rintro e w1 ⟨rfl,hb1⟩
    have kC:=(KC0.out).on hb1
    obtain ⟨xC1,yC1⟩:=kC.facts
    have zC1:=kC.lt
    have KC1:=Lib.hid kC
    have kS:=(KS0.out).on hb1
    obtain ⟨xS1,yS1⟩:=kS.facts
    have zS1:=kS.lt
    have KS1:=Lib.hid kS
    have kE:=(KE0.out).on hb1
    obtain ⟨xE1,yE1⟩:=kE.facts
    have zE1:=kE.lt
    have KE1:=Lib.hid kE
    have HB1:=Lib.hid (bon (HB0.out) hb1)
    clear hb1 kC kS kE
    go_wp2_with fail
    refine (HFW.out _ ((HB1.out).alloc (HB1.out).size _) (ev_sl (e:=⟨op,day,part,kind,into,slot,key,value,ukl,ukh,ucl,uch,ull,ulh⟩) (Has.new w1 33 #[.int .i64 op,.int .i64 day,.string part,.string kind,.string into,.string slot,.string key,.string value,.int .i64 ukl,.int .i64 ukh,.int .i64 ucl,.int .i64 uch,.int .i64 ull,.int .i64 ulh]))).mono ?_
    rintro e w2 ⟨rfl,hb2⟩
    rw [HFEW.out]
    clear xC1 yC1 zC1 xS1 yS1 zS1 xE1 yE1 zE1
    have kC:=((KC1.out).alloc _).on hb2
    obtain ⟨xC2,yC2⟩:=kC.facts
    have zC2:=kC.lt
    have KC2:=Lib.hid kC
    have kS:=((KS1.out).alloc _).on hb2
    obtain ⟨xS2,yS2⟩:=kS.facts
    have zS2:=kS.lt
    have KS2:=Lib.hid kS
    have kE:=((KE1.out).alloc _).on hb2
    obtain ⟨xE2,yE2⟩:=kE.facts
    have zE2:=kE.lt
    have KE2:=Lib.hid kE
    have HB2:=Lib.hid (bon ((HB1.out).alloc (HB1.out).size _) hb2)
    clear hb2 kC kS kE
    go_wp2_with fail
    go_ret
    exact ⟨rfl,HB2.out⟩
  obtain ⟨h65,h20⟩:=fewB_take hfew
  have HVL:=Lib.hid (HVL.out h65 h20)
  have HRV:=Lib.hid (HRV.out h65 h20)
  have HAP:=Lib.hid (HAP.out h65 h20)
  have HRA:=Lib.hid (HRA.out h65 h20)
  have HSZ:=Lib.hid (HSZ.out h20)
  have HFEW:=Lib.hid hfew
  clear hfew h65 h20 hev hl
  generalize applyL c l ⟨op,day,part,kind,into,slot,key,value,ukl,ukh,ucl,uch,ull,ulh⟩ = R at HAP HRA HSZ
  obtain ⟨t,r⟩:=R
  dsimp only at HAP HRA HSZ
  obtain ⟨vb,hvb⟩:∃ b,b = validB c l:=⟨_,rfl⟩
  rw [←hvb] at HVL HRV
  clear hvb
  go_enter Tryz.func3,Tryz.ntmps3
  go_wp2_with fail
  refine (head_any _).mono ?_
  rintro e w1 ⟨rfl,hb1⟩
  have kC:=(KC0.out).on hb1
  obtain ⟨xC1,yC1⟩:=kC.facts
  have zC1:=kC.lt
  have KC1:=Lib.hid kC
  have kS:=(KS0.out).on hb1
  obtain ⟨xS1,yS1⟩:=kS.facts
  have zS1:=kS.lt
  have KS1:=Lib.hid kS
  have kE:=(KE0.out).on hb1
  obtain ⟨xE1,yE1⟩:=kE.facts
  have zE1:=kE.lt
  have KE1:=Lib.hid kE
  have HB1:=Lib.hid (bon (HB0.out) hb1)
  clear hb1 kC kS kE
  go_wp2_with fail
  refine (HFW.out _ ((HB1.out).alloc (HB1.out).size _) (ev_sl (e:=⟨op,day,part,kind,into,slot,key,value,ukl,ukh,ucl,uch,ull,ulh⟩) (Has.new w1 33 #[.int .i64 op,.int .i64 day,.string part,.string kind,.string into,.string slot,.string key,.string value,.int .i64 ukl,.int .i64 ukh,.int .i64 ucl,.int .i64 uch,.int .i64 ull,.int .i64 ulh]))).mono ?_
  rintro e w2 ⟨rfl,hb2⟩
  rw [HFEW.out]
  clear xC1 yC1 zC1 xS1 yS1 zS1 xE1 yE1 zE1
  have kC:=((KC1.out).alloc _).on hb2
  obtain ⟨xC2,yC2⟩:=kC.facts
  have zC2:=kC.lt
  have KC2:=Lib.hid kC
  have kS:=((KS1.out).alloc _).on hb2
  obtain ⟨xS2,yS2⟩:=kS.facts
  have zS2:=kS.lt
  have KS2:=Lib.hid kS
  have kE:=((KE1.out).alloc _).on hb2
  obtain ⟨xE2,yE2⟩:=kE.facts
  have zE2:=kE.lt
  have KE2:=Lib.hid kE
  have HB2:=Lib.hid (bon ((HB1.out).alloc (HB1.out).size _) hb2)
  clear hb2 kC kS kE
  go_wp2_with fail
  refine (HAP.out _ (HB2.out)).mono ?_
  rintro e w3 ⟨v3,rfl,hst3,hb3⟩
  obtain ⟨A3,c3,hf3,_⟩:=Rd.form hst3
  subst hf3
  have HST3:=Lib.hid hst3
  clear hst3
  clear xC2 yC2 zC2 xS2 yS2 zS2 xE2 yE2 zE2
  have kC:=(KC2.out).on hb3
  obtain ⟨xC3,yC3⟩:=kC.facts
  have zC3:=kC.lt
  have KC3:=Lib.hid kC
  have kS:=(KS2.out).on hb3
  obtain ⟨xS3,yS3⟩:=kS.facts
  have zS3:=kS.lt
  have KS3:=Lib.hid kS
  have kE:=(KE2.out).on hb3
  obtain ⟨xE3,yE3⟩:=kE.facts
  have zE3:=kE.lt
  have KE3:=Lib.hid kE
  have HB3:=Lib.hid (bon (HB2.out) hb3)
  clear hb3 kC kS kE
  go_wp2_with fail
  refine (HRA.out _ ((HB3.out).alloc (HB3.out).size _)).mono ?_
  rintro e w4 ⟨v4,rfl,hst4,hb4⟩
  obtain ⟨A4,c4,hf4,_⟩:=Rd.form hst4
  subst hf4
  have HST4:=Lib.hid hst4
  have HX3:=Lib.hid (HST3.out.below (((Below.refl _ _).alloc (Nat.le_refl _) _).trans (hb4.mono (by simp))))
  clear hst4
  clear xC3 yC3 zC3 xS3 yS3 zS3 xE3 yE3 zE3
  have kC:=((KC3.out).alloc _).on hb4
  obtain ⟨xC4,yC4⟩:=kC.facts
  have zC4:=kC.lt
  have KC4:=Lib.hid kC
  have kS:=((KS3.out).alloc _).on hb4
  obtain ⟨xS4,yS4⟩:=kS.facts
  have zS4:=kS.lt
  have KS4:=Lib.hid kS
  have kE:=((KE3.out).alloc _).on hb4
  obtain ⟨xE4,yE4⟩:=kE.facts
  have zE4:=kE.lt
  have KE4:=Lib.hid kE
  have kT:=(Has.new (w3) 27 _).on hb4
  obtain ⟨xT4,yT4⟩:=kT.facts
  have zT4:=kT.lt
  have KT4:=Lib.hid kT
  have HB4:=Lib.hid (bon ((HB3.out).alloc (HB3.out).size _) hb4)
  clear hb4 kC kS kE kT
  obtain ⟨W1,hW1⟩:∃ W,(w4.alloc (.cells #[.slice A4 t.length c4] 27)) = W:=⟨_,rfl⟩
  have kC:=KC4.out.alloc (.cells #[.slice A4 t.length c4] 27)
  rw [hW1] at kC
  have KC:=Lib.hid kC
  clear kC
  have kS:=KS4.out.alloc (.cells #[.slice A4 t.length c4] 27)
  rw [hW1] at kS
  have KS:=Lib.hid kS
  clear kS
  have kT:=KT4.out.alloc (.cells #[.slice A4 t.length c4] 27)
  rw [hW1] at kT
  have KT:=Lib.hid kT
  clear kT
  have kU:=Has.new w4 27 #[.slice A4 t.length c4]
  rw [hW1] at kU
  have KU:=Lib.hid kU
  clear kU
  have hBB:=HB4.out.alloc HB4.out.size (.cells #[.slice A4 t.length c4] 27)
  rw [hW1] at hBB
  have HBB:=Lib.hid hBB
  clear hBB
  have hxa:=HX3.out.below ((Below.refl w4.heap.size w4).alloc (Nat.le_refl _) (.cells #[.slice A4 t.length c4] 27))
  rw [hW1] at hxa
  have HXA:=Lib.hid hxa
  clear hxa
  have hxb:=HST4.out.below ((Below.refl w4.heap.size w4).alloc (Nat.le_refl _) (.cells #[.slice A4 t.length c4] 27))
  rw [hW1] at hxb
  have HXB:=Lib.hid hxb
  clear hxb
  have HW1:=Lib.hid hW1
  clear hW1
  have HLN:=Lib.hid HSZ.out.1
  have HPN:=Lib.hid HSZ.out.2
  go_wp2_with fail
  rw [HW1.out]
  have HKs:=Lib.hid (fun W (h:Below W1.heap.size W1 W)=>(⟨h,(KC.out.below h KC.out.lt).facts.1 0,(KS.out.below h KS.out.lt).facts.1 0,(KT.out.below h KT.out.lt).facts.1 0,(KU.out.below h KU.out.lt).facts.1 0⟩:(fun W=>Below W1.heap.size W1 W∧W.cell? ⟨w.heap.size,0,none⟩ = some (.slice A' c.length cc)∧W.cell? ⟨w.heap.size+1,0,none⟩ = some (.slice A l.length cs)∧W.cell? ⟨w3.heap.size,0,none⟩ = some (.slice A3 t.length c3)∧W.cell? ⟨w4.heap.size,0,none⟩ = some (.slice A4 t.length c4)) W))
  have hbb:Below W1.heap.size W1 W1:=Below.refl _ _
  refine wp_region_held_drew (S:=fun W=>Below W1.heap.size W1 W∧W.cell? ⟨w.heap.size,0,none⟩ = some (.slice A' c.length cc)∧W.cell? ⟨w.heap.size+1,0,none⟩ = some (.slice A l.length cs)∧W.cell? ⟨w3.heap.size,0,none⟩ = some (.slice A3 t.length c3)∧W.cell? ⟨w4.heap.size,0,none⟩ = some (.slice A4 t.length c4)) (by kernel_rfl) (HKs.out _ hbb.drew) (fun hHeld=>?_)
  refine plI [(0,false),(1,false),(2,false),(3,false),(4,false),(5,false),(6,false),(7,false),(8,false)] ?_
  repeat ((first | refine plF ?_ | (refine plR (v:=?_) ?_ ?_;rotate_left;focus (intro W hSW;(try dsimp only at hSW);go_simp;all_goals (with_reducible rfl))));try simp only [Act.put,List.setIfInBounds_toArray,List.set_cons_zero,List.set_cons_succ])
  refine plE ?_
  refine wpAnyH_ready (rs:=[9]) (by kernel_rfl) (by simp) ?_
  refine AllReadyH.cons (o:=⟨_,_,_,_,_,_⟩) rfl (fun K hK=>?_) AllReadyH.nil
  go_simp
  go_at_call 12;refine (same10_any W1 (.slice A3 t.length c3) (.slice A4 t.length c4) t t _ (hbb.drew) HXA.out HXB.out HLN.out HLN.out HPN.out HPN.out).mono ?_;rintro e w29 ⟨rfl,hb9⟩;rw [decide_eq_true rfl];have hbw9:Below W1.heap.size W1 w29:=(hbb.drew).trans (hb9.mono (hbb.drew).size);clear hb9
  refine hK.out _ _ (HKs.out _ hbw9) (fun hHeld=>?_)
  clear hK K
  try simp only [Act.put,List.setIfInBounds_toArray,List.set_cons_zero,List.set_cons_succ]
  refine plI [(10,false),(11,false),(12,false),(13,false),(15,false),(16,false)] ?_
  repeat ((first | refine plF ?_ | (refine plR (v:=?_) ?_ ?_;rotate_left;focus (intro W hSW;(try dsimp only at hSW);go_simp;all_goals (with_reducible rfl))));try simp only [Act.put,List.setIfInBounds_toArray,List.set_cons_zero,List.set_cons_succ])
  refine plE ?_
  refine wpAnyH_ready (rs:=[14]) (by kernel_rfl) (by simp) ?_
  refine AllReadyH.cons (o:=⟨_,_,_,_,_,_⟩) rfl (fun K hK=>?_) AllReadyH.nil
  go_simp
  go_at_call 13;refine (HVL.out _ (HBB.out.trans ((hbw9).mono HBB.out.size))).mono ?_;rintro e w34 ⟨rfl,hb14⟩;have hbw14:Below W1.heap.size W1 w34:=(hbw9).trans (hb14.mono (hbw9).size);clear hb14
  refine hK.out _ _ (HKs.out _ hbw14) (fun hHeld=>?_)
  clear hK K
  try simp only [Act.put,List.setIfInBounds_toArray,List.set_cons_zero,List.set_cons_succ]
  refine wpAnyH_ready (rs:=[17]) (by kernel_rfl) (by simp) ?_
  refine AllReadyH.cons (o:=⟨_,_,_,_,_,_⟩) rfl (fun K hK=>?_) AllReadyH.nil
  go_simp
  go_at_call 14;refine (HRV.out _ (HBB.out.trans ((hbw14).mono HBB.out.size))).mono ?_;rintro e w37 ⟨rfl,hb17⟩;have hbw17:Below W1.heap.size W1 w37:=(hbw14).trans (hb17.mono (hbw14).size);clear hb17
  refine hK.out _ _ (HKs.out _ hbw17) (fun hHeld=>?_)
  clear hK K
  try simp only [Act.put,List.setIfInBounds_toArray,List.set_cons_zero,List.set_cons_succ]
  refine plI [(18,false),(19,false),(20,false)] ?_
  repeat ((first | refine plF ?_ | (refine plR (v:=?_) ?_ ?_;rotate_left;focus (intro W hSW;(try dsimp only at hSW);go_simp;all_goals (with_reducible rfl))));try simp only [Act.put,List.setIfInBounds_toArray,List.set_cons_zero,List.set_cons_succ])
  refine plE ?_
  refine wpAnyH_done (by kernel_rfl) ?_ _
  clear hHeld HKs
  go_wp2_with fail
  go_ret
  exact ⟨ret_bool (by simp),HBB.out.trans (hbw17.mono HBB.out.size)⟩
end Go.Proofs.YtpikcofbhkbifaaGreat
namespace Go.Proofs.YtpikcofbhkbifaaGreat.matches
open Go Go.RowKit Go.ChangeShapes Go.WideShapes Go.ChangeAt
set_option maxRecDepth 100000 in
theorem contract (H:Type) (enc:TypeId × Value→H) (W:World) (base:Nat) (args:Array Value) (ds gs:List (DataW H)) (before:List MemPlace)
    (hval:∀ (j:Nat) t v,Tryz.f3.params[j]? = some t→args[j]? = some v→Value.okWide Tryz.prog W .any base t v)
    (hW:DataW.Whole enc Tryz.prog Tryz.f3.params.toList Rows.fleetMatchesReferenceSpec.vars false W args.toList ds gs before)
    (hZ:(DataW.weightsEach Tryz.prog (Tryz.f3.params.toList++(OpenSpec.ofChange Rows.fleetMatchesReferenceSpec).bare.plain.varTypes Tryz.prog) (ds++gs)).all (·≤reachBytes) = true) :
    Calls Tryz.prog 3 args W fun e W'=>∃ v,e = .returned v∧Rows.fleetMatchesReferenceSpec.post enc Tryz.prog Tryz.f3 false true false false W args v W':=by
  have hW':=hW
  obtain ⟨p,q,hA0,hV,rfl,hfz,hnd⟩:=hW
  have hA:DataW.TrodAll enc Tryz.prog W 0 (fun _=>true) true Tryz.f3.params.toList args.toList ds p:=hA0
  rw [Tryz.params3] at hA hval hZ
  obtain ⟨w0,vs0,d0,ds0,p0,q0,hargs,rfl,rfl,t0,r0⟩:=trodAll_cons hA
  obtain ⟨w1,vs1,d1,ds1,p1,q1,rfl,rfl,rfl,t1,r1⟩:=trodAll_cons r0
  obtain ⟨w2,vs2,d2,ds2,p2,q2,rfl,rfl,rfl,t2,r2⟩:=trodAll_cons r1
  obtain ⟨rfl,rfl,rfl⟩:=trodAll_nil r2
  obtain rfl:args = #[w0,w1,w2]:=by cases args;simp_all
  obtain ⟨rfl,rfl⟩:=trodVars_none hV
  have g0:Light Tryz.prog 24 d0:=light_of hZ (j:=0) rfl rfl
  obtain ⟨cs0,rfl,hz0,m0,t0⟩:=struct_cells Tryz.underlying24 (hval 0 _ w0 rfl rfl) t0
  obtain ⟨v0,c0,hcs0,h0⟩:=open_cat t0 g0 (by rw [Array.length_toList,hz0];kernel_rfl)
  obtain rfl:cs0 = #[v0]:=by cases cs0;simp_all
  have g1:Light Tryz.prog 27 d1:=light_of hZ (j:=1) rfl rfl
  obtain ⟨cs1,rfl,hz1,m1,t1⟩:=struct_cells Tryz.underlying27 (hval 1 _ w1 rfl rfl) t1
  obtain ⟨v1,l1,hcs1,h1,hl1,hw1⟩:=open_sta t1 g1 (by rw [Array.length_toList,hz1];kernel_rfl)
  obtain rfl:cs1 = #[v1]:=by cases cs1;simp_all
  have g2:Light Tryz.prog 33 d2:=light_of hZ (j:=2) rfl rfl
  obtain ⟨cs2,rfl,hz2,m2,t2⟩:=struct_cells Tryz.underlying33 (hval 2 _ w2 rfl rfl) t2
  obtain ⟨e2,hcs2,hs2⟩:=open_evF t2 g2 (by rw [Array.length_toList,hz2];kernel_rfl)
  obtain rfl:cs2 = e2.cells:=by cases cs2;cases hce:e2.cells;simp_all
  refine (matches_any v0 v1 c0 l1 e2 W h0 h1 hl1 hw1 hs2).mono ?_
  rintro e W' ⟨rfl,hb⟩
  exact ⟨_,rfl,law_post (s:=Rows.fleetMatchesReferenceSpec) rfl laidOut (by kernel_rfl) (by kernel_rfl) Tryz.underlying4 hW' rfl hb⟩
def wargs:Array Value:=#[.agg #[.slice none 0 0],.agg #[.slice none 0 0],.agg #[.int .i64 0,.int .i64 0,.string ⟨#[]⟩,.string ⟨#[]⟩,.string ⟨#[]⟩,.string ⟨#[]⟩,.string ⟨#[]⟩,.string ⟨#[]⟩,.int .i64 0,.int .i64 0,.int .i64 0,.int .i64 0,.int .i64 0,.int .i64 0]]
set_option maxRecDepth 100000 in
theorem reads (os:Os) {H:Type} (enc:TypeId × Value→H):∃ places,DataW.whole enc Tryz.prog ((World.holding Tryz.prog os ⟨#[],#[],[]⟩).forCall (fun _ _=>0) ⟨#[],wargs,[]⟩).memory Tryz.f3.params.toList Rows.fleetMatchesReferenceSpec.vars false wargs.toList 8 = some ([.agg [.nil],.agg [.nil],.agg [.lit (.int .i64 0),.lit (.int .i64 0),.lit (.string []),.lit (.string []),.lit (.string []),.lit (.string []),.lit (.string []),.lit (.string []),.agg [.agg [.lit (.int .i64 0),.lit (.int .i64 0)],.agg [.lit (.int .i64 0),.lit (.int .i64 0)],.agg [.lit (.int .i64 0),.lit (.int .i64 0)]]]],[],places) :=
  ⟨[],by kernel_rfl⟩
set_option maxRecDepth 100000 in
theorem laid_met (os:Os):laidMet Tryz.prog Rows.fleetMatchesReferenceRow.laid ((World.holding Tryz.prog os ⟨#[],#[],[]⟩).forCall (fun _ _=>0) ⟨#[],wargs,[]⟩).memory :=
  laidMet_of_run' 8 (by kernel_rfl) (by kernel_rfl)
set_option maxRecDepth 100000 in
theorem lifted (os:Os) (started:os.Started) (H:Type) (enc:TypeId × Value→H) (F:Stop.Interp) :
    ReturnsInHanded {} Tryz.checked os 3 .any ((OpenSpec.ofChange Rows.fleetMatchesReferenceSpec).preRow enc Tryz.prog Tryz.f3 Rows.fleetMatchesReferenceRow.domain false Rows.fleetMatchesReferenceRow.laid) (((OpenSpec.ofChange Rows.fleetMatchesReferenceSpec).at F).post enc Tryz.prog Tryz.f3 false true false false):=by
  obtain ⟨places,hx⟩:=reads os enc
  refine returnsInHanded_of_row (C:=Tryz.checked) (s:=OpenSpec.ofChange Rows.fleetMatchesReferenceSpec) own started (by kernel_rfl) Tryz.func3
    (witness_row_at (enc:=enc) (C:=Tryz.checked) false (World.holding Tryz.prog os ⟨#[],#[],[]⟩) wargs rfl (by kernel_rfl) (by kernel_rfl) (by kernel_rfl)
      (OpenSpec.preRow_of_cond 8 hx (by kernel_rfl) (fun k hk=>by cases hk) (by kernel_rfl) (laid_met os))) ?_
  intro W base args ds gs before hval hW _ _ hZ _ _ _
  exact contract H enc W base args ds gs before hval hW hZ
theorem said:Rows.FleetMatchesReferenceSaid :=
  OpenClaim.holds_of_cond 3 Tryz.f3 rfl rfl rfl rfl rfl rfl rfl ⟨rfl,rfl,rfl,rfl,rfl⟩ rfl rfl rfl rfl rfl (by kernel_rfl) Tryz.func3 (by kernel_rfl)
    (of_decide_eq_true (by kernel_rfl)) (by unfold Func.isWrapper;first | (rw [if_pos (by decide +kernel)];kernel_rfl) | (rw [if_neg (by decide +kernel)];exact ⟨rfl,rfl⟩))
    (fun os started H enc _ F=>by rw [OpenClaim.pre_eq_preRow];exact lifted os started H enc F)
#print axioms said
end Go.Proofs.YtpikcofbhkbifaaGreat.matches
