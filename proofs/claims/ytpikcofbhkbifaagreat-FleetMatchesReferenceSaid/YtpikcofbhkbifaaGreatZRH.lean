/- bogieref10.Step at makings. No condition but sizes. bogieref10.Step: what it makes of a valid state and a valid event is stepL. No condition but sizes. -/
import Derived.Test.YtpikcofbhkbifaaGreatZRE
import Derived.Test.YtpikcofbhkbifaaGreatZRF
import Derived.Test.YtpikcofbhkbifaaGreatZRG
namespace Go.Proofs.YtpikcofbhkbifaaGreat
open Go Go.RowKit
set_option maxRecDepth 100000 in
set_option maxHeartbeats 8000000 in
theorem step_make_twice (wb:World) (cv sv:Value) (c:List Kd) (l:List Pa) (day:Int) (part kind into slot key value:ByteArray) (ukl ukh ucl uch ull ulh:Int) (w:World) (hb0:Below wb.heap.size wb w) (hcat:Cat wb cv c) (hcl:c.length≤100000) (hks:∀ k∈c,k.short) (hsta:Sta wb sv l) (hvb:validB c l = true) (p:Pa) (hpf:pfind l part = some p) :
    Calls Tryz.prog 45 #[.agg #[cv],.agg #[sv],.agg #[.int .i64 1,.int .i64 day,.string part,.string kind,.string into,.string slot,.string key,.string value,.int .i64 ukl,.int .i64 ukh,.int .i64 ucl,.int .i64 uch,.int .i64 ull,.int .i64 ulh]] w fun r w'=>∃ v',r = .returned (.tuple #[.agg #[v'],.int .i64 (stepL c l ⟨1,day,part,kind,into,slot,key,value,ukl,ukh,ucl,uch,ull,ulh⟩).2])∧Sta w' v' (stepL c l ⟨1,day,part,kind,into,slot,key,value,ukl,ukh,ucl,uch,ull,ulh⟩).1∧Below w.heap.size w w':=by
  obtain ⟨A',cc,rfl,hn⟩:=Rd.form hcat
  obtain ⟨A,cs0,rfl,hn0⟩:=Rd.form hsta
  have hl20:=(valid_len hvb)
  have HBW:=Lib.hid hb0
  have hsz0:=hb0.size
  have B0:=Lib.hid (ApB.new w A' c.length cc A l.length cs0 #[.int .i64 1,.int .i64 day,.string part,.string kind,.string into,.string slot,.string key,.string value,.int .i64 ukl,.int .i64 ukh,.int .i64 ucl,.int .i64 uch,.int .i64 ull,.int .i64 ulh])
  have HB0:=Lib.hid B0.out.b
  have HV:=Lib.hid hsta
  have HAT:=Lib.hid (fun x W (h:Below wb.heap.size wb W)=>refAt_any wb _ l x W h hsta (by omega))
  have HF:=Lib.hid (fun x W (h:Below wb.heap.size wb W)=>refFind_any wb _ c x W h hcat hcl)
  have HTK:=Lib.hid (fun x y z W (h:Below wb.heap.size wb W)=>refTakes_any wb _ c x y z W h hcat hcl hks)
  have HHD:=Lib.hid (fun x y W (h:Below wb.heap.size wb W)=>refHeld_any wb _ l x y W h hsta (by omega))
  have HSO:=Lib.hid (sorted_ord.1 (validB_sorted hvb))
  clear hb0 hcat hks
  have HWI:=Lib.hid (fun (W0:World) (h0:Below wb.heap.size wb W0) (pname pkind pinto pslot:ByteArray) (pmade psince:Int) (pgone:Bool) (pprops:List Pr) (Ap:Option Addr) (mp:Nat) (pkl pkh pcl pch pdl pdh:Int) (W:World) (h:Below W0.heap.size W0 W) (hp:Rd 2 PrR W0 (.slice Ap pprops.length mp) pprops)=>with_any W0 _ l pname pkind pinto pslot pmade psince pgone pprops Ap mp pkl pkh pcl pch pdl pdh W h (hsta.below h0) hl20 (sorted_ord.1 (validB_sorted hvb)) hp)
  have HFK:=Lib.hid (fun W h=>HF.out kind W h)
  obtain ⟨kp,hkp,hap,hgp⟩:=atP_yes hpf
  have HAI:=Lib.hid hap
  have HPF:=Lib.hid hpf
  have hkp0:(0:Int)≤(kp:Int):=by omega
  clear hap hpf hgp hvb hsta
  generalize hfk:(kfind c kind).getD noKd = fk at HFK
  clear hfk
  obtain ⟨fn,fv,fs⟩:=fk
  dsimp only at HFK
  generalize (kfind c kind).isSome = kb at HFK
  go_enter Tryz.func45,Tryz.ntmps45
  go_wp2_with fail
  refine (HAT.out part _ (HBW.out.trans (B0.out.b.mono hsz0))).mono ?_
  rintro e w1 ⟨rfl,hb1⟩
  rw [HAI.out]
  have B1:=Lib.hid (B0.out.below hb1)
  obtain ⟨f1a,f1b,f1c,f1d,f1e⟩:=B1.out.cells
  have fz1:=B1.out.z
  have HB1:=Lib.hid (bon (HB0.out) hb1)
  clear hb1
  go_wp2_with fail
  refine (HFK.out _ (HBW.out.trans (B1.out.b.mono hsz0))).mono ?_
  rintro e w2 ⟨A3,m3,rfl,_,hb2⟩
  have B2:=Lib.hid (B1.out.below hb2)
  clear f1a f1b f1c f1d f1e fz1
  obtain ⟨f2a,f2b,f2c,f2d,f2e⟩:=B2.out.cells
  have fz2:=B2.out.z
  have HB2:=Lib.hid (bon (HB1.out) hb2)
  clear hb2
  obtain ⟨w3,hw3⟩:∃ W,(w2.alloc (.cells #[.string fn,.bool fv,.slice A3 fs.length m3] 79)) = W:=⟨_,rfl⟩
  have qB:=(B2.out.alloc (.cells #[.string fn,.bool fv,.slice A3 fs.length m3] 79))
  rw [hw3] at qB
  have B3:=Lib.hid qB
  clear qB f2a f2b f2c f2d f2e fz2
  obtain ⟨f3a,f3b,f3c,f3d,f3e⟩:=B3.out.cells
  have fz3:=B3.out.z
  have kK:=(Has.new w2 79 #[.string fn,.bool fv,.slice A3 fs.length m3])
  rw [hw3] at kK
  obtain ⟨xK3,yK3⟩:=kK.facts
  have zK3:=kK.lt
  have KK3:=Lib.hid kK
  clear kK
  have HB3:=Lib.hid B3.out.b
  have HWK:=Lib.hid hw3
  clear hw3
  go_wp2_with ((with_reducible show wpList _ _ _ (Oper.mk none (Op.store 27 (Operand.tmp 6) _) _ _ _ _ :: _) _ _);rw [HWK.out])
  obtain ⟨n4,n5⟩:=(B3.out.r.put 0 (.slice none 0 0)).facts
  refine bodyPost_ret (v:=.tuple #[.agg #[.slice none 0 0],.int .i64 3]) (by simp [results,Tryz.results45,go_sem,n4]) rfl ?_
  rw [show stepL c l _ = (([]:List Pa),(3:Int)) from (by unfold stepL;simp [HPF.out])]
  have hB:=B3.out.b
  exact ⟨_,rfl,Rd.nil _ _,hB.setCell (by simp;omega) _⟩
set_option maxRecDepth 100000 in
set_option maxHeartbeats 8000000 in
theorem step_make_kind (wb:World) (cv sv:Value) (c:List Kd) (l:List Pa) (day:Int) (part kind into slot key value:ByteArray) (ukl ukh ucl uch ull ulh:Int) (w:World) (hb0:Below wb.heap.size wb w) (hcat:Cat wb cv c) (hcl:c.length≤100000) (hks:∀ k∈c,k.short) (hsta:Sta wb sv l) (hvb:validB c l = true) (hpf:pfind l part = none) (hkf:kfind c kind = none) :
    Calls Tryz.prog 45 #[.agg #[cv],.agg #[sv],.agg #[.int .i64 1,.int .i64 day,.string part,.string kind,.string into,.string slot,.string key,.string value,.int .i64 ukl,.int .i64 ukh,.int .i64 ucl,.int .i64 uch,.int .i64 ull,.int .i64 ulh]] w fun r w'=>∃ v',r = .returned (.tuple #[.agg #[v'],.int .i64 (stepL c l ⟨1,day,part,kind,into,slot,key,value,ukl,ukh,ucl,uch,ull,ulh⟩).2])∧Sta w' v' (stepL c l ⟨1,day,part,kind,into,slot,key,value,ukl,ukh,ucl,uch,ull,ulh⟩).1∧Below w.heap.size w w':=by
  obtain ⟨A',cc,rfl,hn⟩:=Rd.form hcat
  obtain ⟨A,cs0,rfl,hn0⟩:=Rd.form hsta
  have hl20:=(valid_len hvb)
  have HBW:=Lib.hid hb0
  have hsz0:=hb0.size
  have B0:=Lib.hid (ApB.new w A' c.length cc A l.length cs0 #[.int .i64 1,.int .i64 day,.string part,.string kind,.string into,.string slot,.string key,.string value,.int .i64 ukl,.int .i64 ukh,.int .i64 ucl,.int .i64 uch,.int .i64 ull,.int .i64 ulh])
  have HB0:=Lib.hid B0.out.b
  have HV:=Lib.hid hsta
  have HAT:=Lib.hid (fun x W (h:Below wb.heap.size wb W)=>refAt_any wb _ l x W h hsta (by omega))
  have HF:=Lib.hid (fun x W (h:Below wb.heap.size wb W)=>refFind_any wb _ c x W h hcat hcl)
  have HTK:=Lib.hid (fun x y z W (h:Below wb.heap.size wb W)=>refTakes_any wb _ c x y z W h hcat hcl hks)
  have HHD:=Lib.hid (fun x y W (h:Below wb.heap.size wb W)=>refHeld_any wb _ l x y W h hsta (by omega))
  have HSO:=Lib.hid (sorted_ord.1 (validB_sorted hvb))
  clear hb0 hcat hks
  have HWI:=Lib.hid (fun (W0:World) (h0:Below wb.heap.size wb W0) (pname pkind pinto pslot:ByteArray) (pmade psince:Int) (pgone:Bool) (pprops:List Pr) (Ap:Option Addr) (mp:Nat) (pkl pkh pcl pch pdl pdh:Int) (W:World) (h:Below W0.heap.size W0 W) (hp:Rd 2 PrR W0 (.slice Ap pprops.length mp) pprops)=>with_any W0 _ l pname pkind pinto pslot pmade psince pgone pprops Ap mp pkl pkh pcl pch pdl pdh W h (hsta.below h0) hl20 (sorted_ord.1 (validB_sorted hvb)) hp)
  have HFK:=Lib.hid (fun W h=>HF.out kind W h)
  have HAI:=Lib.hid (atP_no hpf)
  have HPF:=Lib.hid hpf
  clear hpf hvb hsta
  have HKF:=Lib.hid hkf
  generalize hfk:(kfind c kind).getD noKd = fk at HFK
  clear hfk
  obtain ⟨fn,fv,fs⟩:=fk
  dsimp only at HFK
  rw [show (kfind c kind).isSome = false by rw [hkf];rfl] at HFK
  clear hkf
  go_enter Tryz.func45,Tryz.ntmps45
  go_wp2_with fail
  refine (HAT.out part _ (HBW.out.trans (B0.out.b.mono hsz0))).mono ?_
  rintro e w1 ⟨rfl,hb1⟩
  rw [HAI.out]
  have B1:=Lib.hid (B0.out.below hb1)
  obtain ⟨f1a,f1b,f1c,f1d,f1e⟩:=B1.out.cells
  have fz1:=B1.out.z
  have HB1:=Lib.hid (bon (HB0.out) hb1)
  clear hb1
  go_wp2_with fail
  refine (HFK.out _ (HBW.out.trans (B1.out.b.mono hsz0))).mono ?_
  rintro e w2 ⟨A3,m3,rfl,_,hb2⟩
  have B2:=Lib.hid (B1.out.below hb2)
  clear f1a f1b f1c f1d f1e fz1
  obtain ⟨f2a,f2b,f2c,f2d,f2e⟩:=B2.out.cells
  have fz2:=B2.out.z
  have HB2:=Lib.hid (bon (HB1.out) hb2)
  clear hb2
  obtain ⟨w3,hw3⟩:∃ W,(w2.alloc (.cells #[.string fn,.bool fv,.slice A3 fs.length m3] 79)) = W:=⟨_,rfl⟩
  have qB:=(B2.out.alloc (.cells #[.string fn,.bool fv,.slice A3 fs.length m3] 79))
  rw [hw3] at qB
  have B3:=Lib.hid qB
  clear qB f2a f2b f2c f2d f2e fz2
  obtain ⟨f3a,f3b,f3c,f3d,f3e⟩:=B3.out.cells
  have fz3:=B3.out.z
  have kK:=(Has.new w2 79 #[.string fn,.bool fv,.slice A3 fs.length m3])
  rw [hw3] at kK
  obtain ⟨xK3,yK3⟩:=kK.facts
  have zK3:=kK.lt
  have KK3:=Lib.hid kK
  clear kK
  have HB3:=Lib.hid B3.out.b
  have HWK:=Lib.hid hw3
  clear hw3
  go_wp2_with ((with_reducible show wpList _ _ _ (Oper.mk none (Op.store 27 (Operand.tmp 6) _) _ _ _ _ :: _) _ _);rw [HWK.out])
  obtain ⟨n4,n5⟩:=(B3.out.r.put 0 (.slice none 0 0)).facts
  refine bodyPost_ret (v:=.tuple #[.agg #[.slice none 0 0],.int .i64 4]) (by simp [results,Tryz.results45,go_sem,n4]) rfl ?_
  rw [show stepL c l _ = (([]:List Pa),(4:Int)) from (by unfold stepL;simp [HPF.out,HKF.out])]
  have hB:=B3.out.b
  exact ⟨_,rfl,Rd.nil _ _,hB.setCell (by simp;omega) _⟩
set_option maxRecDepth 100000 in
set_option maxHeartbeats 8000000 in
theorem step_make_limit (wb:World) (cv sv:Value) (c:List Kd) (l:List Pa) (day:Int) (part kind into slot key value:ByteArray) (ukl ukh ucl uch ull ulh:Int) (w:World) (hb0:Below wb.heap.size wb w) (hcat:Cat wb cv c) (hcl:c.length≤100000) (hks:∀ k∈c,k.short) (hsta:Sta wb sv l) (hvb:validB c l = true) (hpf:pfind l part = none) (hkf:(kfind c kind).isSome = true) (h20:l.length = 20000) :
    Calls Tryz.prog 45 #[.agg #[cv],.agg #[sv],.agg #[.int .i64 1,.int .i64 day,.string part,.string kind,.string into,.string slot,.string key,.string value,.int .i64 ukl,.int .i64 ukh,.int .i64 ucl,.int .i64 uch,.int .i64 ull,.int .i64 ulh]] w fun r w'=>∃ v',r = .returned (.tuple #[.agg #[v'],.int .i64 (stepL c l ⟨1,day,part,kind,into,slot,key,value,ukl,ukh,ucl,uch,ull,ulh⟩).2])∧Sta w' v' (stepL c l ⟨1,day,part,kind,into,slot,key,value,ukl,ukh,ucl,uch,ull,ulh⟩).1∧Below w.heap.size w w':=by
  obtain ⟨A',cc,rfl,hn⟩:=Rd.form hcat
  obtain ⟨A,cs0,rfl,hn0⟩:=Rd.form hsta
  have hl20:=(valid_len hvb)
  have HBW:=Lib.hid hb0
  have hsz0:=hb0.size
  have B0:=Lib.hid (ApB.new w A' c.length cc A l.length cs0 #[.int .i64 1,.int .i64 day,.string part,.string kind,.string into,.string slot,.string key,.string value,.int .i64 ukl,.int .i64 ukh,.int .i64 ucl,.int .i64 uch,.int .i64 ull,.int .i64 ulh])
  have HB0:=Lib.hid B0.out.b
  have HV:=Lib.hid hsta
  have HAT:=Lib.hid (fun x W (h:Below wb.heap.size wb W)=>refAt_any wb _ l x W h hsta (by omega))
  have HF:=Lib.hid (fun x W (h:Below wb.heap.size wb W)=>refFind_any wb _ c x W h hcat hcl)
  have HTK:=Lib.hid (fun x y z W (h:Below wb.heap.size wb W)=>refTakes_any wb _ c x y z W h hcat hcl hks)
  have HHD:=Lib.hid (fun x y W (h:Below wb.heap.size wb W)=>refHeld_any wb _ l x y W h hsta (by omega))
  have HSO:=Lib.hid (sorted_ord.1 (validB_sorted hvb))
  clear hb0 hcat hks
  have HWI:=Lib.hid (fun (W0:World) (h0:Below wb.heap.size wb W0) (pname pkind pinto pslot:ByteArray) (pmade psince:Int) (pgone:Bool) (pprops:List Pr) (Ap:Option Addr) (mp:Nat) (pkl pkh pcl pch pdl pdh:Int) (W:World) (h:Below W0.heap.size W0 W) (hp:Rd 2 PrR W0 (.slice Ap pprops.length mp) pprops)=>with_any W0 _ l pname pkind pinto pslot pmade psince pgone pprops Ap mp pkl pkh pcl pch pdl pdh W h (hsta.below h0) hl20 (sorted_ord.1 (validB_sorted hvb)) hp)
  have HFK:=Lib.hid (fun W h=>HF.out kind W h)
  have HAI:=Lib.hid (atP_no hpf)
  have HPF:=Lib.hid hpf
  clear hpf hvb hsta
  have HKF:=Lib.hid hkf
  generalize hfk:(kfind c kind).getD noKd = fk at HFK
  clear hfk
  obtain ⟨fn,fv,fs⟩:=fk
  dsimp only at HFK
  rw [hkf] at HFK
  clear hkf
  have h21:(20000:Int)≤(l.length:Int):=by omega
  have H20:=Lib.hid h20
  clear h20
  go_enter Tryz.func45,Tryz.ntmps45
  go_wp2_with fail
  refine (HAT.out part _ (HBW.out.trans (B0.out.b.mono hsz0))).mono ?_
  rintro e w1 ⟨rfl,hb1⟩
  rw [HAI.out]
  have B1:=Lib.hid (B0.out.below hb1)
  obtain ⟨f1a,f1b,f1c,f1d,f1e⟩:=B1.out.cells
  have fz1:=B1.out.z
  have HB1:=Lib.hid (bon (HB0.out) hb1)
  clear hb1
  go_wp2_with fail
  refine (HFK.out _ (HBW.out.trans (B1.out.b.mono hsz0))).mono ?_
  rintro e w2 ⟨A3,m3,rfl,_,hb2⟩
  have B2:=Lib.hid (B1.out.below hb2)
  clear f1a f1b f1c f1d f1e fz1
  obtain ⟨f2a,f2b,f2c,f2d,f2e⟩:=B2.out.cells
  have fz2:=B2.out.z
  have HB2:=Lib.hid (bon (HB1.out) hb2)
  clear hb2
  obtain ⟨w3,hw3⟩:∃ W,(w2.alloc (.cells #[.string fn,.bool fv,.slice A3 fs.length m3] 79)) = W:=⟨_,rfl⟩
  have qB:=(B2.out.alloc (.cells #[.string fn,.bool fv,.slice A3 fs.length m3] 79))
  rw [hw3] at qB
  have B3:=Lib.hid qB
  clear qB f2a f2b f2c f2d f2e fz2
  obtain ⟨f3a,f3b,f3c,f3d,f3e⟩:=B3.out.cells
  have fz3:=B3.out.z
  have kK:=(Has.new w2 79 #[.string fn,.bool fv,.slice A3 fs.length m3])
  rw [hw3] at kK
  obtain ⟨xK3,yK3⟩:=kK.facts
  have zK3:=kK.lt
  have KK3:=Lib.hid kK
  clear kK
  have HB3:=Lib.hid B3.out.b
  have HWK:=Lib.hid hw3
  clear hw3
  go_wp2_with ((with_reducible show wpList _ _ _ (Oper.mk (some 37) _ _ _ _ _ :: _) _ _);rw [HWK.out])
  obtain ⟨n4,n5⟩:=(B3.out.r.put 0 (.slice none 0 0)).facts
  refine bodyPost_ret (v:=.tuple #[.agg #[.slice none 0 0],.int .i64 7]) (by simp [results,Tryz.results45,go_sem,n4]) rfl ?_
  rw [show stepL c l _ = (([]:List Pa),(7:Int)) from (by have hk2:(kfind c kind).isNone = false:=(by have:=HKF.out;cases hq:kfind c kind with | none=>(rw [hq] at this;cases this) | some _=>rfl);unfold stepL;simp [HPF.out,hk2,H20.out])]
  have hB:=B3.out.b
  exact ⟨_,rfl,Rd.nil _ _,hB.setCell (by simp;omega) _⟩
set_option maxRecDepth 100000 in
set_option maxHeartbeats 8000000 in
theorem step_make_ok (wb:World) (cv sv:Value) (c:List Kd) (l:List Pa) (day:Int) (part kind into slot key value:ByteArray) (ukl ukh ucl uch ull ulh:Int) (w:World) (hb0:Below wb.heap.size wb w) (hcat:Cat wb cv c) (hcl:c.length≤100000) (hks:∀ k∈c,k.short) (hsta:Sta wb sv l) (hvb:validB c l = true) (hpf:pfind l part = none) (hkf:(kfind c kind).isSome = true) (h20:¬ l.length = 20000) :
    Calls Tryz.prog 45 #[.agg #[cv],.agg #[sv],.agg #[.int .i64 1,.int .i64 day,.string part,.string kind,.string into,.string slot,.string key,.string value,.int .i64 ukl,.int .i64 ukh,.int .i64 ucl,.int .i64 uch,.int .i64 ull,.int .i64 ulh]] w fun r w'=>∃ v',r = .returned (.tuple #[.agg #[v'],.int .i64 (stepL c l ⟨1,day,part,kind,into,slot,key,value,ukl,ukh,ucl,uch,ull,ulh⟩).2])∧Sta w' v' (stepL c l ⟨1,day,part,kind,into,slot,key,value,ukl,ukh,ucl,uch,ull,ulh⟩).1∧Below w.heap.size w w':=by
  obtain ⟨A',cc,rfl,hn⟩:=Rd.form hcat
  obtain ⟨A,cs0,rfl,hn0⟩:=Rd.form hsta
  have hl20:=(valid_len hvb)
  have HBW:=Lib.hid hb0
  have hsz0:=hb0.size
  have B0:=Lib.hid (ApB.new w A' c.length cc A l.length cs0 #[.int .i64 1,.int .i64 day,.string part,.string kind,.string into,.string slot,.string key,.string value,.int .i64 ukl,.int .i64 ukh,.int .i64 ucl,.int .i64 uch,.int .i64 ull,.int .i64 ulh])
  have HB0:=Lib.hid B0.out.b
  have HV:=Lib.hid hsta
  have HAT:=Lib.hid (fun x W (h:Below wb.heap.size wb W)=>refAt_any wb _ l x W h hsta (by omega))
  have HF:=Lib.hid (fun x W (h:Below wb.heap.size wb W)=>refFind_any wb _ c x W h hcat hcl)
  have HTK:=Lib.hid (fun x y z W (h:Below wb.heap.size wb W)=>refTakes_any wb _ c x y z W h hcat hcl hks)
  have HHD:=Lib.hid (fun x y W (h:Below wb.heap.size wb W)=>refHeld_any wb _ l x y W h hsta (by omega))
  have HSO:=Lib.hid (sorted_ord.1 (validB_sorted hvb))
  clear hb0 hcat hks
  have HWI:=Lib.hid (fun (W0:World) (h0:Below wb.heap.size wb W0) (pname pkind pinto pslot:ByteArray) (pmade psince:Int) (pgone:Bool) (pprops:List Pr) (Ap:Option Addr) (mp:Nat) (pkl pkh pcl pch pdl pdh:Int) (W:World) (h:Below W0.heap.size W0 W) (hp:Rd 2 PrR W0 (.slice Ap pprops.length mp) pprops)=>with_any W0 _ l pname pkind pinto pslot pmade psince pgone pprops Ap mp pkl pkh pcl pch pdl pdh W h (hsta.below h0) hl20 (sorted_ord.1 (validB_sorted hvb)) hp)
  have HFK:=Lib.hid (fun W h=>HF.out kind W h)
  have HAI:=Lib.hid (atP_no hpf)
  have HPF:=Lib.hid hpf
  clear hpf hvb hsta
  have HKF:=Lib.hid hkf
  generalize hfk:(kfind c kind).getD noKd = fk at HFK
  clear hfk
  obtain ⟨fn,fv,fs⟩:=fk
  dsimp only at HFK
  rw [hkf] at HFK
  clear hkf
  have h21:¬ (20000:Int)≤(l.length:Int):=by omega
  have H20:=Lib.hid h20
  go_enter Tryz.func45,Tryz.ntmps45
  go_wp2_with fail
  refine (HAT.out part _ (HBW.out.trans (B0.out.b.mono hsz0))).mono ?_
  rintro e w1 ⟨rfl,hb1⟩
  rw [HAI.out]
  have B1:=Lib.hid (B0.out.below hb1)
  obtain ⟨f1a,f1b,f1c,f1d,f1e⟩:=B1.out.cells
  have fz1:=B1.out.z
  have HB1:=Lib.hid (bon (HB0.out) hb1)
  clear hb1
  go_wp2_with fail
  refine (HFK.out _ (HBW.out.trans (B1.out.b.mono hsz0))).mono ?_
  rintro e w2 ⟨A3,m3,rfl,_,hb2⟩
  have B2:=Lib.hid (B1.out.below hb2)
  clear f1a f1b f1c f1d f1e fz1
  obtain ⟨f2a,f2b,f2c,f2d,f2e⟩:=B2.out.cells
  have fz2:=B2.out.z
  have HB2:=Lib.hid (bon (HB1.out) hb2)
  clear hb2
  obtain ⟨w3,hw3⟩:∃ W,(w2.alloc (.cells #[.string fn,.bool fv,.slice A3 fs.length m3] 79)) = W:=⟨_,rfl⟩
  have qB:=(B2.out.alloc (.cells #[.string fn,.bool fv,.slice A3 fs.length m3] 79))
  rw [hw3] at qB
  have B3:=Lib.hid qB
  clear qB f2a f2b f2c f2d f2e fz2
  obtain ⟨f3a,f3b,f3c,f3d,f3e⟩:=B3.out.cells
  have fz3:=B3.out.z
  have kK:=(Has.new w2 79 #[.string fn,.bool fv,.slice A3 fs.length m3])
  rw [hw3] at kK
  obtain ⟨xK3,yK3⟩:=kK.facts
  have zK3:=kK.lt
  have KK3:=Lib.hid kK
  clear kK
  have HB3:=Lib.hid B3.out.b
  have HWK:=Lib.hid hw3
  clear hw3
  go_wp2_with ((with_reducible show wpList _ _ _ (Oper.mk (some 37) _ _ _ _ _ :: _) _ _);rw [HWK.out])
  refine (HWI.out wb (Below.refl _ _) part kind ⟨#[]⟩ ⟨#[]⟩ day day false [] none 0 0 0 0 0 0 0 _ (HBW.out.trans (B3.out.b.mono hsz0)) (Rd.nil _ _)).mono ?_
  rintro e w9 ⟨v9,rfl,hst9,hb9⟩
  obtain ⟨A9,c9,hv9,_⟩:=Rd.form hst9
  subst hv9
  have BN:=Lib.hid (B3.out.below hb9)
  have HST9:=Lib.hid hst9
  clear hst9 hb9
  obtain ⟨na,nb,nc,nd,ne⟩:=BN.out.cells
  go_wp2_with fail
  obtain ⟨n4,n5⟩:=(BN.out.r.put 0 (.slice A9 (putG Pa.name l (⟨part,kind,⟨#[]⟩,⟨#[]⟩,day,day,false,[],0,0,0,0,0,0⟩:Pa)).length c9)).facts
  refine bodyPost_ret (v:=.tuple #[.agg #[.slice A9 (putG Pa.name l (⟨part,kind,⟨#[]⟩,⟨#[]⟩,day,day,false,[],0,0,0,0,0,0⟩:Pa)).length c9],.int .i64 0]) (by simp [results,Tryz.results45,go_sem,n4]) rfl ?_
  rw [show stepL c l _ = (putP l (⟨part,kind,⟨#[]⟩,⟨#[]⟩,day,day,false,[],0,0,0,0,0,0⟩:Pa),(0:Int)) from (by have hk2:(kfind c kind).isNone = false:=(by have:=HKF.out;cases hq:kfind c kind with | none=>(rw [hq] at this;cases this) | some _=>rfl);unfold stepL;simp [HPF.out,hk2,H20.out,newPa])]
  have hB:=BN.out.b
  have hz:=BN.out.z
  exact ⟨_,rfl,Sta.far1 HST9.out _ BN.out.r,hB.setCell (by simp;omega) _⟩
end Go.Proofs.YtpikcofbhkbifaaGreat
namespace Go.Proofs.YtpikcofbhkbifaaGreat
open Go Go.RowKit
theorem slot_ne {e:Ev} (h:evOk e = true) (ho:e.op = 2):e.slot ≠ eS:=fun he=>by
  obtain ⟨_,_,_,h4⟩:=evOk_iff.1 h
  unfold evRest at h4
  rw [ho,he] at h4
  have:nameB eS = false:=by decide
  simp [this] at h4
theorem step_any (wb:World) (cv sv:Value) (c:List Kd) (l:List Pa) (ev:Ev) (w:World) (hb0:Below wb.heap.size wb w) (hcat:Cat wb cv c) (hcl:c.length≤100000) (hks:∀ k∈c,k.short) (hsta:Sta wb sv l) (hvb:validB c l = true) (hok:evOk ev = true) :
    Calls Tryz.prog 45 #[.agg #[cv],.agg #[sv],.agg ev.cells] w fun r w'=>∃ v',r = .returned (.tuple #[.agg #[v'],.int .i64 (stepL c l ev).2])∧Sta w' v' (stepL c l ev).1∧Below w.heap.size w w':=by
  have hop:=evOk_op hok
  have hsl:=fun ho=>slot_ne hok ho
  clear hok
  obtain ⟨op,day,part,kind,into,slot,key,value,ukl,ukh,ucl,uch,ull,ulh⟩:=ev
  dsimp only at hop hsl
  by_cases h1:op = 1
  · subst h1
    cases hpf:pfind l part with
    | some p=>exact step_make_twice wb cv sv c l day part kind into slot key value ukl ukh ucl uch ull ulh w hb0 hcat hcl hks hsta hvb p hpf
    | none =>
      cases hkf:kfind c kind with
      | none=>exact step_make_kind wb cv sv c l day part kind into slot key value ukl ukh ucl uch ull ulh w hb0 hcat hcl hks hsta hvb hpf hkf
      | some fk =>
        by_cases h20:l.length = 20000
        · exact step_make_limit wb cv sv c l day part kind into slot key value ukl ukh ucl uch ull ulh w hb0 hcat hcl hks hsta hvb hpf (by rw [hkf];rfl) h20
        · exact step_make_ok wb cv sv c l day part kind into slot key value ukl ukh ucl uch ull ulh w hb0 hcat hcl hks hsta hvb hpf (by rw [hkf];rfl) h20
  · by_cases h2:op = 2
    · subst h2
      cases hpf:pfind l part with
      | none=>exact step_none_two wb cv sv c l day part kind into slot key value ukl ukh ucl uch ull ulh w hb0 hcat hcl hks hsta hvb hpf
      | some p =>
        cases hhf:pfind l into with
        | none=>exact step_none_host wb cv sv c l day part kind into slot key value ukl ukh ucl uch ull ulh w hb0 hcat hcl hks hsta hvb p hpf hhf
        | some h =>
          cases hgo:(p.gone || h.gone) with
          | true=>exact step_gone_two wb cv sv c l day part kind into slot key value ukl ukh ucl uch ull ulh w hb0 hcat hcl hks hsta hvb p h hpf hhf hgo
          | false =>
            rw [Bool.or_eq_false_iff] at hgo
            cases hbad:(((kfind c p.kind).getD noKd).veh || !takesB c h.kind slot p.kind) with
            | true=>exact step_fit_kind wb cv sv c l day part kind into slot key value ukl ukh ucl uch ull ulh w hb0 hcat hcl hks hsta hvb p h hpf hhf hgo.1 hgo.2 hbad
            | false =>
              rw [Bool.or_eq_false_iff] at hbad
              by_cases hin:p.into = eS
              · exact step_fit_ok wb cv sv c l day part kind into slot key value ukl ukh ucl uch ull ulh w hb0 hcat hcl hks hsta hvb p h hpf hhf hgo.1 hgo.2 hbad.1 (by simpa using hbad.2) hin (hsl rfl)
              · exact step_fit_in wb cv sv c l day part kind into slot key value ukl ukh ucl uch ull ulh w hb0 hcat hcl hks hsta hvb p h hpf hhf hgo.1 hgo.2 hbad.1 (by simpa using hbad.2) hin
    · cases hpf:pfind l part with
      | none=>exact step_none_one wb cv sv c l op day part kind into slot key value ukl ukh ucl uch ull ulh w hb0 hcat hcl hks hsta hvb h1 h2 hpf
      | some p =>
        cases hgo:p.gone with
        | true=>exact step_gone_one wb cv sv c l op day part kind into slot key value ukl ukh ucl uch ull ulh w hb0 hcat hcl hks hsta hvb h1 h2 p hpf hgo
        | false =>
          obtain rfl | rfl | rfl | rfl | rfl:op = 3∨op = 4∨op = 5∨op = 6∨op = 7:=by omega
          · exact step_remove wb cv sv c l day part kind into slot key value ukl ukh ucl uch ull ulh w hb0 hcat hcl hks hsta hvb p hpf hgo
          · exact step_run wb cv sv c l day part kind into slot key value ukl ukh ucl uch ull ulh w hb0 hcat hcl hks hsta hvb p hpf hgo
          · exact step_overhaul wb cv sv c l day part kind into slot key value ukl ukh ucl uch ull ulh w hb0 hcat hcl hks hsta hvb p hpf hgo
          · exact step_note wb cv sv c l day part kind into slot key value ukl ukh ucl uch ull ulh w hb0 hcat hcl hks hsta hvb p hpf hgo
          · exact step_scrap wb cv sv c l day part kind into slot key value ukl ukh ucl uch ull ulh w hb0 hcat hcl hks hsta hvb p hpf hgo
end Go.Proofs.YtpikcofbhkbifaaGreat
