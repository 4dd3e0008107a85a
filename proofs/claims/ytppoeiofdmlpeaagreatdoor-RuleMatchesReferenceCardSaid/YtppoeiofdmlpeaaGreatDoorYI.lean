/- The reference's parser: level. Condition: what reads one thing keeps its contract. -/
import Derived.Test.YtppoeiofdmlpeaaGreatDoorYH
namespace Go.Proofs.YtppoeiofdmlpeaaGreatDoor
open Go Go.RowKit
section
variable {g:Nat} {E:Int} {A:Option Addr} {c:Nat} {L:List Fnd}
theorem serP_go (word:ByteArray) (op:Int) (one:List Fnd→Got Ex) (s:Got Unit) (h:staB word (s.go one).end = false):s.go (serP word op one) = s.go one:=by
  cases s with
  | bad e a=>rfl
  | ok u l =>
    show serP word op one l = one l
    have h:staB word (one l).end = false:=h
    unfold serP
    cases hq:one l with
    | bad e a=>rfl
    | ok x r =>
      rw [hq] at h
      show (moreP word one r.length r).bind _ = _
      rw [moreP_zero h]
      rfl
theorem lev_open {word:ByteArray} {one:List Fnd→Got Ex} {s:Got Unit} (h:staB word (s.go one).end = true):∃ l x r,s = .ok () l∧one l = .ok x r∧staB word (.ok () r) = true:=by
  cases s with
  | bad e a=>cases h
  | ok u l =>
    have h:staB word (one l).end = true:=h
    cases hq:one l with
    | bad e a=>rw [hq] at h;cases h
    | ok x r=>rw [hq] at h;exact ⟨l,x,r,rfl,hq,h⟩
theorem lev_meas {word:ByteArray} {one:List Fnd→Got Ex} (hsh:∀ l' c r,one l' = .ok c r→r.length≤l'.length) {r:List Fnd} (h:staB word (.ok () r) = true):staM (one r.tail).end < staM (.ok () r):=by
  have htl:=tail_len (word:=word) (l:=r) h
  cases h1:one r.tail with
  | bad e a=>show 0 < r.length+1;omega
  | ok y r2=>have:=hsh _ _ _ h1;show r2.length+1 < r.length+1;omega
theorem lay_aw {N:Nat} {g:Nat} {w w':World} {v:Value} {ks:List Ex} (h:LayS (fun b=>N≤b) w v ks) (ha:Aw g g w w') (hg:g < N):LayS (fun b=>N≤b) w' v ks :=
  h.on (fun b hb hlt=>ha.2.2.2.2 b hlt (by omega) (by omega)) fun _ hb _=>hb
set_option maxRecDepth 100000 in
set_option maxHeartbeats 8000000 in
theorem rlev0_any (k:Nat) (one:List Fnd→Got Ex) (s:Got Unit) (w:World) (h:Rs g E A c L w s) (hf:Fuel k s)
    (hone:∀ (s':Got Unit) (W:World),Fuel k s'→Rs g E A c L W s'→Calls Tryz.prog 28 #[.pointer (some ⟨g,0,none⟩),.int .i64 1] W (Rx g E A c L one s' W))
    (hsh:∀ l' c r,one l' = .ok c r→r.length≤l'.length) :
    Calls Tryz.prog 28 #[.pointer (some ⟨g,0,none⟩),.int .i64 0] w (Rx g E A c L (serP wOr 4 one) s w):=by
  have hlt:=h.lt
  have hb1:Below w.heap.size w (w.alloc (.cells #[.int .i64 0,.string ⟨#[]⟩,.string ⟨#[]⟩,.int .i64 0,.int .i64 0,.slice none 0 0] 24)):=(Below.refl _ _).alloc (Nat.le_refl _) _
  have HO1:=Lib.hid (hone s _ hf (h.below hb1))
  have HB1:=Lib.hid hb1
  have HR1:=Lib.hid (Has.new w 24 #[.int .i64 0,.string ⟨#[]⟩,.string ⟨#[]⟩,.int .i64 0,.int .i64 0,.slice none 0 0])
  have HIS:=Lib.hid (fun (s':Got Unit) (W:World) (h:Rs g E A c L W s')=>ris_any ⟨#[111,114]⟩ s' W h)
  have HTO:=Lib.hid (fun (s':Got Unit) (W:World) (h:Rs g E A c L W s')=>rtook_any ⟨#[111,114]⟩ s' W h)
  have hsz:(w.alloc (.cells #[.int .i64 0,.string ⟨#[]⟩,.string ⟨#[]⟩,.int .i64 0,.int .i64 0,.slice none 0 0] 24)).heap.size = w.heap.size+1:=World.size_alloc _ _
  have HZZ:=Lib.hid hsz
  clear hb1 h hsz
  cases hsk:staB wOr (s.go one).end with
  | false =>
    have HE:=Lib.hid (serP_go wOr 4 one s hsk)
    clear hone
    go_enter Tryz.func28,Tryz.ntmps28
    go_wp2_with (first
      | (go_at_call 28;refine HO1.out.mono ?_;rintro r w1 ⟨v,x,rfl,⟨kv,rfl,hv⟩,ha,hr,hfit⟩;have HV:=Lib.hid hv;have HA:=Lib.hid ha;have HR:=Lib.hid hr;have HFit:=Lib.hid hfit;obtain ⟨Ak,ck,rfl,_⟩:=hv.slice;clear hv ha hr hfit HO1;have HX1:=Lib.hid (Has.new w1 24 #[.int .i64 x.op,.string x.name,.string x.value,.int .i64 x.n,.int .i64 x.extra,.slice Ak x.kids.length ck]);have HBx:=Lib.hid (show Below w1.heap.size w1 (w1.alloc (.cells #[.int .i64 x.op,.string x.name,.string x.value,.int .i64 x.n,.int .i64 x.extra,.slice Ak x.kids.length ck] 24)) from (Below.refl _ _).alloc (Nat.le_refl _) _))
      | (go_at_call 52;refine (HIS.out _ _ (HR.out.below HBx.out)).mono ?_;rintro r w2 ⟨rfl,hb2⟩;(rw [show staB ⟨#[111,114]⟩ (s.go one).end = false from hsk]);have HB2:=Lib.hid (HBx.out.trans (hb2.mono HBx.out.size));have HX2:=Lib.hid (HX1.out.below hb2 HX1.out.lt);obtain ⟨d2,f2⟩:=HX2.out.facts;have HRes:=Lib.hid (((HR1.out.aw HA.out (by omega) (by omega)).below HBx.out (by have:=HA.out.2.2.2.1;have:=HZZ.out;omega)).below hb2 (by have h1:=HA.out.2.2.2.1;have h2:=HZZ.out;have h3:=HBx.out.size;omega));obtain ⟨d3,f3⟩:=HRes.out.facts;have hne:¬ w.heap.size = w1.heap.size:=(by have h1:=HA.out.2.2.2.1;have h2:=HZZ.out;omega);have hne':¬ w1.heap.size = w.heap.size:=(by omega);clear hb2))
    have HSix:=Lib.hid (six_has HRes.out (.int .i64 x.op) (.string x.name) (.string x.value) (.int .i64 x.n) (.int .i64 x.extra) (.slice Ak x.kids.length ck))
    have HFin:=Lib.hid (show Rx g E A c L (serP wOr 4 one) s w (.returned (.agg #[.int .i64 x.op,.string x.name,.string x.value,.int .i64 x.n,.int .i64 x.extra,.slice Ak x.kids.length ck])) (six w2 w.heap.size (.int .i64 x.op) (.string x.name) (.string x.value) (.int .i64 x.n) (.int .i64 x.extra) (.slice Ak x.kids.length ck)) from
      ⟨_,x,rfl,⟨_,rfl,six_lay ((HV.out.later HB2.out).mono fun b hb _=>(show w.heap.size+1≤b by have:=HZZ.out;omega)) (fun b hb=>⟨by omega,by omega⟩) _ _ _ _ _ _⟩,
       six_aw (((Aw.of_below HB1.out).trans HA.out).trans (.of_below HB2.out)) (.inr (.inr (Nat.le_refl _))) _ _ _ _ _ _,
       by rw [HE.out];exact (HR.out.below HB2.out).on fun b hb=>six_old w2 w.heap.size _ _ _ _ _ _ (by omega),by rw [HE.out];exact HFit.out⟩)
    show bodyPost _ _ _ _ _ (six w2 w.heap.size (.int .i64 x.op) (.string x.name) (.string x.value) (.int .i64 x.n) (.int .i64 x.extra) (.slice Ak x.kids.length ck))
    generalize six w2 w.heap.size (.int .i64 x.op) (.string x.name) (.string x.value) (.int .i64 x.n) (.int .i64 x.extra) (.slice Ak x.kids.length ck) = W6 at *
    obtain ⟨d6,f6⟩:=HSix.out.facts
    refine bodyPost_ret (v:=.agg #[.int .i64 x.op,.string x.name,.string x.value,.int .i64 x.n,.int .i64 x.extra,.slice Ak x.kids.length ck]) (by simp [results,Tryz.results28,go_sem,d6]) rfl ?_
    exact HFin.out
  | true =>
    obtain ⟨l,x0,r0,rfl,hq,hsk2⟩:=lev_open hsk
    clear hsk
    have hle0:=hsh _ _ _ hq
    have HQ:=Lib.hid hq
    have HS:=Lib.hid hsk2
    clear hq hsk2
    obtain ⟨i0,hi0,hz0,hz1,hz2⟩:=info_parts infoEx
    have HI0:=Lib.hid hi0
    have HZ0:=Lib.hid hz0
    clear hi0 hz0
    go_enter Tryz.func28,Tryz.ntmps28
    go_wp2_with (first
      | (go_at_call 28;refine HO1.out.mono ?_;rintro r w1 ⟨v,x,rfl,⟨kv,rfl,hv⟩,ha,hr,hfit⟩;obtain rfl:=hfit x0 r0 HQ.out;have hr:Rs g E A c L w1 (.ok () r0):=(by have h1:Rs g E A c L w1 (one l).end:=hr;rw [HQ.out] at h1;exact h1);have HV:=Lib.hid hv;have HA:=Lib.hid ha;have HR:=Lib.hid hr;obtain ⟨Ak,ck,rfl,_⟩:=hv.slice;clear hv ha hr hfit HO1;have HX1:=Lib.hid (Has.new w1 24 #[.int .i64 x0.op,.string x0.name,.string x0.value,.int .i64 x0.n,.int .i64 x0.extra,.slice Ak x0.kids.length ck]);have HBx:=Lib.hid (show Below w1.heap.size w1 (w1.alloc (.cells #[.int .i64 x0.op,.string x0.name,.string x0.value,.int .i64 x0.n,.int .i64 x0.extra,.slice Ak x0.kids.length ck] 24)) from (Below.refl _ _).alloc (Nat.le_refl _) _))
      | (go_at_call 52;refine (HIS.out _ _ (HR.out.below HBx.out)).mono ?_;rintro r w2 ⟨rfl,hb2⟩;(rw [show staB ⟨#[111,114]⟩ (Got.ok () r0) = true from HS.out]);have HB2:=Lib.hid (HBx.out.trans (hb2.mono HBx.out.size));have HX2:=Lib.hid (HX1.out.below hb2 HX1.out.lt);obtain ⟨d2,f2⟩:=HX2.out.facts;have HRes:=Lib.hid (((HR1.out.aw HA.out (by omega) (by omega)).below HBx.out (by have:=HA.out.2.2.2.1;have:=HZZ.out;omega)).below hb2 (by have h1:=HA.out.2.2.2.1;have h2:=HZZ.out;have h3:=HBx.out.size;omega));clear hb2))
    have HS0:=Lib.hid (show LevI g E A c L w 4 wOr one l (.slice (some ⟨w2.heap.size,0,none⟩) 1 1) (w2.alloc (.cells #[.int .i64 x0.op,.string x0.name,.string x0.value,.int .i64 x0.n,.int .i64 x0.extra,.slice Ak x0.kids.length ck] 24)) [(x0,.slice Ak x0.kids.length ck)] (.ok () r0) from by
      have hz:=HA.out.2.2.2.1
      rw [HZZ.out] at hz
      have hz2:=HB2.out.size
      have hB3:=HB2.out.alloc HB2.out.size (.cells #[.int .i64 x0.op,.string x0.name,.string x0.value,.int .i64 x0.n,.int .i64 x0.extra,.slice Ak x0.kids.length ck] 24)
      refine ⟨⟨rfl,.inr ⟨w2.heap.size,1,_,rfl,by omega,heap_alloc_new w2 _,Nat.le_refl _,by decide,rfl,rfl⟩⟩,fun p hp=>?_,HR.out.below hB3,((Aw.of_below HB1.out).trans HA.out).trans (.of_below hB3),HRes.out.alloc _,Nat.one_pos,fun _=>HS.out,?_,hle0,r0.length,x0,[],Nat.le_refl _,rfl,?_⟩
      · rw [List.mem_singleton] at hp
        subst hp
        refine HV.out.on (fun b hb hlt=>hB3.block b hlt) fun b hb hlt=>⟨by rw [HZZ.out] at hb;omega,fun e=>?_⟩
        simp [Value.ownBlock] at e
        omega
      · obtain ⟨i1,at1,_,hT,hl1,_⟩:=HR.out.obj
        have:=hT.2.2.1
        show 1+(r0.length+1)≤6000
        omega
      · unfold serP;rw [HQ.out];rfl)
    clear HV HA HR HB1 HR1 HX1 HBx HB2 HX2 HRes d2 f2
    generalize (w2.alloc (.cells #[.int .i64 x0.op,.string x0.name,.string x0.value,.int .i64 x0.n,.int .i64 x0.extra,.slice Ak x0.kids.length ck] 24)) = wA at *
    generalize (.slice (some ⟨w2.heap.size,0,none⟩) 1 1:Value) = vA at *
    go_loopw [8] (fun v wr=>∃ q st,Hid (LevI g E A c L w 4 wOr one l v wr q st)) (fun _ wr=>staN wr g)
    case atStart=>exact ⟨_,_,HS0⟩
    case round =>
      clear HS0 HS
      obtain ⟨q,st,H⟩:=hrel
      obtain ⟨A',c',rfl⟩:=H.out.val
      cases hsk:staB wOr st with
      | false =>
        obtain ⟨he1,hf1,hk1⟩:=H.out.fin hsk
        have HE:=Lib.hid he1
        have HF:=Lib.hid hf1
        have HK:=Lib.hid hk1
        clear he1 hf1 hk1
        go_wp2_with (go_at_call 50;refine (HTO.out _ _ H.out.rs).mono ?_;rintro e w5 ⟨rfl,ha,hr⟩;(rw [show staB ⟨#[111,114]⟩ st = false from hsk]);have hr:Rs g E A c L w5 st:=(by have h1:Rs g E A c L w5 (staT wOr st):=hr;rw [staT_no hsk] at h1;exact h1);have HA:=Lib.hid ha;have HR:=Lib.hid hr;have HRes:=Lib.hid (H.out.res.aw ha (by omega) (by omega));obtain ⟨d3,f3⟩:=HRes.out.facts;clear ha hr)
        have HSix:=Lib.hid (six_has HRes.out (.int .i64 4) (.string e0) (.string e0) (.int .i64 0) (.int .i64 0) (.slice A' q.length c'))
        have HFin:=Lib.hid (show Rx g E A c L (serP wOr 4 one) (.ok () l) w (.returned (.agg #[.int .i64 4,.string e0,.string e0,.int .i64 0,.int .i64 0,.slice A' q.length c'])) (six w5 w.heap.size (.int .i64 4) (.string e0) (.string e0) (.int .i64 0) (.int .i64 0) (.slice A' q.length c')) from
          ⟨_,_,rfl,⟨_,rfl,six_lay (lay_aw HK.out HA.out (by omega)) (fun b hb=>⟨by omega,by omega⟩) _ _ _ _ _ _⟩,
           six_aw (H.out.aw.trans HA.out) (.inr (.inr (Nat.le_refl _))) _ _ _ _ _ _,
           (by have h1:(serP wOr 4 one l).end = st:=HE.out;show Rs g E A c L _ (serP wOr 4 one l).end;rw [h1];exact HR.out.on fun b hb=>six_old w5 w.heap.size _ _ _ _ _ _ (by omega)),HF.out⟩)
        show bodyPost _ _ _ _ _ (six w5 w.heap.size (.int .i64 4) (.string e0) (.string e0) (.int .i64 0) (.int .i64 0) (.slice A' q.length c'))
        generalize six w5 w.heap.size (.int .i64 4) (.string e0) (.string e0) (.int .i64 0) (.int .i64 0) (.slice A' q.length c') = W6 at *
        obtain ⟨d6,f6⟩:=HSix.out.facts
        refine bodyPost_ret (v:=.agg #[.int .i64 4,.string e0,.string e0,.int .i64 0,.int .i64 0,.slice A' q.length c']) (by simp [results,Tryz.results28,go_sem,d6]) rfl ?_
        exact HFin.out
      | true =>
        obtain ⟨t,r,rfl,_,_,het⟩:=staB_yes hsk
        have HSK:=Lib.hid hsk
        have HET:=Lib.hid het
        have hpos:=H.out.pos
        have hHm:q.length+(r.length+1+1)≤6000:=H.out.hm
        have hHl:r.length+1≤l.length:=H.out.eq.1
        have hfl:l.length≤k:=hf
        have hsz:=H.out.aw.2.2.2.1
        have hown:=H.out.own
        clear hsk het
        go_wp2_with (first
          | (go_at_call 50;refine (HTO.out _ _ H.out.rs).mono ?_;rintro e w2 ⟨rfl,ha2,hr2⟩;(rw [show staB ⟨#[111,114]⟩ (Got.ok () (t :: r)) = true from HSK.out]);have hr2:Rs g E A c L w2 (.ok () r):=(by have h1:Rs g E A c L w2 (staT wOr (.ok () (t :: r))):=hr2;rw [HET.out] at h1;exact h1);have HO:=Lib.hid (hone (.ok () r) w2 (show r.length≤k by omega) hr2);have HA2:=Lib.hid ha2;clear ha2 hr2)
          | (go_at_call 28;refine HO.out.mono ?_;clear HO;rintro e w3 ⟨v2,x2,rfl,⟨kv2,rfl,hv2⟩,ha,hr,hfit⟩;have HV:=Lib.hid hv2;have HA:=Lib.hid ha;have HP:=Lib.hid (show Rs g E A c L w3 (one r).end from hr);have HF2:=Lib.hid (show (one r).Fit x2 from hfit);have HKone:=Lib.hid hv2.one;have HOwn:=Lib.hid (show (w3.alloc (.cells #[.int .i64 x2.op,.string x2.name,.string x2.value,.int .i64 x2.n,.int .i64 x2.extra,kv2] 24)).ownsRow (w.heap.size+1) 24 6 (.slice A' q.length c') q.length (qCells q) from (own_aw (own_aw hown HA2.out (by omega) (by omega)) ha (by omega) (by omega)).alloc _);clear hv2 ha hr hfit)
          | ((with_reducible show wpList _ _ _ (Oper.mk (some 35) _ _ _ _ _ :: _) _ _);refine wpList_appB rfl (.tmp 29) (.tmp 34) 22 rfl (w.heap.size+1) 24 i0 (.agg #[.int .i64 0,.string ⟨#[]⟩,.string ⟨#[]⟩,.int .i64 0,.int .i64 0,.slice none 0 0]) 6 80 Tryz.underlying22 HI0.out HZ0.out hz1 hz2 rfl (by decide) _ q.length (qCells q) rfl HOwn.out hpos ⟨w3.heap.size,0,none⟩ 1 1 (exL x2 kv2) rfl rfl (tok_src w3 (exL x2 kv2) _) (exL_one x2 kv2 HKone.out) (by unfold maxLen;omega) (by omega) (by have h1:=HA2.out.2.2.2.1;have h2:=HA.out.2.2.2.1;rw [World.size_alloc];omega) ?_;intro v' w4 hown' hgrow hblk;have HNext:=Lib.hid (H.out.next hlt HSK.out (fun c r2 h=>hsh _ c r2 h) HA2.out HA.out HP.out HF2.out HV.out hown' hgrow hblk);clear hown' hgrow hblk))
        have hml:=HNext.out.rs.meas
        have hml2:=H.out.rs.meas
        have hle:=lev_meas hsh HSK.out
        go_roundw
        case rel=>exact ⟨_,_,HNext⟩
        case measure=>rw [hml,hml2];exact hle
set_option maxRecDepth 100000 in
set_option maxHeartbeats 8000000 in
theorem rlev1_any (k:Nat) (one:List Fnd→Got Ex) (s:Got Unit) (w:World) (h:Rs g E A c L w s) (hf:Fuel k s)
    (hone:∀ (s':Got Unit) (W:World),Fuel k s'→Rs g E A c L W s'→Calls Tryz.prog 28 #[.pointer (some ⟨g,0,none⟩),.int .i64 2] W (Rx g E A c L one s' W))
    (hsh:∀ l' c r,one l' = .ok c r→r.length≤l'.length) :
    Calls Tryz.prog 28 #[.pointer (some ⟨g,0,none⟩),.int .i64 1] w (Rx g E A c L (serP wAnd 3 one) s w):=by
  have hlt:=h.lt
  have hb1:Below w.heap.size w (w.alloc (.cells #[.int .i64 0,.string ⟨#[]⟩,.string ⟨#[]⟩,.int .i64 0,.int .i64 0,.slice none 0 0] 24)):=(Below.refl _ _).alloc (Nat.le_refl _) _
  have HO1:=Lib.hid (hone s _ hf (h.below hb1))
  have HB1:=Lib.hid hb1
  have HR1:=Lib.hid (Has.new w 24 #[.int .i64 0,.string ⟨#[]⟩,.string ⟨#[]⟩,.int .i64 0,.int .i64 0,.slice none 0 0])
  have HIS:=Lib.hid (fun (s':Got Unit) (W:World) (h:Rs g E A c L W s')=>ris_any ⟨#[97,110,100]⟩ s' W h)
  have HTO:=Lib.hid (fun (s':Got Unit) (W:World) (h:Rs g E A c L W s')=>rtook_any ⟨#[97,110,100]⟩ s' W h)
  have hsz:(w.alloc (.cells #[.int .i64 0,.string ⟨#[]⟩,.string ⟨#[]⟩,.int .i64 0,.int .i64 0,.slice none 0 0] 24)).heap.size = w.heap.size+1:=World.size_alloc _ _
  have HZZ:=Lib.hid hsz
  clear hb1 h hsz
  cases hsk:staB wAnd (s.go one).end with
  | false =>
    have HE:=Lib.hid (serP_go wAnd 3 one s hsk)
    clear hone
    go_enter Tryz.func28,Tryz.ntmps28
    go_wp2_with (first
      | (go_at_call 28;refine HO1.out.mono ?_;rintro r w1 ⟨v,x,rfl,⟨kv,rfl,hv⟩,ha,hr,hfit⟩;have HV:=Lib.hid hv;have HA:=Lib.hid ha;have HR:=Lib.hid hr;have HFit:=Lib.hid hfit;obtain ⟨Ak,ck,rfl,_⟩:=hv.slice;clear hv ha hr hfit HO1;have HX1:=Lib.hid (Has.new w1 24 #[.int .i64 x.op,.string x.name,.string x.value,.int .i64 x.n,.int .i64 x.extra,.slice Ak x.kids.length ck]);have HBx:=Lib.hid (show Below w1.heap.size w1 (w1.alloc (.cells #[.int .i64 x.op,.string x.name,.string x.value,.int .i64 x.n,.int .i64 x.extra,.slice Ak x.kids.length ck] 24)) from (Below.refl _ _).alloc (Nat.le_refl _) _))
      | (go_at_call 52;refine (HIS.out _ _ (HR.out.below HBx.out)).mono ?_;rintro r w2 ⟨rfl,hb2⟩;(rw [show staB ⟨#[97,110,100]⟩ (s.go one).end = false from hsk]);have HB2:=Lib.hid (HBx.out.trans (hb2.mono HBx.out.size));have HX2:=Lib.hid (HX1.out.below hb2 HX1.out.lt);obtain ⟨d2,f2⟩:=HX2.out.facts;have HRes:=Lib.hid (((HR1.out.aw HA.out (by omega) (by omega)).below HBx.out (by have:=HA.out.2.2.2.1;have:=HZZ.out;omega)).below hb2 (by have h1:=HA.out.2.2.2.1;have h2:=HZZ.out;have h3:=HBx.out.size;omega));obtain ⟨d3,f3⟩:=HRes.out.facts;have hne:¬ w.heap.size = w1.heap.size:=(by have h1:=HA.out.2.2.2.1;have h2:=HZZ.out;omega);have hne':¬ w1.heap.size = w.heap.size:=(by omega);clear hb2))
    have HSix:=Lib.hid (six_has HRes.out (.int .i64 x.op) (.string x.name) (.string x.value) (.int .i64 x.n) (.int .i64 x.extra) (.slice Ak x.kids.length ck))
    have HFin:=Lib.hid (show Rx g E A c L (serP wAnd 3 one) s w (.returned (.agg #[.int .i64 x.op,.string x.name,.string x.value,.int .i64 x.n,.int .i64 x.extra,.slice Ak x.kids.length ck])) (six w2 w.heap.size (.int .i64 x.op) (.string x.name) (.string x.value) (.int .i64 x.n) (.int .i64 x.extra) (.slice Ak x.kids.length ck)) from
      ⟨_,x,rfl,⟨_,rfl,six_lay ((HV.out.later HB2.out).mono fun b hb _=>(show w.heap.size+1≤b by have:=HZZ.out;omega)) (fun b hb=>⟨by omega,by omega⟩) _ _ _ _ _ _⟩,
       six_aw (((Aw.of_below HB1.out).trans HA.out).trans (.of_below HB2.out)) (.inr (.inr (Nat.le_refl _))) _ _ _ _ _ _,
       by rw [HE.out];exact (HR.out.below HB2.out).on fun b hb=>six_old w2 w.heap.size _ _ _ _ _ _ (by omega),by rw [HE.out];exact HFit.out⟩)
    show bodyPost _ _ _ _ _ (six w2 w.heap.size (.int .i64 x.op) (.string x.name) (.string x.value) (.int .i64 x.n) (.int .i64 x.extra) (.slice Ak x.kids.length ck))
    generalize six w2 w.heap.size (.int .i64 x.op) (.string x.name) (.string x.value) (.int .i64 x.n) (.int .i64 x.extra) (.slice Ak x.kids.length ck) = W6 at *
    obtain ⟨d6,f6⟩:=HSix.out.facts
    refine bodyPost_ret (v:=.agg #[.int .i64 x.op,.string x.name,.string x.value,.int .i64 x.n,.int .i64 x.extra,.slice Ak x.kids.length ck]) (by simp [results,Tryz.results28,go_sem,d6]) rfl ?_
    exact HFin.out
  | true =>
    obtain ⟨l,x0,r0,rfl,hq,hsk2⟩:=lev_open hsk
    clear hsk
    have hle0:=hsh _ _ _ hq
    have HQ:=Lib.hid hq
    have HS:=Lib.hid hsk2
    clear hq hsk2
    obtain ⟨i0,hi0,hz0,hz1,hz2⟩:=info_parts infoEx
    have HI0:=Lib.hid hi0
    have HZ0:=Lib.hid hz0
    clear hi0 hz0
    go_enter Tryz.func28,Tryz.ntmps28
    go_wp2_with (first
      | (go_at_call 28;refine HO1.out.mono ?_;rintro r w1 ⟨v,x,rfl,⟨kv,rfl,hv⟩,ha,hr,hfit⟩;obtain rfl:=hfit x0 r0 HQ.out;have hr:Rs g E A c L w1 (.ok () r0):=(by have h1:Rs g E A c L w1 (one l).end:=hr;rw [HQ.out] at h1;exact h1);have HV:=Lib.hid hv;have HA:=Lib.hid ha;have HR:=Lib.hid hr;obtain ⟨Ak,ck,rfl,_⟩:=hv.slice;clear hv ha hr hfit HO1;have HX1:=Lib.hid (Has.new w1 24 #[.int .i64 x0.op,.string x0.name,.string x0.value,.int .i64 x0.n,.int .i64 x0.extra,.slice Ak x0.kids.length ck]);have HBx:=Lib.hid (show Below w1.heap.size w1 (w1.alloc (.cells #[.int .i64 x0.op,.string x0.name,.string x0.value,.int .i64 x0.n,.int .i64 x0.extra,.slice Ak x0.kids.length ck] 24)) from (Below.refl _ _).alloc (Nat.le_refl _) _))
      | (go_at_call 52;refine (HIS.out _ _ (HR.out.below HBx.out)).mono ?_;rintro r w2 ⟨rfl,hb2⟩;(rw [show staB ⟨#[97,110,100]⟩ (Got.ok () r0) = true from HS.out]);have HB2:=Lib.hid (HBx.out.trans (hb2.mono HBx.out.size));have HX2:=Lib.hid (HX1.out.below hb2 HX1.out.lt);obtain ⟨d2,f2⟩:=HX2.out.facts;have HRes:=Lib.hid (((HR1.out.aw HA.out (by omega) (by omega)).below HBx.out (by have:=HA.out.2.2.2.1;have:=HZZ.out;omega)).below hb2 (by have h1:=HA.out.2.2.2.1;have h2:=HZZ.out;have h3:=HBx.out.size;omega));clear hb2))
    have HS0:=Lib.hid (show LevI g E A c L w 3 wAnd one l (.slice (some ⟨w2.heap.size,0,none⟩) 1 1) (w2.alloc (.cells #[.int .i64 x0.op,.string x0.name,.string x0.value,.int .i64 x0.n,.int .i64 x0.extra,.slice Ak x0.kids.length ck] 24)) [(x0,.slice Ak x0.kids.length ck)] (.ok () r0) from by
      have hz:=HA.out.2.2.2.1
      rw [HZZ.out] at hz
      have hz2:=HB2.out.size
      have hB3:=HB2.out.alloc HB2.out.size (.cells #[.int .i64 x0.op,.string x0.name,.string x0.value,.int .i64 x0.n,.int .i64 x0.extra,.slice Ak x0.kids.length ck] 24)
      refine ⟨⟨rfl,.inr ⟨w2.heap.size,1,_,rfl,by omega,heap_alloc_new w2 _,Nat.le_refl _,by decide,rfl,rfl⟩⟩,fun p hp=>?_,HR.out.below hB3,((Aw.of_below HB1.out).trans HA.out).trans (.of_below hB3),HRes.out.alloc _,Nat.one_pos,fun _=>HS.out,?_,hle0,r0.length,x0,[],Nat.le_refl _,rfl,?_⟩
      · rw [List.mem_singleton] at hp
        subst hp
        refine HV.out.on (fun b hb hlt=>hB3.block b hlt) fun b hb hlt=>⟨by rw [HZZ.out] at hb;omega,fun e=>?_⟩
        simp [Value.ownBlock] at e
        omega
      · obtain ⟨i1,at1,_,hT,hl1,_⟩:=HR.out.obj
        have:=hT.2.2.1
        show 1+(r0.length+1)≤6000
        omega
      · unfold serP;rw [HQ.out];rfl)
    clear HV HA HR HB1 HR1 HX1 HBx HB2 HX2 HRes d2 f2
    generalize (w2.alloc (.cells #[.int .i64 x0.op,.string x0.name,.string x0.value,.int .i64 x0.n,.int .i64 x0.extra,.slice Ak x0.kids.length ck] 24)) = wA at *
    generalize (.slice (some ⟨w2.heap.size,0,none⟩) 1 1:Value) = vA at *
    go_loopw [8] (fun v wr=>∃ q st,Hid (LevI g E A c L w 3 wAnd one l v wr q st)) (fun _ wr=>staN wr g)
    case atStart=>exact ⟨_,_,HS0⟩
    case round =>
      clear HS0 HS
      obtain ⟨q,st,H⟩:=hrel
      obtain ⟨A',c',rfl⟩:=H.out.val
      cases hsk:staB wAnd st with
      | false =>
        obtain ⟨he1,hf1,hk1⟩:=H.out.fin hsk
        have HE:=Lib.hid he1
        have HF:=Lib.hid hf1
        have HK:=Lib.hid hk1
        clear he1 hf1 hk1
        go_wp2_with (go_at_call 50;refine (HTO.out _ _ H.out.rs).mono ?_;rintro e w5 ⟨rfl,ha,hr⟩;(rw [show staB ⟨#[97,110,100]⟩ st = false from hsk]);have hr:Rs g E A c L w5 st:=(by have h1:Rs g E A c L w5 (staT wAnd st):=hr;rw [staT_no hsk] at h1;exact h1);have HA:=Lib.hid ha;have HR:=Lib.hid hr;have HRes:=Lib.hid (H.out.res.aw ha (by omega) (by omega));obtain ⟨d3,f3⟩:=HRes.out.facts;clear ha hr)
        have HSix:=Lib.hid (six_has HRes.out (.int .i64 3) (.string e0) (.string e0) (.int .i64 0) (.int .i64 0) (.slice A' q.length c'))
        have HFin:=Lib.hid (show Rx g E A c L (serP wAnd 3 one) (.ok () l) w (.returned (.agg #[.int .i64 3,.string e0,.string e0,.int .i64 0,.int .i64 0,.slice A' q.length c'])) (six w5 w.heap.size (.int .i64 3) (.string e0) (.string e0) (.int .i64 0) (.int .i64 0) (.slice A' q.length c')) from
          ⟨_,_,rfl,⟨_,rfl,six_lay (lay_aw HK.out HA.out (by omega)) (fun b hb=>⟨by omega,by omega⟩) _ _ _ _ _ _⟩,
           six_aw (H.out.aw.trans HA.out) (.inr (.inr (Nat.le_refl _))) _ _ _ _ _ _,
           (by have h1:(serP wAnd 3 one l).end = st:=HE.out;show Rs g E A c L _ (serP wAnd 3 one l).end;rw [h1];exact HR.out.on fun b hb=>six_old w5 w.heap.size _ _ _ _ _ _ (by omega)),HF.out⟩)
        show bodyPost _ _ _ _ _ (six w5 w.heap.size (.int .i64 3) (.string e0) (.string e0) (.int .i64 0) (.int .i64 0) (.slice A' q.length c'))
        generalize six w5 w.heap.size (.int .i64 3) (.string e0) (.string e0) (.int .i64 0) (.int .i64 0) (.slice A' q.length c') = W6 at *
        obtain ⟨d6,f6⟩:=HSix.out.facts
        refine bodyPost_ret (v:=.agg #[.int .i64 3,.string e0,.string e0,.int .i64 0,.int .i64 0,.slice A' q.length c']) (by simp [results,Tryz.results28,go_sem,d6]) rfl ?_
        exact HFin.out
      | true =>
        obtain ⟨t,r,rfl,_,_,het⟩:=staB_yes hsk
        have HSK:=Lib.hid hsk
        have HET:=Lib.hid het
        have hpos:=H.out.pos
        have hHm:q.length+(r.length+1+1)≤6000:=H.out.hm
        have hHl:r.length+1≤l.length:=H.out.eq.1
        have hfl:l.length≤k:=hf
        have hsz:=H.out.aw.2.2.2.1
        have hown:=H.out.own
        clear hsk het
        go_wp2_with (first
          | (go_at_call 50;refine (HTO.out _ _ H.out.rs).mono ?_;rintro e w2 ⟨rfl,ha2,hr2⟩;(rw [show staB ⟨#[97,110,100]⟩ (Got.ok () (t :: r)) = true from HSK.out]);have hr2:Rs g E A c L w2 (.ok () r):=(by have h1:Rs g E A c L w2 (staT wAnd (.ok () (t :: r))):=hr2;rw [HET.out] at h1;exact h1);have HO:=Lib.hid (hone (.ok () r) w2 (show r.length≤k by omega) hr2);have HA2:=Lib.hid ha2;clear ha2 hr2)
          | (go_at_call 28;refine HO.out.mono ?_;clear HO;rintro e w3 ⟨v2,x2,rfl,⟨kv2,rfl,hv2⟩,ha,hr,hfit⟩;have HV:=Lib.hid hv2;have HA:=Lib.hid ha;have HP:=Lib.hid (show Rs g E A c L w3 (one r).end from hr);have HF2:=Lib.hid (show (one r).Fit x2 from hfit);have HKone:=Lib.hid hv2.one;have HOwn:=Lib.hid (show (w3.alloc (.cells #[.int .i64 x2.op,.string x2.name,.string x2.value,.int .i64 x2.n,.int .i64 x2.extra,kv2] 24)).ownsRow (w.heap.size+1) 24 6 (.slice A' q.length c') q.length (qCells q) from (own_aw (own_aw hown HA2.out (by omega) (by omega)) ha (by omega) (by omega)).alloc _);clear hv2 ha hr hfit)
          | ((with_reducible show wpList _ _ _ (Oper.mk (some 35) _ _ _ _ _ :: _) _ _);refine wpList_appB rfl (.tmp 29) (.tmp 34) 22 rfl (w.heap.size+1) 24 i0 (.agg #[.int .i64 0,.string ⟨#[]⟩,.string ⟨#[]⟩,.int .i64 0,.int .i64 0,.slice none 0 0]) 6 80 Tryz.underlying22 HI0.out HZ0.out hz1 hz2 rfl (by decide) _ q.length (qCells q) rfl HOwn.out hpos ⟨w3.heap.size,0,none⟩ 1 1 (exL x2 kv2) rfl rfl (tok_src w3 (exL x2 kv2) _) (exL_one x2 kv2 HKone.out) (by unfold maxLen;omega) (by omega) (by have h1:=HA2.out.2.2.2.1;have h2:=HA.out.2.2.2.1;rw [World.size_alloc];omega) ?_;intro v' w4 hown' hgrow hblk;have HNext:=Lib.hid (H.out.next hlt HSK.out (fun c r2 h=>hsh _ c r2 h) HA2.out HA.out HP.out HF2.out HV.out hown' hgrow hblk);clear hown' hgrow hblk))
        have hml:=HNext.out.rs.meas
        have hml2:=H.out.rs.meas
        have hle:=lev_meas hsh HSK.out
        go_roundw
        case rel=>exact ⟨_,_,HNext⟩
        case measure=>rw [hml,hml2];exact hle
end
end Go.Proofs.YtppoeiofdmlpeaaGreatDoor
