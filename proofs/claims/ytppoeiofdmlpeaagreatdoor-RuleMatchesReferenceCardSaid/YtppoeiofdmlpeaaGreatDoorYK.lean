/- The reference's parser: a condition that begins with a word of its own. Condition: what it calls keeps its contract. -/
import Derived.Test.YtppoeiofdmlpeaaGreatDoorYJ
namespace Go.Proofs.YtppoeiofdmlpeaaGreatDoor
open Go Go.RowKit
section
variable {g:Nat} {E:Int} {A:Option Addr} {c:Nat} {L:List Fnd}
set_option maxRecDepth 100000 in
set_option maxHeartbeats 8000000 in
theorem rn_limit {one:List Fnd→Got Ex} {t:Fnd} {r:List Fnd} {w:World} (h:Rs g E A c L w (.ok () (t :: r))) (h1:staB ⟨#[110,111,116]⟩ (.ok () (t :: r)) = false) (h2:staB ⟨#[40]⟩ (.ok () (t :: r)) = false) (h3:staB ⟨#[116,114,117,101]⟩ (.ok () (t :: r)) = false) (hy:staB ⟨#[108,105,109,105,116]⟩ (.ok () (t :: r)) = true) (hp:staB ⟨#[112,108,117,115]⟩ (((Got.ok () r).go (tokP E 1)).end.go (numP E 0)).end = false) :
    Calls Tryz.prog 51 #[.pointer (some ⟨g,0,none⟩)] w (Rx g E A c L (notP1 E one) (.ok () (t :: r)) w):=by
  have hlt:=h.lt
  have hG:TokG t:=h.tokG () _ rfl t (List.mem_cons_self ..)
  have hGr:∀ u∈r,TokG u:=fun u hu=>h.tokG () _ rfl u (List.mem_cons_of_mem _ hu)
  have hte:staT ⟨#[108,105,109,105,116]⟩ (.ok () (t :: r)) = .ok () r:=by obtain ⟨_,_,e,_,_,he⟩:=staB_yes hy;rw [he];injection e with _ e;injection e with _ e;rw [e]
  have HF:=Lib.hid (Fr.start h)
  have HNO:=Lib.hid (took_no (g:=g) (E:=E) (A:=A) (c:=c) (L:=L) (.ok () (t :: r)))
  have HYE:=Lib.hid (took_st (g:=g) (E:=E) (A:=A) (c:=c) (L:=L) ⟨#[108,105,109,105,116]⟩ true hy hte)
  have HY:=Lib.hid hy
  have HG:=Lib.hid hG
  have HGr:=Lib.hid hGr
  have HW1:=Lib.hid h1
  have HW2:=Lib.hid h2
  have HW3:=Lib.hid h3
  clear h hy hG hGr hte h1 h2 h3
  obtain ⟨s1,hs1⟩:∃ q,((Got.ok () r).go (tokP E 1)).end = q:=⟨_,rfl⟩
  rw [hs1] at hp
  obtain ⟨s2,hs2⟩:∃ q,(s1.go (numP E 0)).end = q:=⟨_,rfl⟩
  rw [hs2] at hp
  have HT1:=Lib.hid (tok_st (g:=g) (A:=A) (c:=c) (L:=L) 1 hs1)
  have HT2:=Lib.hid (num_st (g:=g) (A:=A) (c:=c) (L:=L) 0 hs2)
  have HP:=Lib.hid hp
  have HT3:=Lib.hid (took_st (g:=g) (E:=E) (A:=A) (c:=c) (L:=L) ⟨#[112,108,117,115]⟩ false hp (staT_no hp))
  clear hp hs1 hs2
  go_enter Tryz.func51,Tryz.ntmps51
  go_wp2_with (first
    | (go_at_call 50;refine (HNO.out _ _ HF.out.rs (by (first | exact HW1.out | exact HW2.out | exact HW3.out))).mono ?_;rintro _ w0 ⟨rfl,ha,hr⟩;replace HF:=Lib.hid (HF.out.call ha hr);clear ha hr)
    | (go_at_call 50;refine (HYE.out _ HF.out.rs).mono ?_;rintro _ w0 ⟨rfl,ha,hr⟩;replace HF:=Lib.hid (HF.out.call ha hr);clear ha hr HYE)
    | (go_at_call 27;refine (HT1.out _ (HF.out).rs).mono ?_;rintro _ w1 ⟨a,rfl,ha,hr,hst⟩;replace HF:=Lib.hid ((HF.out).call ha hr);have HS1:=Lib.hid hst;have HC:=Lib.hid (Has.new w1 24 #[.int .i64 5,.string a,.string ⟨#[]⟩,.int .i64 0,.int .i64 0,.slice none 0 0]);have HB:=Lib.hid HF.out.lt;clear HT1 ha hr hst)
    | (go_at_call 79;refine (HT2.out _ (HF.out.alloc _).rs).mono ?_;rintro _ w2 ⟨n,rfl,ha,hr,hst⟩;replace HF:=Lib.hid ((HF.out.alloc _).call ha hr);have HS2:=Lib.hid hst;replace HC:=Lib.hid (HC.out.aw ha (by have:=HB.out;omega) (by have:=HB.out;omega));obtain ⟨d2,f2⟩:=(HC.out).facts;clear HT2 ha hr hst)
    | (go_at_call 50;refine (HT3.out _ (HF.out.set HB.out).rs).mono ?_;rintro _ w3 ⟨rfl,ha,hr⟩;replace HF:=Lib.hid ((HF.out.set HB.out).call ha hr);replace HC:=Lib.hid (show Has w3 w1.heap.size 24 #[.int .i64 5,.string a,.string ⟨#[]⟩,.int .i64 n,.int .i64 0,.slice none 0 0] from (HC.out.put 3 (.int .i64 n)).aw ha (by have:=HB.out;omega) (by have:=HB.out;omega));obtain ⟨d4,f4⟩:=(HC.out).facts;obtain ⟨d5,f5⟩:=(HF.out.res).facts;clear HT3 ha hr))
  have HSix:=Lib.hid (six_has HF.out.res (.int .i64 5) (.string a) (.string ⟨#[]⟩) (.int .i64 n) (.int .i64 0) (.slice none 0 0))
  have HFin:=Lib.hid (show Rx g E A c L (notP1 E one) (.ok () (t :: r)) w (.returned (.agg #[.int .i64 5,.string a,.string ⟨#[]⟩,.int .i64 n,.int .i64 0,.slice none 0 0])) (six w3 w.heap.size (.int .i64 5) (.string a) (.string ⟨#[]⟩) (.int .i64 n) (.int .i64 0) (.slice none 0 0)) from HF.out.fin (.mk 5 a e0 n 0 []) (stp_limit HG.out HGr.out HY.out HS1.out HS2.out HP.out) (LayS.nil _ _))
  show bodyPost _ _ _ _ _ (six w3 w.heap.size (.int .i64 5) (.string a) (.string ⟨#[]⟩) (.int .i64 n) (.int .i64 0) (.slice none 0 0))
  generalize six w3 w.heap.size (.int .i64 5) (.string a) (.string ⟨#[]⟩) (.int .i64 n) (.int .i64 0) (.slice none 0 0) = W6 at *
  obtain ⟨d6,f6⟩:=HSix.out.facts
  refine bodyPost_ret (v:=.agg #[.int .i64 5,.string a,.string ⟨#[]⟩,.int .i64 n,.int .i64 0,.slice none 0 0]) (by simp [results,Tryz.results51,go_sem,d6]) rfl ?_
  exact HFin.out
set_option maxRecDepth 100000 in
set_option maxHeartbeats 8000000 in
theorem rn_limit_plus {one:List Fnd→Got Ex} {t:Fnd} {r:List Fnd} {w:World} (h:Rs g E A c L w (.ok () (t :: r))) (h1:staB ⟨#[110,111,116]⟩ (.ok () (t :: r)) = false) (h2:staB ⟨#[40]⟩ (.ok () (t :: r)) = false) (h3:staB ⟨#[116,114,117,101]⟩ (.ok () (t :: r)) = false) (hy:staB ⟨#[108,105,109,105,116]⟩ (.ok () (t :: r)) = true) (hp:staB ⟨#[112,108,117,115]⟩ (((Got.ok () r).go (tokP E 1)).end.go (numP E 0)).end = true) :
    Calls Tryz.prog 51 #[.pointer (some ⟨g,0,none⟩)] w (Rx g E A c L (notP1 E one) (.ok () (t :: r)) w):=by
  have hlt:=h.lt
  have hG:TokG t:=h.tokG () _ rfl t (List.mem_cons_self ..)
  have hGr:∀ u∈r,TokG u:=fun u hu=>h.tokG () _ rfl u (List.mem_cons_of_mem _ hu)
  have hte:staT ⟨#[108,105,109,105,116]⟩ (.ok () (t :: r)) = .ok () r:=by obtain ⟨_,_,e,_,_,he⟩:=staB_yes hy;rw [he];injection e with _ e;injection e with _ e;rw [e]
  have HF:=Lib.hid (Fr.start h)
  have HNO:=Lib.hid (took_no (g:=g) (E:=E) (A:=A) (c:=c) (L:=L) (.ok () (t :: r)))
  have HYE:=Lib.hid (took_st (g:=g) (E:=E) (A:=A) (c:=c) (L:=L) ⟨#[108,105,109,105,116]⟩ true hy hte)
  have HY:=Lib.hid hy
  have HG:=Lib.hid hG
  have HGr:=Lib.hid hGr
  have HW1:=Lib.hid h1
  have HW2:=Lib.hid h2
  have HW3:=Lib.hid h3
  clear h hy hG hGr hte h1 h2 h3
  obtain ⟨s1,hs1⟩:∃ q,((Got.ok () r).go (tokP E 1)).end = q:=⟨_,rfl⟩
  rw [hs1] at hp
  obtain ⟨s2,hs2⟩:∃ q,(s1.go (numP E 0)).end = q:=⟨_,rfl⟩
  rw [hs2] at hp
  have HT1:=Lib.hid (tok_st (g:=g) (A:=A) (c:=c) (L:=L) 1 hs1)
  have HT2:=Lib.hid (num_st (g:=g) (A:=A) (c:=c) (L:=L) 0 hs2)
  have HP:=Lib.hid hp
  obtain ⟨s3,hs3⟩:∃ q,((staT ⟨#[112,108,117,115]⟩ s2).go (numP E 0)).end = q:=⟨_,rfl⟩
  have HT3:=Lib.hid (took_st (g:=g) (E:=E) (A:=A) (c:=c) (L:=L) ⟨#[112,108,117,115]⟩ true hp rfl)
  have HT4:=Lib.hid (num_st (g:=g) (A:=A) (c:=c) (L:=L) 0 hs3)
  clear hp hs1 hs2 hs3
  go_enter Tryz.func51,Tryz.ntmps51
  go_wp2_with (first
    | (go_at_call 50;refine (HNO.out _ _ HF.out.rs (by (first | exact HW1.out | exact HW2.out | exact HW3.out))).mono ?_;rintro _ w0 ⟨rfl,ha,hr⟩;replace HF:=Lib.hid (HF.out.call ha hr);clear ha hr)
    | (go_at_call 50;refine (HYE.out _ HF.out.rs).mono ?_;rintro _ w0 ⟨rfl,ha,hr⟩;replace HF:=Lib.hid (HF.out.call ha hr);clear ha hr HYE)
    | (go_at_call 27;refine (HT1.out _ (HF.out).rs).mono ?_;rintro _ w1 ⟨a,rfl,ha,hr,hst⟩;replace HF:=Lib.hid ((HF.out).call ha hr);have HS1:=Lib.hid hst;have HC:=Lib.hid (Has.new w1 24 #[.int .i64 5,.string a,.string ⟨#[]⟩,.int .i64 0,.int .i64 0,.slice none 0 0]);have HB:=Lib.hid HF.out.lt;clear HT1 ha hr hst)
    | (go_at_call 79;refine (HT2.out _ (HF.out.alloc _).rs).mono ?_;rintro _ w2 ⟨n,rfl,ha,hr,hst⟩;replace HF:=Lib.hid ((HF.out.alloc _).call ha hr);have HS2:=Lib.hid hst;replace HC:=Lib.hid (HC.out.aw ha (by have:=HB.out;omega) (by have:=HB.out;omega));obtain ⟨d2,f2⟩:=(HC.out).facts;clear HT2 ha hr hst)
    | (go_at_call 50;refine (HT3.out _ (HF.out.set HB.out).rs).mono ?_;rintro _ w3 ⟨rfl,ha,hr⟩;replace HF:=Lib.hid ((HF.out.set HB.out).call ha hr);replace HC:=Lib.hid (show Has w3 w1.heap.size 24 #[.int .i64 5,.string a,.string ⟨#[]⟩,.int .i64 n,.int .i64 0,.slice none 0 0] from (HC.out.put 3 (.int .i64 n)).aw ha (by have:=HB.out;omega) (by have:=HB.out;omega));clear HT3 ha hr)
    | (go_at_call 79;refine (HT4.out _ (HF.out).rs).mono ?_;rintro _ w4 ⟨x,rfl,ha,hr,hst⟩;replace HF:=Lib.hid ((HF.out).call ha hr);have HS4:=Lib.hid hst;replace HC:=Lib.hid (HC.out.aw ha (by have:=HB.out;omega) (by have:=HB.out;omega));obtain ⟨d4,f4⟩:=(HC.out).facts;replace HF:=Lib.hid (HF.out.set (i:=4) (v:=.int .i64 x) HB.out);obtain ⟨d5,f5⟩:=(HF.out.res).facts;have hne:¬ w.heap.size = w1.heap.size:=(by have:=HB.out;omega);have hne2:¬ w1.heap.size = w.heap.size:=(by have:=HB.out;omega);clear HT4 ha hr hst))
  have HSix:=Lib.hid (six_has HF.out.res (.int .i64 5) (.string a) (.string ⟨#[]⟩) (.int .i64 n) (.int .i64 x) (.slice none 0 0))
  have HFin:=Lib.hid (show Rx g E A c L (notP1 E one) (.ok () (t :: r)) w (.returned (.agg #[.int .i64 5,.string a,.string ⟨#[]⟩,.int .i64 n,.int .i64 x,.slice none 0 0])) (six (w4.setCell ⟨w1.heap.size,4,none⟩ (.int .i64 x)) w.heap.size (.int .i64 5) (.string a) (.string ⟨#[]⟩) (.int .i64 n) (.int .i64 x) (.slice none 0 0)) from HF.out.fin (.mk 5 a e0 n x []) (stp_limit_plus HG.out HGr.out HY.out HS1.out HS2.out HP.out HS4.out) (LayS.nil _ _))
  show bodyPost _ _ _ _ _ (six (w4.setCell ⟨w1.heap.size,4,none⟩ (.int .i64 x)) w.heap.size (.int .i64 5) (.string a) (.string ⟨#[]⟩) (.int .i64 n) (.int .i64 x) (.slice none 0 0))
  generalize six (w4.setCell ⟨w1.heap.size,4,none⟩ (.int .i64 x)) w.heap.size (.int .i64 5) (.string a) (.string ⟨#[]⟩) (.int .i64 n) (.int .i64 x) (.slice none 0 0) = W6 at *
  obtain ⟨d6,f6⟩:=HSix.out.facts
  refine bodyPost_ret (v:=.agg #[.int .i64 5,.string a,.string ⟨#[]⟩,.int .i64 n,.int .i64 x,.slice none 0 0]) (by simp [results,Tryz.results51,go_sem,d6]) rfl ?_
  exact HFin.out
set_option maxRecDepth 100000 in
set_option maxHeartbeats 8000000 in
theorem rn_true {one:List Fnd→Got Ex} {t:Fnd} {r:List Fnd} {w:World} (h:Rs g E A c L w (.ok () (t :: r))) (h1:staB ⟨#[110,111,116]⟩ (.ok () (t :: r)) = false) (h2:staB ⟨#[40]⟩ (.ok () (t :: r)) = false) (hy:staB ⟨#[116,114,117,101]⟩ (.ok () (t :: r)) = true) :
    Calls Tryz.prog 51 #[.pointer (some ⟨g,0,none⟩)] w (Rx g E A c L (notP1 E one) (.ok () (t :: r)) w):=by
  have hlt:=h.lt
  have hG:TokG t:=h.tokG () _ rfl t (List.mem_cons_self ..)
  have hGr:∀ u∈r,TokG u:=fun u hu=>h.tokG () _ rfl u (List.mem_cons_of_mem _ hu)
  have hte:staT ⟨#[116,114,117,101]⟩ (.ok () (t :: r)) = .ok () r:=by obtain ⟨_,_,e,_,_,he⟩:=staB_yes hy;rw [he];injection e with _ e;injection e with _ e;rw [e]
  have HF:=Lib.hid (Fr.start h)
  have HNO:=Lib.hid (took_no (g:=g) (E:=E) (A:=A) (c:=c) (L:=L) (.ok () (t :: r)))
  have HYE:=Lib.hid (took_st (g:=g) (E:=E) (A:=A) (c:=c) (L:=L) ⟨#[116,114,117,101]⟩ true hy hte)
  have HY:=Lib.hid hy
  have HG:=Lib.hid hG
  have HGr:=Lib.hid hGr
  have HW1:=Lib.hid h1
  have HW2:=Lib.hid h2
  clear h hy hG hGr hte h1 h2
  go_enter Tryz.func51,Tryz.ntmps51
  go_wp2_with (first
    | (go_at_call 50;refine (HNO.out _ _ HF.out.rs (by (first | exact HW1.out | exact HW2.out))).mono ?_;rintro _ w0 ⟨rfl,ha,hr⟩;replace HF:=Lib.hid (HF.out.call ha hr);clear ha hr)
    | (go_at_call 50;refine (HYE.out _ HF.out.rs).mono ?_;rintro _ w0 ⟨rfl,ha,hr⟩;replace HF:=Lib.hid (HF.out.call ha hr);obtain ⟨d5,f5⟩:=(HF.out.res).facts;clear ha hr HYE))
  have HSix:=Lib.hid (six_has HF.out.res (.int .i64 1) (.string ⟨#[]⟩) (.string ⟨#[]⟩) (.int .i64 0) (.int .i64 0) (.slice none 0 0))
  have HFin:=Lib.hid (show Rx g E A c L (notP1 E one) (.ok () (t :: r)) w (.returned (.agg #[.int .i64 1,.string ⟨#[]⟩,.string ⟨#[]⟩,.int .i64 0,.int .i64 0,.slice none 0 0])) (six w0 w.heap.size (.int .i64 1) (.string ⟨#[]⟩) (.string ⟨#[]⟩) (.int .i64 0) (.int .i64 0) (.slice none 0 0)) from HF.out.fin (Ex.mk 1 e0 e0 0 0 []) (stp_true HG.out HY.out) (LayS.nil _ _))
  show bodyPost _ _ _ _ _ (six w0 w.heap.size (.int .i64 1) (.string ⟨#[]⟩) (.string ⟨#[]⟩) (.int .i64 0) (.int .i64 0) (.slice none 0 0))
  generalize six w0 w.heap.size (.int .i64 1) (.string ⟨#[]⟩) (.string ⟨#[]⟩) (.int .i64 0) (.int .i64 0) (.slice none 0 0) = W6 at *
  obtain ⟨d6,f6⟩:=HSix.out.facts
  refine bodyPost_ret (v:=.agg #[.int .i64 1,.string ⟨#[]⟩,.string ⟨#[]⟩,.int .i64 0,.int .i64 0,.slice none 0 0]) (by simp [results,Tryz.results51,go_sem,d6]) rfl ?_
  exact HFin.out
set_option maxRecDepth 100000 in
set_option maxHeartbeats 8000000 in
theorem rn_has {one:List Fnd→Got Ex} {t:Fnd} {r:List Fnd} {w:World} (h:Rs g E A c L w (.ok () (t :: r))) (h1:staB ⟨#[110,111,116]⟩ (.ok () (t :: r)) = false) (h2:staB ⟨#[40]⟩ (.ok () (t :: r)) = false) (h3:staB ⟨#[116,114,117,101]⟩ (.ok () (t :: r)) = false) (h4:staB ⟨#[108,105,109,105,116]⟩ (.ok () (t :: r)) = false) (h5:staB ⟨#[111,118,101,114]⟩ (.ok () (t :: r)) = false) (hy:staB ⟨#[104,97,115]⟩ (.ok () (t :: r)) = true) :
    Calls Tryz.prog 51 #[.pointer (some ⟨g,0,none⟩)] w (Rx g E A c L (notP1 E one) (.ok () (t :: r)) w):=by
  have hlt:=h.lt
  have hG:TokG t:=h.tokG () _ rfl t (List.mem_cons_self ..)
  have hGr:∀ u∈r,TokG u:=fun u hu=>h.tokG () _ rfl u (List.mem_cons_of_mem _ hu)
  have hte:staT ⟨#[104,97,115]⟩ (.ok () (t :: r)) = .ok () r:=by obtain ⟨_,_,e,_,_,he⟩:=staB_yes hy;rw [he];injection e with _ e;injection e with _ e;rw [e]
  have HF:=Lib.hid (Fr.start h)
  have HNO:=Lib.hid (took_no (g:=g) (E:=E) (A:=A) (c:=c) (L:=L) (.ok () (t :: r)))
  have HYE:=Lib.hid (took_st (g:=g) (E:=E) (A:=A) (c:=c) (L:=L) ⟨#[104,97,115]⟩ true hy hte)
  have HY:=Lib.hid hy
  have HG:=Lib.hid hG
  have HGr:=Lib.hid hGr
  have HW1:=Lib.hid h1
  have HW2:=Lib.hid h2
  have HW3:=Lib.hid h3
  have HW4:=Lib.hid h4
  have HW5:=Lib.hid h5
  clear h hy hG hGr hte h1 h2 h3 h4 h5
  obtain ⟨s1,hs1⟩:∃ q,((Got.ok () r).go (tokP E 1)).end = q:=⟨_,rfl⟩
  have HT1:=Lib.hid (tok_st (g:=g) (A:=A) (c:=c) (L:=L) 1 hs1)
  clear hs1
  go_enter Tryz.func51,Tryz.ntmps51
  go_wp2_with (first
    | (go_at_call 50;refine (HNO.out _ _ HF.out.rs (by (first | exact HW1.out | exact HW2.out | exact HW3.out | exact HW4.out | exact HW5.out))).mono ?_;rintro _ w0 ⟨rfl,ha,hr⟩;replace HF:=Lib.hid (HF.out.call ha hr);clear ha hr)
    | (go_at_call 50;refine (HYE.out _ HF.out.rs).mono ?_;rintro _ w0 ⟨rfl,ha,hr⟩;replace HF:=Lib.hid (HF.out.call ha hr);clear ha hr HYE)
    | (go_at_call 27;refine (HT1.out _ (HF.out).rs).mono ?_;rintro _ w1 ⟨a,rfl,ha,hr,hst⟩;replace HF:=Lib.hid ((HF.out).call ha hr);have HS1:=Lib.hid hst;obtain ⟨d5,f5⟩:=(HF.out.res).facts;clear HT1 ha hr hst))
  have HSix:=Lib.hid (six_has HF.out.res (.int .i64 8) (.string a) (.string ⟨#[]⟩) (.int .i64 0) (.int .i64 0) (.slice none 0 0))
  have HFin:=Lib.hid (show Rx g E A c L (notP1 E one) (.ok () (t :: r)) w (.returned (.agg #[.int .i64 8,.string a,.string ⟨#[]⟩,.int .i64 0,.int .i64 0,.slice none 0 0])) (six w1 w.heap.size (.int .i64 8) (.string a) (.string ⟨#[]⟩) (.int .i64 0) (.int .i64 0) (.slice none 0 0)) from HF.out.fin (Ex.mk 8 a e0 0 0 []) (stp_has HG.out HGr.out HY.out HS1.out) (LayS.nil _ _))
  show bodyPost _ _ _ _ _ (six w1 w.heap.size (.int .i64 8) (.string a) (.string ⟨#[]⟩) (.int .i64 0) (.int .i64 0) (.slice none 0 0))
  generalize six w1 w.heap.size (.int .i64 8) (.string a) (.string ⟨#[]⟩) (.int .i64 0) (.int .i64 0) (.slice none 0 0) = W6 at *
  obtain ⟨d6,f6⟩:=HSix.out.facts
  refine bodyPost_ret (v:=.agg #[.int .i64 8,.string a,.string ⟨#[]⟩,.int .i64 0,.int .i64 0,.slice none 0 0]) (by simp [results,Tryz.results51,go_sem,d6]) rfl ?_
  exact HFin.out
set_option maxRecDepth 100000 in
set_option maxHeartbeats 8000000 in
theorem rn_over {one:List Fnd→Got Ex} {t:Fnd} {r:List Fnd} {w:World} (h:Rs g E A c L w (.ok () (t :: r))) (h1:staB ⟨#[110,111,116]⟩ (.ok () (t :: r)) = false) (h2:staB ⟨#[40]⟩ (.ok () (t :: r)) = false) (h3:staB ⟨#[116,114,117,101]⟩ (.ok () (t :: r)) = false) (h4:staB ⟨#[108,105,109,105,116]⟩ (.ok () (t :: r)) = false) (hy:staB ⟨#[111,118,101,114]⟩ (.ok () (t :: r)) = true) :
    Calls Tryz.prog 51 #[.pointer (some ⟨g,0,none⟩)] w (Rx g E A c L (notP1 E one) (.ok () (t :: r)) w):=by
  have hlt:=h.lt
  have hG:TokG t:=h.tokG () _ rfl t (List.mem_cons_self ..)
  have hGr:∀ u∈r,TokG u:=fun u hu=>h.tokG () _ rfl u (List.mem_cons_of_mem _ hu)
  have hte:staT ⟨#[111,118,101,114]⟩ (.ok () (t :: r)) = .ok () r:=by obtain ⟨_,_,e,_,_,he⟩:=staB_yes hy;rw [he];injection e with _ e;injection e with _ e;rw [e]
  have HF:=Lib.hid (Fr.start h)
  have HNO:=Lib.hid (took_no (g:=g) (E:=E) (A:=A) (c:=c) (L:=L) (.ok () (t :: r)))
  have HYE:=Lib.hid (took_st (g:=g) (E:=E) (A:=A) (c:=c) (L:=L) ⟨#[111,118,101,114]⟩ true hy hte)
  have HY:=Lib.hid hy
  have HG:=Lib.hid hG
  have HGr:=Lib.hid hGr
  have HW1:=Lib.hid h1
  have HW2:=Lib.hid h2
  have HW3:=Lib.hid h3
  have HW4:=Lib.hid h4
  clear h hy hG hGr hte h1 h2 h3 h4
  obtain ⟨s1,hs1⟩:∃ q,((Got.ok () r).go (tokP E 1)).end = q:=⟨_,rfl⟩
  obtain ⟨s2,hs2⟩:∃ q,(s1.go (numP E 0)).end = q:=⟨_,rfl⟩
  have HT1:=Lib.hid (tok_st (g:=g) (A:=A) (c:=c) (L:=L) 1 hs1)
  have HT2:=Lib.hid (num_st (g:=g) (A:=A) (c:=c) (L:=L) 0 hs2)
  clear hs1 hs2
  go_enter Tryz.func51,Tryz.ntmps51
  go_wp2_with (first
    | (go_at_call 50;refine (HNO.out _ _ HF.out.rs (by (first | exact HW1.out | exact HW2.out | exact HW3.out | exact HW4.out))).mono ?_;rintro _ w0 ⟨rfl,ha,hr⟩;replace HF:=Lib.hid (HF.out.call ha hr);clear ha hr)
    | (go_at_call 50;refine (HYE.out _ HF.out.rs).mono ?_;rintro _ w0 ⟨rfl,ha,hr⟩;replace HF:=Lib.hid (HF.out.call ha hr);clear ha hr HYE)
    | (go_at_call 27;refine (HT1.out _ (HF.out).rs).mono ?_;rintro _ w1 ⟨a,rfl,ha,hr,hst⟩;replace HF:=Lib.hid ((HF.out).call ha hr);have HS1:=Lib.hid hst;have HC:=Lib.hid (Has.new w1 24 #[.int .i64 6,.string a,.string ⟨#[]⟩,.int .i64 0,.int .i64 0,.slice none 0 0]);have HB:=Lib.hid HF.out.lt;clear HT1 ha hr hst)
    | (go_at_call 79;refine (HT2.out _ (HF.out.alloc _).rs).mono ?_;rintro _ w2 ⟨n,rfl,ha,hr,hst⟩;replace HF:=Lib.hid ((HF.out.alloc _).call ha hr);have HS2:=Lib.hid hst;replace HC:=Lib.hid (HC.out.aw ha (by have:=HB.out;omega) (by have:=HB.out;omega));obtain ⟨d2,f2⟩:=(HC.out).facts;replace HF:=Lib.hid (HF.out.set (i:=3) (v:=.int .i64 n) HB.out);obtain ⟨d5,f5⟩:=(HF.out.res).facts;have hne:¬ w.heap.size = w1.heap.size:=(by have:=HB.out;omega);have hne2:¬ w1.heap.size = w.heap.size:=(by have:=HB.out;omega);clear HT2 ha hr hst))
  have HSix:=Lib.hid (six_has HF.out.res (.int .i64 6) (.string a) (.string ⟨#[]⟩) (.int .i64 n) (.int .i64 0) (.slice none 0 0))
  have HFin:=Lib.hid (show Rx g E A c L (notP1 E one) (.ok () (t :: r)) w (.returned (.agg #[.int .i64 6,.string a,.string ⟨#[]⟩,.int .i64 n,.int .i64 0,.slice none 0 0])) (six (w2.setCell ⟨w1.heap.size,3,none⟩ (.int .i64 n)) w.heap.size (.int .i64 6) (.string a) (.string ⟨#[]⟩) (.int .i64 n) (.int .i64 0) (.slice none 0 0)) from HF.out.fin (Ex.mk 6 a e0 n 0 []) (stp_over HG.out HGr.out HY.out HS1.out HS2.out) (LayS.nil _ _))
  show bodyPost _ _ _ _ _ (six (w2.setCell ⟨w1.heap.size,3,none⟩ (.int .i64 n)) w.heap.size (.int .i64 6) (.string a) (.string ⟨#[]⟩) (.int .i64 n) (.int .i64 0) (.slice none 0 0))
  generalize six (w2.setCell ⟨w1.heap.size,3,none⟩ (.int .i64 n)) w.heap.size (.int .i64 6) (.string a) (.string ⟨#[]⟩) (.int .i64 n) (.int .i64 0) (.slice none 0 0) = W6 at *
  obtain ⟨d6,f6⟩:=HSix.out.facts
  refine bodyPost_ret (v:=.agg #[.int .i64 6,.string a,.string ⟨#[]⟩,.int .i64 n,.int .i64 0,.slice none 0 0]) (by simp [results,Tryz.results51,go_sem,d6]) rfl ?_
  exact HFin.out
set_option maxRecDepth 100000 in
set_option maxHeartbeats 8000000 in
theorem rn_slot {one:List Fnd→Got Ex} {t:Fnd} {r:List Fnd} {w:World} (h:Rs g E A c L w (.ok () (t :: r))) (h1:staB ⟨#[110,111,116]⟩ (.ok () (t :: r)) = false) (h2:staB ⟨#[40]⟩ (.ok () (t :: r)) = false) (h3:staB ⟨#[116,114,117,101]⟩ (.ok () (t :: r)) = false) (h4:staB ⟨#[108,105,109,105,116]⟩ (.ok () (t :: r)) = false) (h5:staB ⟨#[111,118,101,114]⟩ (.ok () (t :: r)) = false) (h6:staB ⟨#[104,97,115]⟩ (.ok () (t :: r)) = false) (hy:staB ⟨#[115,108,111,116]⟩ (.ok () (t :: r)) = true) :
    Calls Tryz.prog 51 #[.pointer (some ⟨g,0,none⟩)] w (Rx g E A c L (notP1 E one) (.ok () (t :: r)) w):=by
  have hlt:=h.lt
  have hG:TokG t:=h.tokG () _ rfl t (List.mem_cons_self ..)
  have hGr:∀ u∈r,TokG u:=fun u hu=>h.tokG () _ rfl u (List.mem_cons_of_mem _ hu)
  have hte:staT ⟨#[115,108,111,116]⟩ (.ok () (t :: r)) = .ok () r:=by obtain ⟨_,_,e,_,_,he⟩:=staB_yes hy;rw [he];injection e with _ e;injection e with _ e;rw [e]
  have HF:=Lib.hid (Fr.start h)
  have HNO:=Lib.hid (took_no (g:=g) (E:=E) (A:=A) (c:=c) (L:=L) (.ok () (t :: r)))
  have HYE:=Lib.hid (took_st (g:=g) (E:=E) (A:=A) (c:=c) (L:=L) ⟨#[115,108,111,116]⟩ true hy hte)
  have HY:=Lib.hid hy
  have HG:=Lib.hid hG
  have HGr:=Lib.hid hGr
  have HW1:=Lib.hid h1
  have HW2:=Lib.hid h2
  have HW3:=Lib.hid h3
  have HW4:=Lib.hid h4
  have HW5:=Lib.hid h5
  have HW6:=Lib.hid h6
  clear h hy hG hGr hte h1 h2 h3 h4 h5 h6
  obtain ⟨s1,hs1⟩:∃ q,((Got.ok () r).go (tokP E 1)).end = q:=⟨_,rfl⟩
  obtain ⟨s2,hs2⟩:∃ q,(s1.go (wantP E ⟨#[105,115]⟩)).end = q:=⟨_,rfl⟩
  obtain ⟨s3,hs3⟩:∃ q,(s2.go (tokP E 1)).end = q:=⟨_,rfl⟩
  have HT1:=Lib.hid (tok_st (g:=g) (A:=A) (c:=c) (L:=L) 1 hs1)
  have HT2:=Lib.hid (skip_st (g:=g) (A:=A) (c:=c) (L:=L) ⟨#[105,115]⟩ hs2)
  have HT3:=Lib.hid (tok_st (g:=g) (A:=A) (c:=c) (L:=L) 1 hs3)
  have HE2:=Lib.hid hs2
  clear hs1 hs2 hs3
  go_enter Tryz.func51,Tryz.ntmps51
  go_wp2_with (first
    | (go_at_call 50;refine (HNO.out _ _ HF.out.rs (by (first | exact HW1.out | exact HW2.out | exact HW3.out | exact HW4.out | exact HW5.out | exact HW6.out))).mono ?_;rintro _ w0 ⟨rfl,ha,hr⟩;replace HF:=Lib.hid (HF.out.call ha hr);clear ha hr)
    | (go_at_call 50;refine (HYE.out _ HF.out.rs).mono ?_;rintro _ w0 ⟨rfl,ha,hr⟩;replace HF:=Lib.hid (HF.out.call ha hr);clear ha hr HYE)
    | (go_at_call 27;refine (HT1.out _ (HF.out).rs).mono ?_;rintro _ w1 ⟨a,rfl,ha,hr,hst⟩;replace HF:=Lib.hid ((HF.out).call ha hr);have HS1:=Lib.hid hst;have HC:=Lib.hid (Has.new w1 24 #[.int .i64 9,.string a,.string ⟨#[]⟩,.int .i64 0,.int .i64 0,.slice none 0 0]);have HB:=Lib.hid HF.out.lt;clear HT1 ha hr hst)
    | (go_at_call 26;refine (HT2.out _ (HF.out.alloc _).rs).mono ?_;rintro _ w2 ⟨rfl,ha,hr⟩;replace HF:=Lib.hid ((HF.out.alloc _).call ha hr);replace HC:=Lib.hid (HC.out.aw ha (by have:=HB.out;omega) (by have:=HB.out;omega));clear HT2 ha hr)
    | (go_at_call 27;refine (HT3.out _ (HF.out).rs).mono ?_;rintro _ w3 ⟨v,rfl,ha,hr,hst⟩;have HG2:=Lib.hid HF.out.rs.tokG;replace HF:=Lib.hid ((HF.out).call ha hr);have HS3:=Lib.hid hst;replace HC:=Lib.hid (HC.out.aw ha (by have:=HB.out;omega) (by have:=HB.out;omega));obtain ⟨d2,f2⟩:=(HC.out).facts;replace HF:=Lib.hid (HF.out.set (i:=2) (v:=.string v) HB.out);obtain ⟨d5,f5⟩:=(HF.out.res).facts;have hne:¬ w.heap.size = w1.heap.size:=(by have:=HB.out;omega);have hne2:¬ w1.heap.size = w.heap.size:=(by have:=HB.out;omega);clear HT3 ha hr hst))
  have HSix:=Lib.hid (six_has HF.out.res (.int .i64 9) (.string a) (.string v) (.int .i64 0) (.int .i64 0) (.slice none 0 0))
  have HFin:=Lib.hid (show Rx g E A c L (notP1 E one) (.ok () (t :: r)) w (.returned (.agg #[.int .i64 9,.string a,.string v,.int .i64 0,.int .i64 0,.slice none 0 0])) (six (w3.setCell ⟨w1.heap.size,2,none⟩ (.string v)) w.heap.size (.int .i64 9) (.string a) (.string v) (.int .i64 0) (.int .i64 0) (.slice none 0 0)) from HF.out.fin (Ex.mk 9 a v 0 0 []) (stp_slot HG.out HGr.out HY.out HS1.out HE2.out HG2.out HS3.out) (LayS.nil _ _))
  show bodyPost _ _ _ _ _ (six (w3.setCell ⟨w1.heap.size,2,none⟩ (.string v)) w.heap.size (.int .i64 9) (.string a) (.string v) (.int .i64 0) (.int .i64 0) (.slice none 0 0))
  generalize six (w3.setCell ⟨w1.heap.size,2,none⟩ (.string v)) w.heap.size (.int .i64 9) (.string a) (.string v) (.int .i64 0) (.int .i64 0) (.slice none 0 0) = W6 at *
  obtain ⟨d6,f6⟩:=HSix.out.facts
  refine bodyPost_ret (v:=.agg #[.int .i64 9,.string a,.string v,.int .i64 0,.int .i64 0,.slice none 0 0]) (by simp [results,Tryz.results51,go_sem,d6]) rfl ?_
  exact HFin.out
set_option maxRecDepth 100000 in
set_option maxHeartbeats 8000000 in
theorem rn_at {one:List Fnd→Got Ex} {t:Fnd} {r:List Fnd} {w:World} (h:Rs g E A c L w (.ok () (t :: r))) (h1:staB ⟨#[110,111,116]⟩ (.ok () (t :: r)) = false) (h2:staB ⟨#[40]⟩ (.ok () (t :: r)) = false) (h3:staB ⟨#[116,114,117,101]⟩ (.ok () (t :: r)) = false) (h4:staB ⟨#[108,105,109,105,116]⟩ (.ok () (t :: r)) = false) (h5:staB ⟨#[111,118,101,114]⟩ (.ok () (t :: r)) = false) (h6:staB ⟨#[104,97,115]⟩ (.ok () (t :: r)) = false) (h7:staB ⟨#[115,108,111,116]⟩ (.ok () (t :: r)) = false) (h8:staB ⟨#[97,108,108]⟩ (.ok () (t :: r)) = false) (h9:staB ⟨#[97,110,121]⟩ (.ok () (t :: r)) = false) (hy:staB ⟨#[97,116]⟩ (.ok () (t :: r)) = true) :
    Calls Tryz.prog 51 #[.pointer (some ⟨g,0,none⟩)] w (Rx g E A c L (notP1 E one) (.ok () (t :: r)) w):=by
  have hlt:=h.lt
  have hG:TokG t:=h.tokG () _ rfl t (List.mem_cons_self ..)
  have hGr:∀ u∈r,TokG u:=fun u hu=>h.tokG () _ rfl u (List.mem_cons_of_mem _ hu)
  have hte:staT ⟨#[97,116]⟩ (.ok () (t :: r)) = .ok () r:=by obtain ⟨_,_,e,_,_,he⟩:=staB_yes hy;rw [he];injection e with _ e;injection e with _ e;rw [e]
  have HF:=Lib.hid (Fr.start h)
  have HNO:=Lib.hid (took_no (g:=g) (E:=E) (A:=A) (c:=c) (L:=L) (.ok () (t :: r)))
  have HYE:=Lib.hid (took_st (g:=g) (E:=E) (A:=A) (c:=c) (L:=L) ⟨#[97,116]⟩ true hy hte)
  have HY:=Lib.hid hy
  have HG:=Lib.hid hG
  have HGr:=Lib.hid hGr
  have HW1:=Lib.hid h1
  have HW2:=Lib.hid h2
  have HW3:=Lib.hid h3
  have HW4:=Lib.hid h4
  have HW5:=Lib.hid h5
  have HW6:=Lib.hid h6
  have HW7:=Lib.hid h7
  have HW8:=Lib.hid h8
  have HW9:=Lib.hid h9
  clear h hy hG hGr hte h1 h2 h3 h4 h5 h6 h7 h8 h9
  obtain ⟨s1,hs1⟩:∃ q,((Got.ok () r).go (wantP E ⟨#[108,101,97,115,116]⟩)).end = q:=⟨_,rfl⟩
  obtain ⟨s2,hs2⟩:∃ q,(s1.go (numP E 1)).end = q:=⟨_,rfl⟩
  obtain ⟨s3,hs3⟩:∃ q,(s2.go (tokP E 1)).end = q:=⟨_,rfl⟩
  have HT1:=Lib.hid (skip_st (g:=g) (A:=A) (c:=c) (L:=L) ⟨#[108,101,97,115,116]⟩ hs1)
  have HT2:=Lib.hid (num_st (g:=g) (A:=A) (c:=c) (L:=L) 1 hs2)
  have HT3:=Lib.hid (tok_st (g:=g) (A:=A) (c:=c) (L:=L) 1 hs3)
  have HE1:=Lib.hid hs1
  clear hs1 hs2 hs3
  have HIN:=Lib.hid (is_st (g:=g) (E:=E) (A:=A) (c:=c) (L:=L) (.ok () (t :: r)) false)
  go_enter Tryz.func51,Tryz.ntmps51
  go_wp2_with (first
    | (go_at_call 50;refine (HNO.out _ _ HF.out.rs (by (first | exact HW1.out | exact HW2.out | exact HW3.out | exact HW4.out | exact HW5.out | exact HW6.out | exact HW7.out | exact HW8.out | exact HW9.out))).mono ?_;rintro _ w0 ⟨rfl,ha,hr⟩;replace HF:=Lib.hid (HF.out.call ha hr);clear ha hr)
    | (go_at_call 50;refine (HYE.out _ HF.out.rs).mono ?_;rintro _ w0 ⟨rfl,ha,hr⟩;replace HF:=Lib.hid (HF.out.call ha hr);clear ha hr HYE)
    | (go_at_call 52;refine (HIN.out _ _ HF.out.rs (by (first | exact HW1.out | exact HW2.out | exact HW3.out | exact HW4.out | exact HW5.out | exact HW6.out | exact HW7.out | exact HW8.out | exact HW9.out))).mono ?_;rintro _ w0 ⟨rfl,ha,hr⟩;replace HF:=Lib.hid (HF.out.call ha hr);clear ha hr)
    | (go_at_call 26;refine (HT1.out _ (HF.out).rs).mono ?_;rintro _ w1 ⟨rfl,ha,hr⟩;replace HF:=Lib.hid ((HF.out).call ha hr);have HC:=Lib.hid (Has.new w1 24 #[.int .i64 12,.string ⟨#[]⟩,.string ⟨#[]⟩,.int .i64 0,.int .i64 0,.slice none 0 0]);have HB:=Lib.hid HF.out.lt;clear HT1 ha hr)
    | (go_at_call 79;refine (HT2.out _ (HF.out.alloc _).rs).mono ?_;rintro _ w2 ⟨n,rfl,ha,hr,hst⟩;replace HF:=Lib.hid ((HF.out.alloc _).call ha hr);have HS2:=Lib.hid hst;have HG2:=Lib.hid HF.out.rs.tokG;replace HC:=Lib.hid (HC.out.aw ha (by have:=HB.out;omega) (by have:=HB.out;omega));obtain ⟨d2,f2⟩:=(HC.out).facts;clear HT2 ha hr hst)
    | (go_at_call 27;refine (HT3.out _ (HF.out.set HB.out).rs).mono ?_;rintro _ w3 ⟨a,rfl,ha,hr,hst⟩;replace HF:=Lib.hid ((HF.out.set HB.out).call ha hr);have HS3:=Lib.hid hst;replace HC:=Lib.hid (show Has w3 w1.heap.size 24 #[.int .i64 12,.string ⟨#[]⟩,.string ⟨#[]⟩,.int .i64 n,.int .i64 0,.slice none 0 0] from (HC.out.put 3 (.int .i64 n)).aw ha (by have:=HB.out;omega) (by have:=HB.out;omega));obtain ⟨d3,f3⟩:=(HC.out).facts;replace HF:=Lib.hid (HF.out.set (i:=1) (v:=.string a) HB.out);obtain ⟨d5,f5⟩:=(HF.out.res).facts;have hne:¬ w.heap.size = w1.heap.size:=(by have:=HB.out;omega);have hne2:¬ w1.heap.size = w.heap.size:=(by have:=HB.out;omega);clear HT3 ha hr hst))
  have HSix:=Lib.hid (six_has HF.out.res (.int .i64 12) (.string a) (.string ⟨#[]⟩) (.int .i64 n) (.int .i64 0) (.slice none 0 0))
  have HFin:=Lib.hid (show Rx g E A c L (notP1 E one) (.ok () (t :: r)) w (.returned (.agg #[.int .i64 12,.string a,.string ⟨#[]⟩,.int .i64 n,.int .i64 0,.slice none 0 0])) (six (w3.setCell ⟨w1.heap.size,1,none⟩ (.string a)) w.heap.size (.int .i64 12) (.string a) (.string ⟨#[]⟩) (.int .i64 n) (.int .i64 0) (.slice none 0 0)) from HF.out.fin (Ex.mk 12 a e0 n 0 []) (stp_at HG.out HY.out HE1.out HS2.out HG2.out HS3.out) (LayS.nil _ _))
  show bodyPost _ _ _ _ _ (six (w3.setCell ⟨w1.heap.size,1,none⟩ (.string a)) w.heap.size (.int .i64 12) (.string a) (.string ⟨#[]⟩) (.int .i64 n) (.int .i64 0) (.slice none 0 0))
  generalize six (w3.setCell ⟨w1.heap.size,1,none⟩ (.string a)) w.heap.size (.int .i64 12) (.string a) (.string ⟨#[]⟩) (.int .i64 n) (.int .i64 0) (.slice none 0 0) = W6 at *
  obtain ⟨d6,f6⟩:=HSix.out.facts
  refine bodyPost_ret (v:=.agg #[.int .i64 12,.string a,.string ⟨#[]⟩,.int .i64 n,.int .i64 0,.slice none 0 0]) (by simp [results,Tryz.results51,go_sem,d6]) rfl ?_
  exact HFin.out
set_option maxRecDepth 100000 in
set_option maxHeartbeats 8000000 in
theorem rn_not {one:List Fnd→Got Ex} {t:Fnd} {r:List Fnd} {w:World} (h:Rs g E A c L w (.ok () (t :: r))) (hy:staB ⟨#[110,111,116]⟩ (.ok () (t :: r)) = true) (hn:∀ (W:World),Rs g E A c L W (.ok () r)→Calls Tryz.prog 51 #[.pointer (some ⟨g,0,none⟩)] W (Rx g E A c L one (.ok () r) W)) :
    Calls Tryz.prog 51 #[.pointer (some ⟨g,0,none⟩)] w (Rx g E A c L (notP1 E one) (.ok () (t :: r)) w):=by
  have hlt:=h.lt
  have hG:TokG t:=h.tokG () _ rfl t (List.mem_cons_self ..)
  have hGr:∀ u∈r,TokG u:=fun u hu=>h.tokG () _ rfl u (List.mem_cons_of_mem _ hu)
  have hte:staT ⟨#[110,111,116]⟩ (.ok () (t :: r)) = .ok () r:=by obtain ⟨_,_,e,_,_,he⟩:=staB_yes hy;rw [he];injection e with _ e;injection e with _ e;rw [e]
  have HF:=Lib.hid (Fr.start h)
  have HNO:=Lib.hid (took_no (g:=g) (E:=E) (A:=A) (c:=c) (L:=L) (.ok () (t :: r)))
  have HYE:=Lib.hid (took_st (g:=g) (E:=E) (A:=A) (c:=c) (L:=L) ⟨#[110,111,116]⟩ true hy hte)
  have HY:=Lib.hid hy
  have HG:=Lib.hid hG
  have HGr:=Lib.hid hGr
  clear h hy hG hGr hte
  have HT1:=Lib.hid hn
  clear hn
  have HZ0:=Lib.hid HF.out.lt
  go_enter Tryz.func51,Tryz.ntmps51
  go_wp2_with (first
    | (go_at_call 50;refine (HYE.out _ HF.out.rs).mono ?_;rintro _ w0 ⟨rfl,ha,hr⟩;replace HF:=Lib.hid (HF.out.call ha hr);clear ha hr HYE)
    | (go_at_call 51;refine (HT1.out _ HF.out.rs).mono ?_;rintro _ w1 ⟨_,cx,rfl,⟨kv,rfl,hv⟩,ha,hr,hfit⟩;obtain ⟨Ak,ck,rfl,_⟩:=hv.slice;have HB0:=Lib.hid HF.out.lt;replace HF:=Lib.hid ((HF.out.call ha hr).alloc (.cells #[.int .i64 cx.op,.string cx.name,.string cx.value,.int .i64 cx.n,.int .i64 cx.extra,.slice Ak cx.kids.length ck] 24));have HB:=Lib.hid (show w.heap.size < w1.heap.size from (by have h1:=HB0.out;have h2:=ha.2.2.2.1;omega));have HV:=Lib.hid hv;have HS1:=Lib.hid (show Stp _ _ _ cx from ⟨rfl,hfit⟩);obtain ⟨d5,f5⟩:=(HF.out.res).facts;clear HT1 ha hr hfit hv))
  have HSix:=Lib.hid (six_has HF.out.res (.int .i64 2) (.string ⟨#[]⟩) (.string ⟨#[]⟩) (.int .i64 0) (.int .i64 0) (.slice (some ⟨w1.heap.size,0,none⟩) 1 1))
  have HFin:=Lib.hid (show Rx g E A c L (notP1 E one) (.ok () (t :: r)) w (.returned (.agg #[.int .i64 2,.string ⟨#[]⟩,.string ⟨#[]⟩,.int .i64 0,.int .i64 0,.slice (some ⟨w1.heap.size,0,none⟩) 1 1])) (six (w1.alloc (.cells #[.int .i64 cx.op,.string cx.name,.string cx.value,.int .i64 cx.n,.int .i64 cx.extra,.slice Ak cx.kids.length ck] 24)) w.heap.size (.int .i64 2) (.string ⟨#[]⟩) (.string ⟨#[]⟩) (.int .i64 0) (.int .i64 0) (.slice (some ⟨w1.heap.size,0,none⟩) 1 1)) from HF.out.fin (Ex.mk 2 e0 e0 0 0 [cx]) (stp_not HG.out HY.out HS1.out) (rlay_one (Has.new w1 _ _) (by have:=HB.out;omega) (HV.out.on (fun b _ hb=>Below.heap_alloc w1 _ b hb) fun b hb _=>(by have:=HB0.out;omega))))
  show bodyPost _ _ _ _ _ (six (w1.alloc (.cells #[.int .i64 cx.op,.string cx.name,.string cx.value,.int .i64 cx.n,.int .i64 cx.extra,.slice Ak cx.kids.length ck] 24)) w.heap.size (.int .i64 2) (.string ⟨#[]⟩) (.string ⟨#[]⟩) (.int .i64 0) (.int .i64 0) (.slice (some ⟨w1.heap.size,0,none⟩) 1 1))
  generalize six (w1.alloc (.cells #[.int .i64 cx.op,.string cx.name,.string cx.value,.int .i64 cx.n,.int .i64 cx.extra,.slice Ak cx.kids.length ck] 24)) w.heap.size (.int .i64 2) (.string ⟨#[]⟩) (.string ⟨#[]⟩) (.int .i64 0) (.int .i64 0) (.slice (some ⟨w1.heap.size,0,none⟩) 1 1) = W6 at *
  obtain ⟨d6,f6⟩:=HSix.out.facts
  refine bodyPost_ret (v:=.agg #[.int .i64 2,.string ⟨#[]⟩,.string ⟨#[]⟩,.int .i64 0,.int .i64 0,.slice (some ⟨w1.heap.size,0,none⟩) 1 1]) (by simp [results,Tryz.results51,go_sem,d6]) rfl ?_
  exact HFin.out
set_option maxRecDepth 100000 in
set_option maxHeartbeats 8000000 in
theorem rn_open {one:List Fnd→Got Ex} {t:Fnd} {r:List Fnd} {w:World} (h:Rs g E A c L w (.ok () (t :: r))) (h1:staB ⟨#[110,111,116]⟩ (.ok () (t :: r)) = false) (hy:staB ⟨#[40]⟩ (.ok () (t :: r)) = true) {k:Nat} (hk:r.length≤k) (hl:∀ (s:Got Unit) (W:World),Fuel k s→Rs g E A c L W s→Calls Tryz.prog 28 #[.pointer (some ⟨g,0,none⟩),.int .i64 0] W (Rx g E A c L (condP one) s W)) :
    Calls Tryz.prog 51 #[.pointer (some ⟨g,0,none⟩)] w (Rx g E A c L (notP1 E one) (.ok () (t :: r)) w):=by
  have hlt:=h.lt
  have hG:TokG t:=h.tokG () _ rfl t (List.mem_cons_self ..)
  have hGr:∀ u∈r,TokG u:=fun u hu=>h.tokG () _ rfl u (List.mem_cons_of_mem _ hu)
  have hte:staT ⟨#[40]⟩ (.ok () (t :: r)) = .ok () r:=by obtain ⟨_,_,e,_,_,he⟩:=staB_yes hy;rw [he];injection e with _ e;injection e with _ e;rw [e]
  have HF:=Lib.hid (Fr.start h)
  have HNO:=Lib.hid (took_no (g:=g) (E:=E) (A:=A) (c:=c) (L:=L) (.ok () (t :: r)))
  have HYE:=Lib.hid (took_st (g:=g) (E:=E) (A:=A) (c:=c) (L:=L) ⟨#[40]⟩ true hy hte)
  have HY:=Lib.hid hy
  have HG:=Lib.hid hG
  have HGr:=Lib.hid hGr
  have HW1:=Lib.hid h1
  clear h hy hG hGr hte h1
  obtain ⟨s1,hs1⟩:∃ q,((Got.ok () r).go (condP one)).end = q:=⟨_,rfl⟩
  obtain ⟨s2,hs2⟩:∃ q,(s1.go (wantP E ⟨#[41]⟩)).end = q:=⟨_,rfl⟩
  have HT1:=Lib.hid (fun W=>hl (.ok () r) W hk)
  have HT2:=Lib.hid (skip_st (g:=g) (A:=A) (c:=c) (L:=L) ⟨#[41]⟩ hs2)
  have HE1:=Lib.hid hs1
  have HE2:=Lib.hid hs2
  clear hl hs1 hs2
  go_enter Tryz.func51,Tryz.ntmps51
  go_wp2_with (first
    | (go_at_call 50;refine (HNO.out _ _ HF.out.rs (by (first | exact HW1.out))).mono ?_;rintro _ w0 ⟨rfl,ha,hr⟩;replace HF:=Lib.hid (HF.out.call ha hr);clear ha hr)
    | (go_at_call 50;refine (HYE.out _ HF.out.rs).mono ?_;rintro _ w0 ⟨rfl,ha,hr⟩;replace HF:=Lib.hid (HF.out.call ha hr);clear ha hr HYE)
    | (go_at_call 28;refine (HT1.out _ HF.out.rs).mono ?_;rintro _ w1 ⟨_,cx,rfl,⟨kv,rfl,hv⟩,ha,hr,hfit⟩;rw [HE1.out] at hr;obtain ⟨Ak,ck,rfl,_⟩:=hv.slice;have HB0:=Lib.hid HF.out.lt;replace HF:=Lib.hid (HF.out.call ha hr);have HB:=Lib.hid (show w.heap.size < w1.heap.size from (by have h1:=HB0.out;have h2:=ha.2.2.2.1;omega));have HV:=Lib.hid hv;have HS1:=Lib.hid (show Stp (.ok () r) (condP one) s1 cx from ⟨HE1.out,hfit⟩);have HC:=Lib.hid (Has.new w1 24 #[.int .i64 cx.op,.string cx.name,.string cx.value,.int .i64 cx.n,.int .i64 cx.extra,.slice Ak cx.kids.length ck]);clear HT1 ha hr hfit hv)
    | (go_at_call 26;refine (HT2.out _ (HF.out.alloc (.cells #[.int .i64 cx.op,.string cx.name,.string cx.value,.int .i64 cx.n,.int .i64 cx.extra,.slice Ak cx.kids.length ck] 24)).rs).mono ?_;rintro _ w2 ⟨rfl,ha,hr⟩;replace HF:=Lib.hid ((HF.out.alloc (.cells #[.int .i64 cx.op,.string cx.name,.string cx.value,.int .i64 cx.n,.int .i64 cx.extra,.slice Ak cx.kids.length ck] 24)).call ha hr);have HAW:=Lib.hid (show Aw g g w1 w2 from ((Aw.refl _ _ _).alloc _).trans ha);replace HC:=Lib.hid (HC.out.aw ha (by have:=HB.out;omega) (by have:=HB.out;omega));obtain ⟨d2,f2⟩:=(HC.out).facts;obtain ⟨d5,f5⟩:=(HF.out.res).facts;have hne:¬ w.heap.size = w1.heap.size:=(by have:=HB.out;omega);have hne2:¬ w1.heap.size = w.heap.size:=(by have:=HB.out;omega);clear HT2 ha hr))
  have HSix:=Lib.hid (six_has HF.out.res (.int .i64 cx.op) (.string cx.name) (.string cx.value) (.int .i64 cx.n) (.int .i64 cx.extra) (.slice Ak cx.kids.length ck))
  have HFin:=Lib.hid (show Rx g E A c L (notP1 E one) (.ok () (t :: r)) w (.returned (.agg #[.int .i64 cx.op,.string cx.name,.string cx.value,.int .i64 cx.n,.int .i64 cx.extra,.slice Ak cx.kids.length ck])) (six w2 w.heap.size (.int .i64 cx.op) (.string cx.name) (.string cx.value) (.int .i64 cx.n) (.int .i64 cx.extra) (.slice Ak cx.kids.length ck)) from HF.out.fin (cx) (stp_open HG.out HY.out HS1.out HE2.out) (HV.out.on (fun b hb hlt=>HAW.out.2.2.2.2 b hlt (by have:=HB0.out;omega) (by have:=HB0.out;omega)) fun b hb _=>(by have:=HB0.out;omega)))
  show bodyPost _ _ _ _ _ (six w2 w.heap.size (.int .i64 cx.op) (.string cx.name) (.string cx.value) (.int .i64 cx.n) (.int .i64 cx.extra) (.slice Ak cx.kids.length ck))
  generalize six w2 w.heap.size (.int .i64 cx.op) (.string cx.name) (.string cx.value) (.int .i64 cx.n) (.int .i64 cx.extra) (.slice Ak cx.kids.length ck) = W6 at *
  obtain ⟨d6,f6⟩:=HSix.out.facts
  refine bodyPost_ret (v:=.agg #[.int .i64 cx.op,.string cx.name,.string cx.value,.int .i64 cx.n,.int .i64 cx.extra,.slice Ak cx.kids.length ck]) (by simp [results,Tryz.results51,go_sem,d6]) rfl ?_
  exact HFin.out
set_option maxRecDepth 100000 in
set_option maxHeartbeats 8000000 in
theorem rn_all {one:List Fnd→Got Ex} {t:Fnd} {r:List Fnd} {w:World} (h:Rs g E A c L w (.ok () (t :: r))) (h1:staB ⟨#[110,111,116]⟩ (.ok () (t :: r)) = false) (h2:staB ⟨#[40]⟩ (.ok () (t :: r)) = false) (h3:staB ⟨#[116,114,117,101]⟩ (.ok () (t :: r)) = false) (h4:staB ⟨#[108,105,109,105,116]⟩ (.ok () (t :: r)) = false) (h5:staB ⟨#[111,118,101,114]⟩ (.ok () (t :: r)) = false) (h6:staB ⟨#[104,97,115]⟩ (.ok () (t :: r)) = false) (h7:staB ⟨#[115,108,111,116]⟩ (.ok () (t :: r)) = false) (hy:staB ⟨#[97,108,108]⟩ (.ok () (t :: r)) = true) {k:Nat} (hk:r.length≤k) (hl:∀ (s:Got Unit) (W:World),Fuel k s→Rs g E A c L W s→Calls Tryz.prog 28 #[.pointer (some ⟨g,0,none⟩),.int .i64 0] W (Rx g E A c L (condP one) s W)) :
    Calls Tryz.prog 51 #[.pointer (some ⟨g,0,none⟩)] w (Rx g E A c L (notP1 E one) (.ok () (t :: r)) w):=by
  have hlt:=h.lt
  have hG:TokG t:=h.tokG () _ rfl t (List.mem_cons_self ..)
  have hGr:∀ u∈r,TokG u:=fun u hu=>h.tokG () _ rfl u (List.mem_cons_of_mem _ hu)
  have hte:staT ⟨#[97,108,108]⟩ (.ok () (t :: r)) = .ok () r:=by obtain ⟨_,_,e,_,_,he⟩:=staB_yes hy;rw [he];injection e with _ e;injection e with _ e;rw [e]
  have HF:=Lib.hid (Fr.start h)
  have HNO:=Lib.hid (took_no (g:=g) (E:=E) (A:=A) (c:=c) (L:=L) (.ok () (t :: r)))
  have HYE:=Lib.hid (took_st (g:=g) (E:=E) (A:=A) (c:=c) (L:=L) ⟨#[97,108,108]⟩ true hy hte)
  have HY:=Lib.hid hy
  have HG:=Lib.hid hG
  have HGr:=Lib.hid hGr
  have HW1:=Lib.hid h1
  have HW2:=Lib.hid h2
  have HW3:=Lib.hid h3
  have HW4:=Lib.hid h4
  have HW5:=Lib.hid h5
  have HW6:=Lib.hid h6
  have HW7:=Lib.hid h7
  clear h hy hG hGr hte h1 h2 h3 h4 h5 h6 h7
  obtain ⟨s1,hs1⟩:∃ q,((Got.ok () r).go (tokP E 1)).end = q:=⟨_,rfl⟩
  obtain ⟨s2,hs2⟩:∃ q,(s1.go (wantP E ⟨#[40]⟩)).end = q:=⟨_,rfl⟩
  obtain ⟨s3,hs3⟩:∃ q,(s2.go (condP one)).end = q:=⟨_,rfl⟩
  obtain ⟨s4,hs4⟩:∃ q,(s3.go (wantP E ⟨#[41]⟩)).end = q:=⟨_,rfl⟩
  have HT5:=Lib.hid (fun W=>hl s2 W (Fuel.go (Fuel.go (s:=.ok () r) hk tok_sh hs1) want_sh hs2))
  have HT3:=Lib.hid (tok_st (g:=g) (A:=A) (c:=c) (L:=L) 1 hs1)
  have HT4:=Lib.hid (skip_st (g:=g) (A:=A) (c:=c) (L:=L) ⟨#[40]⟩ hs2)
  have HT6:=Lib.hid (skip_st (g:=g) (A:=A) (c:=c) (L:=L) ⟨#[41]⟩ hs4)
  have HE2:=Lib.hid hs2
  have HE3:=Lib.hid hs3
  have HE4:=Lib.hid hs4
  clear hl hs1 hs2 hs3 hs4 HYE
  have HT1:=Lib.hid (is_st (g:=g) (E:=E) (A:=A) (c:=c) (L:=L) (.ok () (t :: r)) true ⟨#[97,108,108]⟩)
  have HT2:=Lib.hid HT1.out
  go_enter Tryz.func51,Tryz.ntmps51
  go_wp2_with (first
    | (go_at_call 50;refine (HNO.out _ _ HF.out.rs (by (first | exact HW1.out | exact HW2.out | exact HW3.out | exact HW4.out | exact HW5.out | exact HW6.out | exact HW7.out))).mono ?_;rintro _ w0 ⟨rfl,ha,hr⟩;replace HF:=Lib.hid (HF.out.call ha hr);clear ha hr)
    | (go_at_call 52;refine (HT1.out _ HF.out.rs HY.out).mono ?_;rintro _ w1 ⟨rfl,ha,hr⟩;replace HF:=Lib.hid (HF.out.call ha hr);have HC:=Lib.hid (Has.new w1 24 #[.int .i64 11,.string ⟨#[]⟩,.string ⟨#[]⟩,.int .i64 0,.int .i64 0,.slice none 0 0]);have HB:=Lib.hid HF.out.lt;clear ha hr HT1)
    | (go_at_call 52;refine (HT2.out _ (HF.out.alloc _).rs HY.out).mono ?_;rintro _ w2 ⟨rfl,ha,hr⟩;replace HF:=Lib.hid ((HF.out.alloc _).call ha hr);replace HC:=Lib.hid (HC.out.aw ha (by have:=HB.out;omega) (by have:=HB.out;omega));obtain ⟨d2,f2⟩:=(HC.out).facts;replace HF:=Lib.hid (HF.out.set (i:=0) (v:=.int .i64 10) HB.out);replace HC:=Lib.hid (show Has (w2.setCell ⟨w1.heap.size,0,none⟩ (.int .i64 10)) w1.heap.size 24 #[.int .i64 10,.string ⟨#[]⟩,.string ⟨#[]⟩,.int .i64 0,.int .i64 0,.slice none 0 0] from HC.out.put 0 (.int .i64 10));obtain ⟨i,hi,hL,⟨at1,h1⟩,hfr⟩:=HF.out.inc;obtain ⟨d7,f7⟩:=h1.facts;have hs3:IntKind.i64.wrap ((i:Int)+1) = (i:Int)+1:=IntWalk.i64_in _ (by omega);replace HF:=Lib.hid hfr;clear hfr h1 hi hL;replace HC:=Lib.hid (HC.out.far ⟨g,1,none⟩ (by intro e;have e:w1.heap.size = g:=e;have:=HB.out;omega) (.int .i64 ((i:Int)+1)));clear ha hr HT2)
    | (go_at_call 27;refine (HT3.out _ (HF.out).rs).mono ?_;rintro _ w4 ⟨a,rfl,ha,hr,hst⟩;replace HF:=Lib.hid ((HF.out).call ha hr);have HS3:=Lib.hid hst;replace HC:=Lib.hid (HC.out.aw ha (by have:=HB.out;omega) (by have:=HB.out;omega));obtain ⟨d4,f4⟩:=(HC.out).facts;clear HT3 ha hr hst)
    | (go_at_call 26;refine (HT4.out _ (HF.out.set HB.out).rs).mono ?_;rintro _ w5 ⟨rfl,ha,hr⟩;replace HF:=Lib.hid ((HF.out.set HB.out).call ha hr);replace HC:=Lib.hid (show Has w5 w1.heap.size 24 #[.int .i64 10,.string a,.string ⟨#[]⟩,.int .i64 0,.int .i64 0,.slice none 0 0] from (HC.out.put 1 (.string a)).aw ha (by have:=HB.out;omega) (by have:=HB.out;omega));clear HT4 ha hr)
    | (go_at_call 28;refine (HT5.out _ HF.out.rs).mono ?_;rintro _ w6 ⟨_,cx,rfl,⟨kv,rfl,hv⟩,ha,hr,hfit⟩;rw [HE3.out] at hr;obtain ⟨Ak,ck,rfl,_⟩:=hv.slice;have HB5:=Lib.hid HC.out.lt;replace HF:=Lib.hid ((HF.out.call ha hr).alloc (.cells #[.int .i64 cx.op,.string cx.name,.string cx.value,.int .i64 cx.n,.int .i64 cx.extra,.slice Ak cx.kids.length ck] 24));replace HC:=Lib.hid ((HC.out.aw ha (by have:=HB.out;omega) (by have:=HB.out;omega)).alloc (.cells #[.int .i64 cx.op,.string cx.name,.string cx.value,.int .i64 cx.n,.int .i64 cx.extra,.slice Ak cx.kids.length ck] 24));obtain ⟨d6,f6⟩:=(HC.out).facts;have HV:=Lib.hid hv;have HS5:=Lib.hid (show Stp s2 (condP one) s3 cx from ⟨HE3.out,hfit⟩);have HA5:=Lib.hid ha.2.2.2.1;clear HT5 ha hr hfit hv)
    | (go_at_call 26;refine (HT6.out _ (HF.out.set HB.out).rs).mono ?_;rintro _ w7 ⟨rfl,ha,hr⟩;replace HF:=Lib.hid ((HF.out.set HB.out).call ha hr);have HA7:=Lib.hid ha;replace HC:=Lib.hid (show Has w7 w1.heap.size 24 #[.int .i64 10,.string a,.string ⟨#[]⟩,.int .i64 0,.int .i64 0,.slice (some ⟨w6.heap.size,0,none⟩) 1 1] from (HC.out.put 5 (.slice (some ⟨w6.heap.size,0,none⟩) 1 1)).aw ha (by have:=HB.out;omega) (by have:=HB.out;omega));obtain ⟨d8,f8⟩:=(HC.out).facts;obtain ⟨d5,f5⟩:=(HF.out.res).facts;have hne:¬ w.heap.size = w1.heap.size:=(by have:=HB.out;omega);have hne2:¬ w1.heap.size = w.heap.size:=(by have:=HB.out;omega);clear HT6 ha hr))
  have HSix:=Lib.hid (six_has HF.out.res (.int .i64 10) (.string a) (.string ⟨#[]⟩) (.int .i64 0) (.int .i64 0) (.slice (some ⟨w6.heap.size,0,none⟩) 1 1))
  have HFin:=Lib.hid (show Rx g E A c L (notP1 E one) (.ok () (t :: r)) w (.returned (.agg #[.int .i64 10,.string a,.string ⟨#[]⟩,.int .i64 0,.int .i64 0,.slice (some ⟨w6.heap.size,0,none⟩) 1 1])) (six w7 w.heap.size (.int .i64 10) (.string a) (.string ⟨#[]⟩) (.int .i64 0) (.int .i64 0) (.slice (some ⟨w6.heap.size,0,none⟩) 1 1)) from HF.out.fin (Ex.mk 10 a e0 0 0 [cx]) (stp_within 10 (n1_all HG.out HY.out) HGr.out HS3.out HE2.out HS5.out HE4.out) (rlay_one (((Has.new w6 _ _).far ⟨w1.heap.size,5,none⟩ (by intro e;have e:w6.heap.size = w1.heap.size:=e;have:=HB5.out;have:=HA5.out;omega) _).aw HA7.out (by have:=HB5.out;have:=HA5.out;have:=HB.out;omega) (by have:=HB5.out;have:=HA5.out;have:=HB.out;omega)) (by have:=HB5.out;have:=HA5.out;have:=HB.out;omega) (HV.out.on (fun b hb hlt=>(HA7.out.2.2.2.2 b (by rw [World.size_setCell,World.size_alloc];omega) (by have:=HB5.out;have:=HB.out;omega) (by have:=HB5.out;have:=HB.out;omega)).trans ((heap_setCell_other _ ⟨w1.heap.size,5,none⟩ b _ (by intro e;have e:b = w1.heap.size:=e;have:=HB5.out;omega)).trans (Below.heap_alloc w6 _ b hlt))) fun b hb _=>(by have:=HB5.out;have:=HB.out;omega))))
  show bodyPost _ _ _ _ _ (six w7 w.heap.size (.int .i64 10) (.string a) (.string ⟨#[]⟩) (.int .i64 0) (.int .i64 0) (.slice (some ⟨w6.heap.size,0,none⟩) 1 1))
  generalize six w7 w.heap.size (.int .i64 10) (.string a) (.string ⟨#[]⟩) (.int .i64 0) (.int .i64 0) (.slice (some ⟨w6.heap.size,0,none⟩) 1 1) = W6 at *
  obtain ⟨d6,f6⟩:=HSix.out.facts
  refine bodyPost_ret (v:=.agg #[.int .i64 10,.string a,.string ⟨#[]⟩,.int .i64 0,.int .i64 0,.slice (some ⟨w6.heap.size,0,none⟩) 1 1]) (by simp [results,Tryz.results51,go_sem,d6]) rfl ?_
  exact HFin.out
set_option maxRecDepth 100000 in
set_option maxHeartbeats 8000000 in
theorem rn_any {one:List Fnd→Got Ex} {t:Fnd} {r:List Fnd} {w:World} (h:Rs g E A c L w (.ok () (t :: r))) (h1:staB ⟨#[110,111,116]⟩ (.ok () (t :: r)) = false) (h2:staB ⟨#[40]⟩ (.ok () (t :: r)) = false) (h3:staB ⟨#[116,114,117,101]⟩ (.ok () (t :: r)) = false) (h4:staB ⟨#[108,105,109,105,116]⟩ (.ok () (t :: r)) = false) (h5:staB ⟨#[111,118,101,114]⟩ (.ok () (t :: r)) = false) (h6:staB ⟨#[104,97,115]⟩ (.ok () (t :: r)) = false) (h7:staB ⟨#[115,108,111,116]⟩ (.ok () (t :: r)) = false) (h8:staB ⟨#[97,108,108]⟩ (.ok () (t :: r)) = false) (hy:staB ⟨#[97,110,121]⟩ (.ok () (t :: r)) = true) {k:Nat} (hk:r.length≤k) (hl:∀ (s:Got Unit) (W:World),Fuel k s→Rs g E A c L W s→Calls Tryz.prog 28 #[.pointer (some ⟨g,0,none⟩),.int .i64 0] W (Rx g E A c L (condP one) s W)) :
    Calls Tryz.prog 51 #[.pointer (some ⟨g,0,none⟩)] w (Rx g E A c L (notP1 E one) (.ok () (t :: r)) w):=by
  have hlt:=h.lt
  have hG:TokG t:=h.tokG () _ rfl t (List.mem_cons_self ..)
  have hGr:∀ u∈r,TokG u:=fun u hu=>h.tokG () _ rfl u (List.mem_cons_of_mem _ hu)
  have hte:staT ⟨#[97,110,121]⟩ (.ok () (t :: r)) = .ok () r:=by obtain ⟨_,_,e,_,_,he⟩:=staB_yes hy;rw [he];injection e with _ e;injection e with _ e;rw [e]
  have HF:=Lib.hid (Fr.start h)
  have HNO:=Lib.hid (took_no (g:=g) (E:=E) (A:=A) (c:=c) (L:=L) (.ok () (t :: r)))
  have HYE:=Lib.hid (took_st (g:=g) (E:=E) (A:=A) (c:=c) (L:=L) ⟨#[97,110,121]⟩ true hy hte)
  have HY:=Lib.hid hy
  have HG:=Lib.hid hG
  have HGr:=Lib.hid hGr
  have HW1:=Lib.hid h1
  have HW2:=Lib.hid h2
  have HW3:=Lib.hid h3
  have HW4:=Lib.hid h4
  have HW5:=Lib.hid h5
  have HW6:=Lib.hid h6
  have HW7:=Lib.hid h7
  have HW8:=Lib.hid h8
  clear h hy hG hGr hte h1 h2 h3 h4 h5 h6 h7 h8
  obtain ⟨s1,hs1⟩:∃ q,((Got.ok () r).go (tokP E 1)).end = q:=⟨_,rfl⟩
  obtain ⟨s2,hs2⟩:∃ q,(s1.go (wantP E ⟨#[40]⟩)).end = q:=⟨_,rfl⟩
  obtain ⟨s3,hs3⟩:∃ q,(s2.go (condP one)).end = q:=⟨_,rfl⟩
  obtain ⟨s4,hs4⟩:∃ q,(s3.go (wantP E ⟨#[41]⟩)).end = q:=⟨_,rfl⟩
  have HT5:=Lib.hid (fun W=>hl s2 W (Fuel.go (Fuel.go (s:=.ok () r) hk tok_sh hs1) want_sh hs2))
  have HT3:=Lib.hid (tok_st (g:=g) (A:=A) (c:=c) (L:=L) 1 hs1)
  have HT4:=Lib.hid (skip_st (g:=g) (A:=A) (c:=c) (L:=L) ⟨#[40]⟩ hs2)
  have HT6:=Lib.hid (skip_st (g:=g) (A:=A) (c:=c) (L:=L) ⟨#[41]⟩ hs4)
  have HE2:=Lib.hid hs2
  have HE3:=Lib.hid hs3
  have HE4:=Lib.hid hs4
  clear hl hs1 hs2 hs3 hs4 HYE
  have HT0:=Lib.hid (is_st (g:=g) (E:=E) (A:=A) (c:=c) (L:=L) (.ok () (t :: r)) false ⟨#[97,108,108]⟩)
  have HT1:=Lib.hid (is_st (g:=g) (E:=E) (A:=A) (c:=c) (L:=L) (.ok () (t :: r)) true ⟨#[97,110,121]⟩)
  have HT2:=Lib.hid HT0.out
  go_enter Tryz.func51,Tryz.ntmps51
  go_wp2_with (first
    | (go_at_call 50;refine (HNO.out _ _ HF.out.rs (by (first | exact HW1.out | exact HW2.out | exact HW3.out | exact HW4.out | exact HW5.out | exact HW6.out | exact HW7.out | exact HW8.out))).mono ?_;rintro _ w0 ⟨rfl,ha,hr⟩;replace HF:=Lib.hid (HF.out.call ha hr);clear ha hr)
    | (go_at_call 52;refine (HT0.out _ HF.out.rs HW8.out).mono ?_;rintro _ w0 ⟨rfl,ha,hr⟩;replace HF:=Lib.hid (HF.out.call ha hr);clear ha hr HT0)
    | (go_at_call 52;refine (HT1.out _ HF.out.rs HY.out).mono ?_;rintro _ w1 ⟨rfl,ha,hr⟩;replace HF:=Lib.hid (HF.out.call ha hr);have HC:=Lib.hid (Has.new w1 24 #[.int .i64 11,.string ⟨#[]⟩,.string ⟨#[]⟩,.int .i64 0,.int .i64 0,.slice none 0 0]);have HB:=Lib.hid HF.out.lt;clear ha hr HT1)
    | (go_at_call 52;refine (HT2.out _ (HF.out.alloc _).rs HW8.out).mono ?_;rintro _ w2 ⟨rfl,ha,hr⟩;replace HF:=Lib.hid ((HF.out.alloc _).call ha hr);replace HC:=Lib.hid (HC.out.aw ha (by have:=HB.out;omega) (by have:=HB.out;omega));obtain ⟨i,hi,hL,⟨at1,h1⟩,hfr⟩:=HF.out.inc;obtain ⟨d7,f7⟩:=h1.facts;have hs3:IntKind.i64.wrap ((i:Int)+1) = (i:Int)+1:=IntWalk.i64_in _ (by omega);replace HF:=Lib.hid hfr;clear hfr h1 hi hL;replace HC:=Lib.hid (HC.out.far ⟨g,1,none⟩ (by intro e;have e:w1.heap.size = g:=e;have:=HB.out;omega) (.int .i64 ((i:Int)+1)));clear ha hr HT2)
    | (go_at_call 27;refine (HT3.out _ (HF.out).rs).mono ?_;rintro _ w4 ⟨a,rfl,ha,hr,hst⟩;replace HF:=Lib.hid ((HF.out).call ha hr);have HS3:=Lib.hid hst;replace HC:=Lib.hid (HC.out.aw ha (by have:=HB.out;omega) (by have:=HB.out;omega));obtain ⟨d4,f4⟩:=(HC.out).facts;clear HT3 ha hr hst)
    | (go_at_call 26;refine (HT4.out _ (HF.out.set HB.out).rs).mono ?_;rintro _ w5 ⟨rfl,ha,hr⟩;replace HF:=Lib.hid ((HF.out.set HB.out).call ha hr);replace HC:=Lib.hid (show Has w5 w1.heap.size 24 #[.int .i64 11,.string a,.string ⟨#[]⟩,.int .i64 0,.int .i64 0,.slice none 0 0] from (HC.out.put 1 (.string a)).aw ha (by have:=HB.out;omega) (by have:=HB.out;omega));clear HT4 ha hr)
    | (go_at_call 28;refine (HT5.out _ HF.out.rs).mono ?_;rintro _ w6 ⟨_,cx,rfl,⟨kv,rfl,hv⟩,ha,hr,hfit⟩;rw [HE3.out] at hr;obtain ⟨Ak,ck,rfl,_⟩:=hv.slice;have HB5:=Lib.hid HC.out.lt;replace HF:=Lib.hid ((HF.out.call ha hr).alloc (.cells #[.int .i64 cx.op,.string cx.name,.string cx.value,.int .i64 cx.n,.int .i64 cx.extra,.slice Ak cx.kids.length ck] 24));replace HC:=Lib.hid ((HC.out.aw ha (by have:=HB.out;omega) (by have:=HB.out;omega)).alloc (.cells #[.int .i64 cx.op,.string cx.name,.string cx.value,.int .i64 cx.n,.int .i64 cx.extra,.slice Ak cx.kids.length ck] 24));obtain ⟨d6,f6⟩:=(HC.out).facts;have HV:=Lib.hid hv;have HS5:=Lib.hid (show Stp s2 (condP one) s3 cx from ⟨HE3.out,hfit⟩);have HA5:=Lib.hid ha.2.2.2.1;clear HT5 ha hr hfit hv)
    | (go_at_call 26;refine (HT6.out _ (HF.out.set HB.out).rs).mono ?_;rintro _ w7 ⟨rfl,ha,hr⟩;replace HF:=Lib.hid ((HF.out.set HB.out).call ha hr);have HA7:=Lib.hid ha;replace HC:=Lib.hid (show Has w7 w1.heap.size 24 #[.int .i64 11,.string a,.string ⟨#[]⟩,.int .i64 0,.int .i64 0,.slice (some ⟨w6.heap.size,0,none⟩) 1 1] from (HC.out.put 5 (.slice (some ⟨w6.heap.size,0,none⟩) 1 1)).aw ha (by have:=HB.out;omega) (by have:=HB.out;omega));obtain ⟨d8,f8⟩:=(HC.out).facts;obtain ⟨d5,f5⟩:=(HF.out.res).facts;have hne:¬ w.heap.size = w1.heap.size:=(by have:=HB.out;omega);have hne2:¬ w1.heap.size = w.heap.size:=(by have:=HB.out;omega);clear HT6 ha hr))
  have HSix:=Lib.hid (six_has HF.out.res (.int .i64 11) (.string a) (.string ⟨#[]⟩) (.int .i64 0) (.int .i64 0) (.slice (some ⟨w6.heap.size,0,none⟩) 1 1))
  have HFin:=Lib.hid (show Rx g E A c L (notP1 E one) (.ok () (t :: r)) w (.returned (.agg #[.int .i64 11,.string a,.string ⟨#[]⟩,.int .i64 0,.int .i64 0,.slice (some ⟨w6.heap.size,0,none⟩) 1 1])) (six w7 w.heap.size (.int .i64 11) (.string a) (.string ⟨#[]⟩) (.int .i64 0) (.int .i64 0) (.slice (some ⟨w6.heap.size,0,none⟩) 1 1)) from HF.out.fin (Ex.mk 11 a e0 0 0 [cx]) (stp_within 11 (n1_any HG.out HY.out) HGr.out HS3.out HE2.out HS5.out HE4.out) (rlay_one (((Has.new w6 _ _).far ⟨w1.heap.size,5,none⟩ (by intro e;have e:w6.heap.size = w1.heap.size:=e;have:=HB5.out;have:=HA5.out;omega) _).aw HA7.out (by have:=HB5.out;have:=HA5.out;have:=HB.out;omega) (by have:=HB5.out;have:=HA5.out;have:=HB.out;omega)) (by have:=HB5.out;have:=HA5.out;have:=HB.out;omega) (HV.out.on (fun b hb hlt=>(HA7.out.2.2.2.2 b (by rw [World.size_setCell,World.size_alloc];omega) (by have:=HB5.out;have:=HB.out;omega) (by have:=HB5.out;have:=HB.out;omega)).trans ((heap_setCell_other _ ⟨w1.heap.size,5,none⟩ b _ (by intro e;have e:b = w1.heap.size:=e;have:=HB5.out;omega)).trans (Below.heap_alloc w6 _ b hlt))) fun b hb _=>(by have:=HB5.out;have:=HB.out;omega))))
  show bodyPost _ _ _ _ _ (six w7 w.heap.size (.int .i64 11) (.string a) (.string ⟨#[]⟩) (.int .i64 0) (.int .i64 0) (.slice (some ⟨w6.heap.size,0,none⟩) 1 1))
  generalize six w7 w.heap.size (.int .i64 11) (.string a) (.string ⟨#[]⟩) (.int .i64 0) (.int .i64 0) (.slice (some ⟨w6.heap.size,0,none⟩) 1 1) = W6 at *
  obtain ⟨d6,f6⟩:=HSix.out.facts
  refine bodyPost_ret (v:=.agg #[.int .i64 11,.string a,.string ⟨#[]⟩,.int .i64 0,.int .i64 0,.slice (some ⟨w6.heap.size,0,none⟩) 1 1]) (by simp [results,Tryz.results51,go_sem,d6]) rfl ?_
  exact HFin.out
end
end Go.Proofs.YtppoeiofdmlpeaaGreatDoor
