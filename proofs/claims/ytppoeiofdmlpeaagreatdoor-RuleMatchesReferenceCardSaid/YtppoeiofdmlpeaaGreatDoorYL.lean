/- The reference's parser: a condition that no word of its own begins. Condition: its object lies in memory. -/
import Derived.StillTailTactics
import Derived.Test.YtppoeiofdmlpeaaGreatDoorYK
namespace Go.Proofs.YtppoeiofdmlpeaaGreatDoor
open Go Go.RowKit
section
variable {g:Nat} {E:Int} {A:Option Addr} {c:Nat} {L:List Fnd} {one:List Fnd→Got Ex} {w:World}
set_option maxRecDepth 100000 in
set_option maxHeartbeats 8000000 in
theorem rn_nil (h:Rs g E A c L w (.ok () [])) :
    Calls Tryz.prog 51 #[.pointer (some ⟨g,0,none⟩)] w (Rx g E A c L (notP1 E one) (.ok () []) w):=by
  have hlt:=h.lt
  have HF:=Lib.hid (Fr.start h)
  have HNO:=Lib.hid (took_no (g:=g) (E:=E) (A:=A) (c:=c) (L:=L) (.ok () []))
  have HIN:=Lib.hid (is_st (g:=g) (E:=E) (A:=A) (c:=c) (L:=L) (.ok () []) false)
  have HT1:=Lib.hid (tok_st (g:=g) (A:=A) (c:=c) (L:=L) (E:=E) 1 (s:=.ok () []) (s':=.bad 9 E) rfl)
  have HT2:=Lib.hid (skip_st (g:=g) (A:=A) (c:=c) (L:=L) (E:=E) ⟨#[61]⟩ (s:=.bad 9 E) (s':=.bad 9 E) rfl)
  have HT3:=Lib.hid (tok_st (g:=g) (A:=A) (c:=c) (L:=L) (E:=E) 3 (s:=.bad 9 E) (s':=.bad 9 E) rfl)
  clear h
  go_enter Tryz.func51,Tryz.ntmps51
  go_wp2_with (first
    | (go_at_call 50;refine (HNO.out _ _ HF.out.rs rfl).mono ?_;rintro _ w0 ⟨rfl,ha,hr⟩;replace HF:=Lib.hid (HF.out.call ha hr);clear ha hr)
    | (go_at_call 52;refine (HIN.out _ _ HF.out.rs rfl).mono ?_;rintro _ w0 ⟨rfl,ha,hr⟩;replace HF:=Lib.hid (HF.out.call ha hr);clear ha hr))
  obtain ⟨at0,h1,_⟩:=HF.out.rs.nil
  obtain ⟨d0,f0⟩:=h1.facts
  have hlt0:decide ((L.length:Int) < (L.length:Int)) = false:=decide_eq_false (Int.lt_irrefl _)
  clear h1
  go_quiet (fail)
  go_wp2_with (first
    | (go_at_call 27;refine (HT1.out _ (HF.out.drewN _).rs).mono ?_;rintro _ w1 ⟨a,rfl,ha,hr,hst⟩;replace HF:=Lib.hid ((HF.out.drewN _).call ha hr);have HS1:=Lib.hid hst;have HC:=Lib.hid (Has.new w1 24 #[.int .i64 7,.string a,.string ⟨#[]⟩,.int .i64 0,.int .i64 0,.slice none 0 0]);have HB:=Lib.hid HF.out.lt;clear HT1 ha hr hst)
    | (go_at_call 26;refine (HT2.out _ (HF.out.alloc _).rs).mono ?_;rintro _ w2 ⟨rfl,ha,hr⟩;replace HF:=Lib.hid ((HF.out.alloc _).call ha hr);replace HC:=Lib.hid (HC.out.aw ha (by have:=HB.out;omega) (by have:=HB.out;omega));clear HT2 ha hr)
    | (go_at_call 27;refine (HT3.out _ HF.out.rs).mono ?_;rintro _ w3 ⟨v,rfl,ha,hr,hst⟩;replace HF:=Lib.hid (HF.out.call ha hr);replace HC:=Lib.hid (HC.out.aw ha (by have:=HB.out;omega) (by have:=HB.out;omega));obtain ⟨d2,f2⟩:=(HC.out).facts;replace HF:=Lib.hid (HF.out.set (i:=2) (v:=.string v) HB.out);replace HC:=Lib.hid (show Has (w3.setCell ⟨w1.heap.size,2,none⟩ (.string v)) w1.heap.size 24 #[.int .i64 7,.string a,.string v,.int .i64 0,.int .i64 0,.slice none 0 0] from HC.out.put 2 (.string v));obtain ⟨d4,f4⟩:=(HC.out).facts;obtain ⟨d5,f5⟩:=(HF.out.res).facts;have hne:¬ w.heap.size = w1.heap.size:=(by have:=HB.out;omega);have hne2:¬ w1.heap.size = w.heap.size:=(by have:=HB.out;omega);obtain ⟨i9,h9,_,hne9,_⟩:=HF.out.rs.bad;obtain ⟨d9,f9⟩:=h9.facts;have hd9:((9:Int) == 0) = false:=(by first | rfl | simpa using hne9);clear h9 hne9;clear HT3 ha hr hst))
  have HSix:=Lib.hid (six_has HF.out.res (.int .i64 7) (.string a) (.string v) (.int .i64 0) (.int .i64 0) (.slice none 0 0))
  have HFin:=Lib.hid (show Rx g E _ c L (notP1 E one) (.ok () []) w (.returned (.agg #[.int .i64 7,.string a,.string v,.int .i64 0,.int .i64 0,.slice none 0 0])) (six (w3.setCell ⟨w1.heap.size,2,none⟩ (.string v)) w.heap.size (.int .i64 7) (.string a) (.string v) (.int .i64 0) (.int .i64 0) (.slice none 0 0)) from HF.out.fin (Ex.mk 7 a v 0 0 []) (Stp.bad (show Got.go (.ok () []) (notP1 E one) = .bad 9 E from rfl) _) (LayS.nil _ _))
  show bodyPost _ _ _ _ _ (six (w3.setCell ⟨w1.heap.size,2,none⟩ (.string v)) w.heap.size (.int .i64 7) (.string a) (.string v) (.int .i64 0) (.int .i64 0) (.slice none 0 0))
  generalize six (w3.setCell ⟨w1.heap.size,2,none⟩ (.string v)) w.heap.size (.int .i64 7) (.string a) (.string v) (.int .i64 0) (.int .i64 0) (.slice none 0 0) = W6 at *
  obtain ⟨d6,f6⟩:=HSix.out.facts
  refine bodyPost_ret (v:=.agg #[.int .i64 7,.string a,.string v,.int .i64 0,.int .i64 0,.slice none 0 0]) (by simp [results,Tryz.results51,go_sem,d6]) rfl ?_
  exact HFin.out
set_option maxRecDepth 100000 in
set_option maxHeartbeats 8000000 in
theorem rn_bad {e a0:Int} (h:Rs g E A c L w (.bad e a0)) :
    Calls Tryz.prog 51 #[.pointer (some ⟨g,0,none⟩)] w (Rx g E A c L (notP1 E one) (.bad e a0) w):=by
  have hlt:=h.lt
  have HF:=Lib.hid (Fr.start h)
  have HNO:=Lib.hid (took_no (g:=g) (E:=E) (A:=A) (c:=c) (L:=L) (.bad e a0))
  have HIN:=Lib.hid (is_st (g:=g) (E:=E) (A:=A) (c:=c) (L:=L) (.bad e a0) false)
  have HT1:=Lib.hid (tok_st (g:=g) (A:=A) (c:=c) (L:=L) (E:=E) 1 (s:=.bad e a0) (s':=.bad e a0) rfl)
  have HT2:=Lib.hid (skip_st (g:=g) (A:=A) (c:=c) (L:=L) (E:=E) ⟨#[61]⟩ (s:=.bad e a0) (s':=.bad e a0) rfl)
  have HT3:=Lib.hid (tok_st (g:=g) (A:=A) (c:=c) (L:=L) (E:=E) 3 (s:=.bad e a0) (s':=.bad e a0) rfl)
  clear h
  go_enter Tryz.func51,Tryz.ntmps51
  go_wp2_with (first
    | (go_at_call 50;refine (HNO.out _ _ HF.out.rs rfl).mono ?_;rintro _ w0 ⟨rfl,ha,hr⟩;replace HF:=Lib.hid (HF.out.call ha hr);clear ha hr)
    | (go_at_call 52;refine (HIN.out _ _ HF.out.rs rfl).mono ?_;rintro _ w0 ⟨rfl,ha,hr⟩;replace HF:=Lib.hid (HF.out.call ha hr);clear ha hr))
  obtain ⟨i,h1,hi,_,hT⟩:=HF.out.rs.bad
  obtain ⟨d0,f0⟩:=h1.facts
  rcases Nat.lt_or_ge i L.length with hil | hil
  · obtain ⟨b,o,rfl,hbg,hh⟩:∃ b o,A = some ⟨b,o,none⟩∧b < g∧∀ i,i < L.length→w0.cell? ⟨b,o+i*3,none⟩ = some (.int .i64 (tokAt L i).kind)∧w0.cell? ⟨b,o+i*3+1,none⟩ = some (.string (tokAt L i).text)∧w0.cell? ⟨b,o+i*3+2,none⟩ = some (.int .i64 (tokAt L i).pos):=by
      rcases hT.2.2.2.2 with h0 | h0
      · rw [h0] at hil;exact absurd hil (Nat.not_lt_zero i)
      · exact h0
    obtain ⟨c1,c2,c3⟩:=hh i hil
    have hlt0:decide ((i:Int) < (L.length:Int)) = true:=decide_eq_true (by omega)
    have hki:(i:Int) < (L.length:Int):=by omega
    have hc:=hT.1
    have hL5:=hT.2.2.1
    generalize (tokAt L i).kind = tk at *
    generalize (tokAt L i).text = tt at *
    generalize (tokAt L i).pos = tp at *
    clear h1 hT hi hil hh
    by_cases kk:tk = 1
    rotate_left
    · have kk1:(tk == 1) = false:=by simpa using kk
      clear kk
      go_quiet (fail)
      go_wp2_with (first
        | (go_at_call 27;refine (HT1.out _ (HF.out.drewN _).rs).mono ?_;rintro _ w1 ⟨a,rfl,ha,hr,hst⟩;replace HF:=Lib.hid ((HF.out.drewN _).call ha hr);have HS1:=Lib.hid hst;have HC:=Lib.hid (Has.new w1 24 #[.int .i64 7,.string a,.string ⟨#[]⟩,.int .i64 0,.int .i64 0,.slice none 0 0]);have HB:=Lib.hid HF.out.lt;clear HT1 ha hr hst)
        | (go_at_call 26;refine (HT2.out _ (HF.out.alloc _).rs).mono ?_;rintro _ w2 ⟨rfl,ha,hr⟩;replace HF:=Lib.hid ((HF.out.alloc _).call ha hr);replace HC:=Lib.hid (HC.out.aw ha (by have:=HB.out;omega) (by have:=HB.out;omega));clear HT2 ha hr)
        | (go_at_call 27;refine (HT3.out _ HF.out.rs).mono ?_;rintro _ w3 ⟨v,rfl,ha,hr,hst⟩;replace HF:=Lib.hid (HF.out.call ha hr);replace HC:=Lib.hid (HC.out.aw ha (by have:=HB.out;omega) (by have:=HB.out;omega));obtain ⟨d2,f2⟩:=(HC.out).facts;replace HF:=Lib.hid (HF.out.set (i:=2) (v:=.string v) HB.out);replace HC:=Lib.hid (show Has (w3.setCell ⟨w1.heap.size,2,none⟩ (.string v)) w1.heap.size 24 #[.int .i64 7,.string a,.string v,.int .i64 0,.int .i64 0,.slice none 0 0] from HC.out.put 2 (.string v));obtain ⟨d4,f4⟩:=(HC.out).facts;obtain ⟨d5,f5⟩:=(HF.out.res).facts;have hne:¬ w.heap.size = w1.heap.size:=(by have:=HB.out;omega);have hne2:¬ w1.heap.size = w.heap.size:=(by have:=HB.out;omega);obtain ⟨i9,h9,_,hne9,_⟩:=HF.out.rs.bad;obtain ⟨d9,f9⟩:=h9.facts;have hd9:(e == 0) = false:=(by first | rfl | simpa using hne9);clear h9 hne9;clear HT3 ha hr hst))
      have HSix:=Lib.hid (six_has HF.out.res (.int .i64 7) (.string a) (.string v) (.int .i64 0) (.int .i64 0) (.slice none 0 0))
      have HFin:=Lib.hid (show Rx g E _ c L (notP1 E one) (.bad e a0) w (.returned (.agg #[.int .i64 7,.string a,.string v,.int .i64 0,.int .i64 0,.slice none 0 0])) (six (w3.setCell ⟨w1.heap.size,2,none⟩ (.string v)) w.heap.size (.int .i64 7) (.string a) (.string v) (.int .i64 0) (.int .i64 0) (.slice none 0 0)) from HF.out.fin (Ex.mk 7 a v 0 0 []) (Stp.bad (show Got.go (.bad e a0) (notP1 E one) = .bad e a0 from rfl) _) (LayS.nil _ _))
      show bodyPost _ _ _ _ _ (six (w3.setCell ⟨w1.heap.size,2,none⟩ (.string v)) w.heap.size (.int .i64 7) (.string a) (.string v) (.int .i64 0) (.int .i64 0) (.slice none 0 0))
      generalize six (w3.setCell ⟨w1.heap.size,2,none⟩ (.string v)) w.heap.size (.int .i64 7) (.string a) (.string v) (.int .i64 0) (.int .i64 0) (.slice none 0 0) = W6 at *
      obtain ⟨d6,f6⟩:=HSix.out.facts
      refine bodyPost_ret (v:=.agg #[.int .i64 7,.string a,.string v,.int .i64 0,.int .i64 0,.slice none 0 0]) (by simp [results,Tryz.results51,go_sem,d6]) rfl ?_
      exact HFin.out
    · subst kk
      cases hres:resB tt with
      | false =>
        have HRES:=Lib.hid hres
        clear hres
        go_still_tail 36,(by kernel_rfl)
        change wpList _ _ _ _ _ w0.drew
        replace HF:=Lib.hid HF.out.drew
        generalize w0.drew = wq at *
        go_wp2_with (first
          | (go_at_call 80;refine (refReserved_any _ _).mono ?_;rintro _ w0 ⟨rfl,hb⟩;(try rw [HRES.out]);replace HF:=Lib.hid (HF.out.call (.of_below hb) (HF.out.rs.below hb));clear hb)
          | (go_at_call 27;refine (HT1.out _ (HF.out).rs).mono ?_;rintro _ w1 ⟨a,rfl,ha,hr,hst⟩;replace HF:=Lib.hid ((HF.out).call ha hr);have HS1:=Lib.hid hst;have HC:=Lib.hid (Has.new w1 24 #[.int .i64 7,.string a,.string ⟨#[]⟩,.int .i64 0,.int .i64 0,.slice none 0 0]);have HB:=Lib.hid HF.out.lt;clear HT1 ha hr hst)
          | (go_at_call 26;refine (HT2.out _ (HF.out.alloc _).rs).mono ?_;rintro _ w2 ⟨rfl,ha,hr⟩;replace HF:=Lib.hid ((HF.out.alloc _).call ha hr);replace HC:=Lib.hid (HC.out.aw ha (by have:=HB.out;omega) (by have:=HB.out;omega));clear HT2 ha hr)
          | (go_at_call 27;refine (HT3.out _ HF.out.rs).mono ?_;rintro _ w3 ⟨v,rfl,ha,hr,hst⟩;replace HF:=Lib.hid (HF.out.call ha hr);replace HC:=Lib.hid (HC.out.aw ha (by have:=HB.out;omega) (by have:=HB.out;omega));obtain ⟨d2,f2⟩:=(HC.out).facts;replace HF:=Lib.hid (HF.out.set (i:=2) (v:=.string v) HB.out);replace HC:=Lib.hid (show Has (w3.setCell ⟨w1.heap.size,2,none⟩ (.string v)) w1.heap.size 24 #[.int .i64 7,.string a,.string v,.int .i64 0,.int .i64 0,.slice none 0 0] from HC.out.put 2 (.string v));obtain ⟨d4,f4⟩:=(HC.out).facts;obtain ⟨d5,f5⟩:=(HF.out.res).facts;have hne:¬ w.heap.size = w1.heap.size:=(by have:=HB.out;omega);have hne2:¬ w1.heap.size = w.heap.size:=(by have:=HB.out;omega);obtain ⟨i9,h9,_,hne9,_⟩:=HF.out.rs.bad;obtain ⟨d9,f9⟩:=h9.facts;have hd9:(e == 0) = false:=(by first | rfl | simpa using hne9);clear h9 hne9;clear HT3 ha hr hst))
        have HSix:=Lib.hid (six_has HF.out.res (.int .i64 7) (.string a) (.string v) (.int .i64 0) (.int .i64 0) (.slice none 0 0))
        have HFin:=Lib.hid (show Rx g E _ c L (notP1 E one) (.bad e a0) w (.returned (.agg #[.int .i64 7,.string a,.string v,.int .i64 0,.int .i64 0,.slice none 0 0])) (six (w3.setCell ⟨w1.heap.size,2,none⟩ (.string v)) w.heap.size (.int .i64 7) (.string a) (.string v) (.int .i64 0) (.int .i64 0) (.slice none 0 0)) from HF.out.fin (Ex.mk 7 a v 0 0 []) (Stp.bad (show Got.go (.bad e a0) (notP1 E one) = .bad e a0 from rfl) _) (LayS.nil _ _))
        show bodyPost _ _ _ _ _ (six (w3.setCell ⟨w1.heap.size,2,none⟩ (.string v)) w.heap.size (.int .i64 7) (.string a) (.string v) (.int .i64 0) (.int .i64 0) (.slice none 0 0))
        generalize six (w3.setCell ⟨w1.heap.size,2,none⟩ (.string v)) w.heap.size (.int .i64 7) (.string a) (.string v) (.int .i64 0) (.int .i64 0) (.slice none 0 0) = W6 at *
        obtain ⟨d6,f6⟩:=HSix.out.facts
        refine bodyPost_ret (v:=.agg #[.int .i64 7,.string a,.string v,.int .i64 0,.int .i64 0,.slice none 0 0]) (by simp [results,Tryz.results51,go_sem,d6]) rfl ?_
        exact HFin.out
      | true =>
        have HRES:=Lib.hid hres
        clear hres
        go_still_tail 36,(by kernel_rfl)
        change wpList _ _ _ _ _ w0.drew
        replace HF:=Lib.hid HF.out.drew
        generalize w0.drew = wq at *
        go_wp2_with (first
          | (go_at_call 80;refine (refReserved_any _ _).mono ?_;rintro _ w0 ⟨rfl,hb⟩;(try rw [HRES.out]);replace HF:=Lib.hid (HF.out.call (.of_below hb) (HF.out.rs.below hb));clear hb)
          | (go_at_call 29;refine (rfail_any 8 (by decide) (.bad e a0) _ HF.out.rs).mono ?_;rintro _ w0 ⟨rfl,ha,hr⟩;replace HF:=Lib.hid (HF.out.call ha hr);clear ha hr)
          | (go_at_call 27;refine (HT1.out _ (HF.out).rs).mono ?_;rintro _ w1 ⟨a,rfl,ha,hr,hst⟩;replace HF:=Lib.hid ((HF.out).call ha hr);have HS1:=Lib.hid hst;have HC:=Lib.hid (Has.new w1 24 #[.int .i64 7,.string a,.string ⟨#[]⟩,.int .i64 0,.int .i64 0,.slice none 0 0]);have HB:=Lib.hid HF.out.lt;clear HT1 ha hr hst)
          | (go_at_call 26;refine (HT2.out _ (HF.out.alloc _).rs).mono ?_;rintro _ w2 ⟨rfl,ha,hr⟩;replace HF:=Lib.hid ((HF.out.alloc _).call ha hr);replace HC:=Lib.hid (HC.out.aw ha (by have:=HB.out;omega) (by have:=HB.out;omega));clear HT2 ha hr)
          | (go_at_call 27;refine (HT3.out _ HF.out.rs).mono ?_;rintro _ w3 ⟨v,rfl,ha,hr,hst⟩;replace HF:=Lib.hid (HF.out.call ha hr);replace HC:=Lib.hid (HC.out.aw ha (by have:=HB.out;omega) (by have:=HB.out;omega));obtain ⟨d2,f2⟩:=(HC.out).facts;replace HF:=Lib.hid (HF.out.set (i:=2) (v:=.string v) HB.out);replace HC:=Lib.hid (show Has (w3.setCell ⟨w1.heap.size,2,none⟩ (.string v)) w1.heap.size 24 #[.int .i64 7,.string a,.string v,.int .i64 0,.int .i64 0,.slice none 0 0] from HC.out.put 2 (.string v));obtain ⟨d4,f4⟩:=(HC.out).facts;obtain ⟨d5,f5⟩:=(HF.out.res).facts;have hne:¬ w.heap.size = w1.heap.size:=(by have:=HB.out;omega);have hne2:¬ w1.heap.size = w.heap.size:=(by have:=HB.out;omega);obtain ⟨i9,h9,_,hne9,_⟩:=HF.out.rs.bad;obtain ⟨d9,f9⟩:=h9.facts;have hd9:(e == 0) = false:=(by first | rfl | simpa using hne9);clear h9 hne9;clear HT3 ha hr hst))
        have HSix:=Lib.hid (six_has HF.out.res (.int .i64 7) (.string a) (.string v) (.int .i64 0) (.int .i64 0) (.slice none 0 0))
        have HFin:=Lib.hid (show Rx g E _ c L (notP1 E one) (.bad e a0) w (.returned (.agg #[.int .i64 7,.string a,.string v,.int .i64 0,.int .i64 0,.slice none 0 0])) (six (w3.setCell ⟨w1.heap.size,2,none⟩ (.string v)) w.heap.size (.int .i64 7) (.string a) (.string v) (.int .i64 0) (.int .i64 0) (.slice none 0 0)) from HF.out.fin (Ex.mk 7 a v 0 0 []) (Stp.bad (show Got.go (.bad e a0) (notP1 E one) = .bad e a0 from rfl) _) (LayS.nil _ _))
        show bodyPost _ _ _ _ _ (six (w3.setCell ⟨w1.heap.size,2,none⟩ (.string v)) w.heap.size (.int .i64 7) (.string a) (.string v) (.int .i64 0) (.int .i64 0) (.slice none 0 0))
        generalize six (w3.setCell ⟨w1.heap.size,2,none⟩ (.string v)) w.heap.size (.int .i64 7) (.string a) (.string v) (.int .i64 0) (.int .i64 0) (.slice none 0 0) = W6 at *
        obtain ⟨d6,f6⟩:=HSix.out.facts
        refine bodyPost_ret (v:=.agg #[.int .i64 7,.string a,.string v,.int .i64 0,.int .i64 0,.slice none 0 0]) (by simp [results,Tryz.results51,go_sem,d6]) rfl ?_
        exact HFin.out
  · have hlt0:decide ((i:Int) < (L.length:Int)) = false:=decide_eq_false (by omega)
    have hki:¬ (i:Int) < (L.length:Int):=by omega
    clear h1 hT hi hil
    go_quiet (fail)
    go_wp2_with (first
      | (go_at_call 27;refine (HT1.out _ (HF.out.drewN _).rs).mono ?_;rintro _ w1 ⟨a,rfl,ha,hr,hst⟩;replace HF:=Lib.hid ((HF.out.drewN _).call ha hr);have HS1:=Lib.hid hst;have HC:=Lib.hid (Has.new w1 24 #[.int .i64 7,.string a,.string ⟨#[]⟩,.int .i64 0,.int .i64 0,.slice none 0 0]);have HB:=Lib.hid HF.out.lt;clear HT1 ha hr hst)
      | (go_at_call 26;refine (HT2.out _ (HF.out.alloc _).rs).mono ?_;rintro _ w2 ⟨rfl,ha,hr⟩;replace HF:=Lib.hid ((HF.out.alloc _).call ha hr);replace HC:=Lib.hid (HC.out.aw ha (by have:=HB.out;omega) (by have:=HB.out;omega));clear HT2 ha hr)
      | (go_at_call 27;refine (HT3.out _ HF.out.rs).mono ?_;rintro _ w3 ⟨v,rfl,ha,hr,hst⟩;replace HF:=Lib.hid (HF.out.call ha hr);replace HC:=Lib.hid (HC.out.aw ha (by have:=HB.out;omega) (by have:=HB.out;omega));obtain ⟨d2,f2⟩:=(HC.out).facts;replace HF:=Lib.hid (HF.out.set (i:=2) (v:=.string v) HB.out);replace HC:=Lib.hid (show Has (w3.setCell ⟨w1.heap.size,2,none⟩ (.string v)) w1.heap.size 24 #[.int .i64 7,.string a,.string v,.int .i64 0,.int .i64 0,.slice none 0 0] from HC.out.put 2 (.string v));obtain ⟨d4,f4⟩:=(HC.out).facts;obtain ⟨d5,f5⟩:=(HF.out.res).facts;have hne:¬ w.heap.size = w1.heap.size:=(by have:=HB.out;omega);have hne2:¬ w1.heap.size = w.heap.size:=(by have:=HB.out;omega);obtain ⟨i9,h9,_,hne9,_⟩:=HF.out.rs.bad;obtain ⟨d9,f9⟩:=h9.facts;have hd9:(e == 0) = false:=(by first | rfl | simpa using hne9);clear h9 hne9;clear HT3 ha hr hst))
    have HSix:=Lib.hid (six_has HF.out.res (.int .i64 7) (.string a) (.string v) (.int .i64 0) (.int .i64 0) (.slice none 0 0))
    have HFin:=Lib.hid (show Rx g E _ c L (notP1 E one) (.bad e a0) w (.returned (.agg #[.int .i64 7,.string a,.string v,.int .i64 0,.int .i64 0,.slice none 0 0])) (six (w3.setCell ⟨w1.heap.size,2,none⟩ (.string v)) w.heap.size (.int .i64 7) (.string a) (.string v) (.int .i64 0) (.int .i64 0) (.slice none 0 0)) from HF.out.fin (Ex.mk 7 a v 0 0 []) (Stp.bad (show Got.go (.bad e a0) (notP1 E one) = .bad e a0 from rfl) _) (LayS.nil _ _))
    show bodyPost _ _ _ _ _ (six (w3.setCell ⟨w1.heap.size,2,none⟩ (.string v)) w.heap.size (.int .i64 7) (.string a) (.string v) (.int .i64 0) (.int .i64 0) (.slice none 0 0))
    generalize six (w3.setCell ⟨w1.heap.size,2,none⟩ (.string v)) w.heap.size (.int .i64 7) (.string a) (.string v) (.int .i64 0) (.int .i64 0) (.slice none 0 0) = W6 at *
    obtain ⟨d6,f6⟩:=HSix.out.facts
    refine bodyPost_ret (v:=.agg #[.int .i64 7,.string a,.string v,.int .i64 0,.int .i64 0,.slice none 0 0]) (by simp [results,Tryz.results51,go_sem,d6]) rfl ?_
    exact HFin.out
set_option maxRecDepth 100000 in
set_option maxHeartbeats 8000000 in
theorem rn_res {t:Fnd} {r:List Fnd} (h:Rs g E A c L w (.ok () (t :: r))) (h1:staB ⟨#[110,111,116]⟩ (.ok () (t :: r)) = false) (h2:staB ⟨#[40]⟩ (.ok () (t :: r)) = false) (h3:staB ⟨#[116,114,117,101]⟩ (.ok () (t :: r)) = false) (h4:staB ⟨#[108,105,109,105,116]⟩ (.ok () (t :: r)) = false) (h5:staB ⟨#[111,118,101,114]⟩ (.ok () (t :: r)) = false) (h6:staB ⟨#[104,97,115]⟩ (.ok () (t :: r)) = false) (h7:staB ⟨#[115,108,111,116]⟩ (.ok () (t :: r)) = false) (h8:staB ⟨#[97,108,108]⟩ (.ok () (t :: r)) = false) (h9:staB ⟨#[97,110,121]⟩ (.ok () (t :: r)) = false) (h10:staB ⟨#[97,116]⟩ (.ok () (t :: r)) = false) (hk:t.kind = 1) (hres:resB t.text = true) :
    Calls Tryz.prog 51 #[.pointer (some ⟨g,0,none⟩)] w (Rx g E A c L (notP1 E one) (.ok () (t :: r)) w):=by
  have hlt:=h.lt
  have HF:=Lib.hid (Fr.start h)
  have HNO:=Lib.hid (took_no (g:=g) (E:=E) (A:=A) (c:=c) (L:=L) (.ok () (t :: r)))
  have HIN:=Lib.hid (is_st (g:=g) (E:=E) (A:=A) (c:=c) (L:=L) (.ok () (t :: r)) false)
  have HW1:=Lib.hid h1
  have HW2:=Lib.hid h2
  have HW3:=Lib.hid h3
  have HW4:=Lib.hid h4
  have HW5:=Lib.hid h5
  have HW6:=Lib.hid h6
  have HW7:=Lib.hid h7
  have HW8:=Lib.hid h8
  have HW9:=Lib.hid h9
  have HW10:=Lib.hid h10
  have HK:=Lib.hid hk
  have HRES:=Lib.hid hres
  have HT1:=Lib.hid (tok_st (g:=g) (A:=A) (c:=c) (L:=L) (E:=E) 1 (s:=.bad 8 t.pos) (s':=.bad 8 t.pos) rfl)
  have HT2:=Lib.hid (skip_st (g:=g) (A:=A) (c:=c) (L:=L) (E:=E) ⟨#[61]⟩ (s:=.bad 8 t.pos) (s':=.bad 8 t.pos) rfl)
  have HT3:=Lib.hid (tok_st (g:=g) (A:=A) (c:=c) (L:=L) (E:=E) 3 (s:=.bad 8 t.pos) (s':=.bad 8 t.pos) rfl)
  clear h h1 h2 h3 h4 h5 h6 h7 h8 h9 h10 hres
  go_enter Tryz.func51,Tryz.ntmps51
  go_wp2_with (first
    | (go_at_call 50;refine (HNO.out _ _ HF.out.rs (by (first | exact HW1.out | exact HW2.out | exact HW3.out | exact HW4.out | exact HW5.out | exact HW6.out | exact HW7.out | exact HW8.out | exact HW9.out | exact HW10.out))).mono ?_;rintro _ w0 ⟨rfl,ha,hr⟩;replace HF:=Lib.hid (HF.out.call ha hr);clear ha hr)
    | (go_at_call 52;refine (HIN.out _ _ HF.out.rs (by (first | exact HW1.out | exact HW2.out | exact HW3.out | exact HW4.out | exact HW5.out | exact HW6.out | exact HW7.out | exact HW8.out | exact HW9.out | exact HW10.out))).mono ?_;rintro _ w0 ⟨rfl,ha,hr⟩;replace HF:=Lib.hid (HF.out.call ha hr);clear ha hr))
  obtain ⟨b,o,i,at0,rfl,hbg,hh1,ht,hi,hc,hL5,_,_,_,_,c1,c2,c3⟩:=HF.out.rs.tok
  obtain ⟨d0,f0⟩:=hh1.facts
  have hlt0:decide ((i:Int) < (L.length:Int)) = true:=decide_eq_true (by omega)
  have hki:(i:Int) < (L.length:Int):=by omega
  rw [hk] at c1
  clear hh1 ht hi hk
  go_still_tail 36,(by kernel_rfl)
  change wpList _ _ _ _ _ w0.drew
  replace HF:=Lib.hid HF.out.drew
  generalize w0.drew = wq at *
  go_wp2_with (first
    | (go_at_call 80;refine (refReserved_any _ _).mono ?_;rintro _ w0 ⟨rfl,hb⟩;(try rw [HRES.out]);replace HF:=Lib.hid (HF.out.call (.of_below hb) (HF.out.rs.below hb));clear hb)
    | (go_at_call 29;refine (rfail_any 8 (by decide) (.ok () (t :: r)) _ HF.out.rs).mono ?_;rintro _ w0 ⟨rfl,ha,hr⟩;replace HF:=Lib.hid (HF.out.call ha hr);clear ha hr)
    | (go_at_call 27;refine (HT1.out _ (HF.out).rs).mono ?_;rintro _ w1 ⟨a,rfl,ha,hr,hst⟩;replace HF:=Lib.hid ((HF.out).call ha hr);have HS1:=Lib.hid hst;have HC:=Lib.hid (Has.new w1 24 #[.int .i64 7,.string a,.string ⟨#[]⟩,.int .i64 0,.int .i64 0,.slice none 0 0]);have HB:=Lib.hid HF.out.lt;clear HT1 ha hr hst)
    | (go_at_call 26;refine (HT2.out _ (HF.out.alloc _).rs).mono ?_;rintro _ w2 ⟨rfl,ha,hr⟩;replace HF:=Lib.hid ((HF.out.alloc _).call ha hr);replace HC:=Lib.hid (HC.out.aw ha (by have:=HB.out;omega) (by have:=HB.out;omega));clear HT2 ha hr)
    | (go_at_call 27;refine (HT3.out _ HF.out.rs).mono ?_;rintro _ w3 ⟨v,rfl,ha,hr,hst⟩;replace HF:=Lib.hid (HF.out.call ha hr);replace HC:=Lib.hid (HC.out.aw ha (by have:=HB.out;omega) (by have:=HB.out;omega));obtain ⟨d2,f2⟩:=(HC.out).facts;replace HF:=Lib.hid (HF.out.set (i:=2) (v:=.string v) HB.out);replace HC:=Lib.hid (show Has (w3.setCell ⟨w1.heap.size,2,none⟩ (.string v)) w1.heap.size 24 #[.int .i64 7,.string a,.string v,.int .i64 0,.int .i64 0,.slice none 0 0] from HC.out.put 2 (.string v));obtain ⟨d4,f4⟩:=(HC.out).facts;obtain ⟨d5,f5⟩:=(HF.out.res).facts;have hne:¬ w.heap.size = w1.heap.size:=(by have:=HB.out;omega);have hne2:¬ w1.heap.size = w.heap.size:=(by have:=HB.out;omega);obtain ⟨i9,h9,_,hne9,_⟩:=HF.out.rs.bad;obtain ⟨d9,f9⟩:=h9.facts;have hd9:((8:Int) == 0) = false:=(by first | rfl | simpa using hne9);clear h9 hne9;clear HT3 ha hr hst))
  have HSix:=Lib.hid (six_has HF.out.res (.int .i64 7) (.string a) (.string v) (.int .i64 0) (.int .i64 0) (.slice none 0 0))
  have HFin:=Lib.hid (show Rx g E _ c L (notP1 E one) (.ok () (t :: r)) w (.returned (.agg #[.int .i64 7,.string a,.string v,.int .i64 0,.int .i64 0,.slice none 0 0])) (six (w3.setCell ⟨w1.heap.size,2,none⟩ (.string v)) w.heap.size (.int .i64 7) (.string a) (.string v) (.int .i64 0) (.int .i64 0) (.slice none 0 0)) from HF.out.fin (Ex.mk 7 a v 0 0 []) (Stp.bad (show Got.go (.ok () (t :: r)) (notP1 E one) = .bad 8 t.pos from n1_res HW1.out HW3.out HW4.out HW5.out HW6.out HW7.out HW8.out HW9.out HW10.out HK.out HRES.out) _) (LayS.nil _ _))
  show bodyPost _ _ _ _ _ (six (w3.setCell ⟨w1.heap.size,2,none⟩ (.string v)) w.heap.size (.int .i64 7) (.string a) (.string v) (.int .i64 0) (.int .i64 0) (.slice none 0 0))
  generalize six (w3.setCell ⟨w1.heap.size,2,none⟩ (.string v)) w.heap.size (.int .i64 7) (.string a) (.string v) (.int .i64 0) (.int .i64 0) (.slice none 0 0) = W6 at *
  obtain ⟨d6,f6⟩:=HSix.out.facts
  refine bodyPost_ret (v:=.agg #[.int .i64 7,.string a,.string v,.int .i64 0,.int .i64 0,.slice none 0 0]) (by simp [results,Tryz.results51,go_sem,d6]) rfl ?_
  exact HFin.out
set_option maxRecDepth 100000 in
set_option maxHeartbeats 8000000 in
theorem rn_is_bad {t:Fnd} {r:List Fnd} (h:Rs g E A c L w (.ok () (t :: r))) (h1:staB ⟨#[110,111,116]⟩ (.ok () (t :: r)) = false) (h2:staB ⟨#[40]⟩ (.ok () (t :: r)) = false) (h3:staB ⟨#[116,114,117,101]⟩ (.ok () (t :: r)) = false) (h4:staB ⟨#[108,105,109,105,116]⟩ (.ok () (t :: r)) = false) (h5:staB ⟨#[111,118,101,114]⟩ (.ok () (t :: r)) = false) (h6:staB ⟨#[104,97,115]⟩ (.ok () (t :: r)) = false) (h7:staB ⟨#[115,108,111,116]⟩ (.ok () (t :: r)) = false) (h8:staB ⟨#[97,108,108]⟩ (.ok () (t :: r)) = false) (h9:staB ⟨#[97,110,121]⟩ (.ok () (t :: r)) = false) (h10:staB ⟨#[97,116]⟩ (.ok () (t :: r)) = false) (hn:¬ (t.kind = 1∧resB t.text = true)) {e a0:Int} (hq:((((Got.ok () (t :: r)).go (tokP E 1)).end.go (wantP E ⟨#[61]⟩)).end.go (tokP E 3)) = .bad e a0) :
    Calls Tryz.prog 51 #[.pointer (some ⟨g,0,none⟩)] w (Rx g E A c L (notP1 E one) (.ok () (t :: r)) w):=by
  have hlt:=h.lt
  have HF:=Lib.hid (Fr.start h)
  have HNO:=Lib.hid (took_no (g:=g) (E:=E) (A:=A) (c:=c) (L:=L) (.ok () (t :: r)))
  have HIN:=Lib.hid (is_st (g:=g) (E:=E) (A:=A) (c:=c) (L:=L) (.ok () (t :: r)) false)
  have HW1:=Lib.hid h1
  have HW2:=Lib.hid h2
  have HW3:=Lib.hid h3
  have HW4:=Lib.hid h4
  have HW5:=Lib.hid h5
  have HW6:=Lib.hid h6
  have HW7:=Lib.hid h7
  have HW8:=Lib.hid h8
  have HW9:=Lib.hid h9
  have HW10:=Lib.hid h10
  have HN:=Lib.hid hn
  have HGA:=Lib.hid (fun u hu=>h.tokG () _ rfl u hu)
  obtain ⟨s1,hs1⟩:∃ q,((Got.ok () (t :: r)).go (tokP E 1)).end = q:=⟨_,rfl⟩
  obtain ⟨s2,hs2⟩:∃ q,(s1.go (wantP E ⟨#[61]⟩)).end = q:=⟨_,rfl⟩
  rw [hs1,hs2] at hq
  have HQ:=Lib.hid hq
  have HT3:=Lib.hid (tok_st (g:=g) (A:=A) (c:=c) (L:=L) (E:=E) 3 (s:=s2) (s':=.bad e a0) (by rw [hq];rfl))
  clear hq
  have HT1:=Lib.hid (tok_st (g:=g) (A:=A) (c:=c) (L:=L) 1 hs1)
  have HT2:=Lib.hid (skip_st (g:=g) (A:=A) (c:=c) (L:=L) ⟨#[61]⟩ hs2)
  have HE2:=Lib.hid hs2
  clear hs1 hs2 hn
  clear h h1 h2 h3 h4 h5 h6 h7 h8 h9 h10
  go_enter Tryz.func51,Tryz.ntmps51
  go_wp2_with (first
    | (go_at_call 50;refine (HNO.out _ _ HF.out.rs (by (first | exact HW1.out | exact HW2.out | exact HW3.out | exact HW4.out | exact HW5.out | exact HW6.out | exact HW7.out | exact HW8.out | exact HW9.out | exact HW10.out))).mono ?_;rintro _ w0 ⟨rfl,ha,hr⟩;replace HF:=Lib.hid (HF.out.call ha hr);clear ha hr)
    | (go_at_call 52;refine (HIN.out _ _ HF.out.rs (by (first | exact HW1.out | exact HW2.out | exact HW3.out | exact HW4.out | exact HW5.out | exact HW6.out | exact HW7.out | exact HW8.out | exact HW9.out | exact HW10.out))).mono ?_;rintro _ w0 ⟨rfl,ha,hr⟩;replace HF:=Lib.hid (HF.out.call ha hr);clear ha hr))
  obtain ⟨b,o,i,at0,rfl,hbg,hh1,ht,hi,hc,hL5,_,_,_,_,c1,c2,c3⟩:=HF.out.rs.tok
  obtain ⟨d0,f0⟩:=hh1.facts
  have hlt0:decide ((i:Int) < (L.length:Int)) = true:=decide_eq_true (by omega)
  have hki:(i:Int) < (L.length:Int):=by omega
  by_cases kk:t.kind = 1
  · have hres:resB t.text = false:=(by cases hx:resB t.text with | false=>rfl | true=>exact absurd ⟨kk,hx⟩ HN.out)
    rw [kk] at c1
    have HRES:=Lib.hid hres
    clear hh1 ht hi kk hres
    go_still_tail 36,(by kernel_rfl)
    change wpList _ _ _ _ _ w0.drew
    replace HF:=Lib.hid HF.out.drew
    generalize w0.drew = wq at *
    go_wp2_with (first
      | (go_at_call 80;refine (refReserved_any _ _).mono ?_;rintro _ w0 ⟨rfl,hb⟩;(try rw [HRES.out]);replace HF:=Lib.hid (HF.out.call (.of_below hb) (HF.out.rs.below hb));clear hb)
      | (go_at_call 27;refine (HT1.out _ (HF.out).rs).mono ?_;rintro _ w1 ⟨a,rfl,ha,hr,hst⟩;replace HF:=Lib.hid ((HF.out).call ha hr);have HS1:=Lib.hid hst;have HC:=Lib.hid (Has.new w1 24 #[.int .i64 7,.string a,.string ⟨#[]⟩,.int .i64 0,.int .i64 0,.slice none 0 0]);have HB:=Lib.hid HF.out.lt;clear HT1 ha hr hst)
      | (go_at_call 26;refine (HT2.out _ (HF.out.alloc _).rs).mono ?_;rintro _ w2 ⟨rfl,ha,hr⟩;replace HF:=Lib.hid ((HF.out.alloc _).call ha hr);replace HC:=Lib.hid (HC.out.aw ha (by have:=HB.out;omega) (by have:=HB.out;omega));clear HT2 ha hr)
      | (go_at_call 27;refine (HT3.out _ HF.out.rs).mono ?_;rintro _ w3 ⟨v,rfl,ha,hr,hst⟩;replace HF:=Lib.hid (HF.out.call ha hr);replace HC:=Lib.hid (HC.out.aw ha (by have:=HB.out;omega) (by have:=HB.out;omega));obtain ⟨d2,f2⟩:=(HC.out).facts;replace HF:=Lib.hid (HF.out.set (i:=2) (v:=.string v) HB.out);replace HC:=Lib.hid (show Has (w3.setCell ⟨w1.heap.size,2,none⟩ (.string v)) w1.heap.size 24 #[.int .i64 7,.string a,.string v,.int .i64 0,.int .i64 0,.slice none 0 0] from HC.out.put 2 (.string v));obtain ⟨d4,f4⟩:=(HC.out).facts;obtain ⟨d5,f5⟩:=(HF.out.res).facts;have hne:¬ w.heap.size = w1.heap.size:=(by have:=HB.out;omega);have hne2:¬ w1.heap.size = w.heap.size:=(by have:=HB.out;omega);obtain ⟨i9,h9,_,hne9,_⟩:=HF.out.rs.bad;obtain ⟨d9,f9⟩:=h9.facts;have hd9:(e == 0) = false:=(by first | rfl | simpa using hne9);clear h9 hne9;clear HT3 ha hr hst))
    have HSix:=Lib.hid (six_has HF.out.res (.int .i64 7) (.string a) (.string v) (.int .i64 0) (.int .i64 0) (.slice none 0 0))
    have HFin:=Lib.hid (show Rx g E _ c L (notP1 E one) (.ok () (t :: r)) w (.returned (.agg #[.int .i64 7,.string a,.string v,.int .i64 0,.int .i64 0,.slice none 0 0])) (six (w3.setCell ⟨w1.heap.size,2,none⟩ (.string v)) w.heap.size (.int .i64 7) (.string a) (.string v) (.int .i64 0) (.int .i64 0) (.slice none 0 0)) from HF.out.fin (Ex.mk 7 a v 0 0 []) (stp_is (n1_is HW2.out HN.out) HGA.out HS1.out HE2.out (Stp.bad (next3_bad HQ.out) _)) (LayS.nil _ _))
    show bodyPost _ _ _ _ _ (six (w3.setCell ⟨w1.heap.size,2,none⟩ (.string v)) w.heap.size (.int .i64 7) (.string a) (.string v) (.int .i64 0) (.int .i64 0) (.slice none 0 0))
    generalize six (w3.setCell ⟨w1.heap.size,2,none⟩ (.string v)) w.heap.size (.int .i64 7) (.string a) (.string v) (.int .i64 0) (.int .i64 0) (.slice none 0 0) = W6 at *
    obtain ⟨d6,f6⟩:=HSix.out.facts
    refine bodyPost_ret (v:=.agg #[.int .i64 7,.string a,.string v,.int .i64 0,.int .i64 0,.slice none 0 0]) (by simp [results,Tryz.results51,go_sem,d6]) rfl ?_
    exact HFin.out
  · have kk1:(t.kind == 1) = false:=by simpa using kk
    clear hh1 ht hi kk
    go_quiet (fail)
    go_wp2_with (first
      | (go_at_call 27;refine (HT1.out _ (HF.out.drewN _).rs).mono ?_;rintro _ w1 ⟨a,rfl,ha,hr,hst⟩;replace HF:=Lib.hid ((HF.out.drewN _).call ha hr);have HS1:=Lib.hid hst;have HC:=Lib.hid (Has.new w1 24 #[.int .i64 7,.string a,.string ⟨#[]⟩,.int .i64 0,.int .i64 0,.slice none 0 0]);have HB:=Lib.hid HF.out.lt;clear HT1 ha hr hst)
      | (go_at_call 26;refine (HT2.out _ (HF.out.alloc _).rs).mono ?_;rintro _ w2 ⟨rfl,ha,hr⟩;replace HF:=Lib.hid ((HF.out.alloc _).call ha hr);replace HC:=Lib.hid (HC.out.aw ha (by have:=HB.out;omega) (by have:=HB.out;omega));clear HT2 ha hr)
      | (go_at_call 27;refine (HT3.out _ HF.out.rs).mono ?_;rintro _ w3 ⟨v,rfl,ha,hr,hst⟩;replace HF:=Lib.hid (HF.out.call ha hr);replace HC:=Lib.hid (HC.out.aw ha (by have:=HB.out;omega) (by have:=HB.out;omega));obtain ⟨d2,f2⟩:=(HC.out).facts;replace HF:=Lib.hid (HF.out.set (i:=2) (v:=.string v) HB.out);replace HC:=Lib.hid (show Has (w3.setCell ⟨w1.heap.size,2,none⟩ (.string v)) w1.heap.size 24 #[.int .i64 7,.string a,.string v,.int .i64 0,.int .i64 0,.slice none 0 0] from HC.out.put 2 (.string v));obtain ⟨d4,f4⟩:=(HC.out).facts;obtain ⟨d5,f5⟩:=(HF.out.res).facts;have hne:¬ w.heap.size = w1.heap.size:=(by have:=HB.out;omega);have hne2:¬ w1.heap.size = w.heap.size:=(by have:=HB.out;omega);obtain ⟨i9,h9,_,hne9,_⟩:=HF.out.rs.bad;obtain ⟨d9,f9⟩:=h9.facts;have hd9:(e == 0) = false:=(by first | rfl | simpa using hne9);clear h9 hne9;clear HT3 ha hr hst))
    have HSix:=Lib.hid (six_has HF.out.res (.int .i64 7) (.string a) (.string v) (.int .i64 0) (.int .i64 0) (.slice none 0 0))
    have HFin:=Lib.hid (show Rx g E _ c L (notP1 E one) (.ok () (t :: r)) w (.returned (.agg #[.int .i64 7,.string a,.string v,.int .i64 0,.int .i64 0,.slice none 0 0])) (six (w3.setCell ⟨w1.heap.size,2,none⟩ (.string v)) w.heap.size (.int .i64 7) (.string a) (.string v) (.int .i64 0) (.int .i64 0) (.slice none 0 0)) from HF.out.fin (Ex.mk 7 a v 0 0 []) (stp_is (n1_is HW2.out HN.out) HGA.out HS1.out HE2.out (Stp.bad (next3_bad HQ.out) _)) (LayS.nil _ _))
    show bodyPost _ _ _ _ _ (six (w3.setCell ⟨w1.heap.size,2,none⟩ (.string v)) w.heap.size (.int .i64 7) (.string a) (.string v) (.int .i64 0) (.int .i64 0) (.slice none 0 0))
    generalize six (w3.setCell ⟨w1.heap.size,2,none⟩ (.string v)) w.heap.size (.int .i64 7) (.string a) (.string v) (.int .i64 0) (.int .i64 0) (.slice none 0 0) = W6 at *
    obtain ⟨d6,f6⟩:=HSix.out.facts
    refine bodyPost_ret (v:=.agg #[.int .i64 7,.string a,.string v,.int .i64 0,.int .i64 0,.slice none 0 0]) (by simp [results,Tryz.results51,go_sem,d6]) rfl ?_
    exact HFin.out
set_option maxRecDepth 100000 in
set_option maxHeartbeats 8000000 in
theorem rn_is_ok {t:Fnd} {r:List Fnd} (h:Rs g E A c L w (.ok () (t :: r))) (h1:staB ⟨#[110,111,116]⟩ (.ok () (t :: r)) = false) (h2:staB ⟨#[40]⟩ (.ok () (t :: r)) = false) (h3:staB ⟨#[116,114,117,101]⟩ (.ok () (t :: r)) = false) (h4:staB ⟨#[108,105,109,105,116]⟩ (.ok () (t :: r)) = false) (h5:staB ⟨#[111,118,101,114]⟩ (.ok () (t :: r)) = false) (h6:staB ⟨#[104,97,115]⟩ (.ok () (t :: r)) = false) (h7:staB ⟨#[115,108,111,116]⟩ (.ok () (t :: r)) = false) (h8:staB ⟨#[97,108,108]⟩ (.ok () (t :: r)) = false) (h9:staB ⟨#[97,110,121]⟩ (.ok () (t :: r)) = false) (h10:staB ⟨#[97,116]⟩ (.ok () (t :: r)) = false) (hn:¬ (t.kind = 1∧resB t.text = true)) {v0:ByteArray} {r3:List Fnd} (hq:((((Got.ok () (t :: r)).go (tokP E 1)).end.go (wantP E ⟨#[61]⟩)).end.go (tokP E 3)) = .ok v0 r3) (hv:valB v0 = true) :
    Calls Tryz.prog 51 #[.pointer (some ⟨g,0,none⟩)] w (Rx g E A c L (notP1 E one) (.ok () (t :: r)) w):=by
  have hlt:=h.lt
  have HF:=Lib.hid (Fr.start h)
  have HNO:=Lib.hid (took_no (g:=g) (E:=E) (A:=A) (c:=c) (L:=L) (.ok () (t :: r)))
  have HIN:=Lib.hid (is_st (g:=g) (E:=E) (A:=A) (c:=c) (L:=L) (.ok () (t :: r)) false)
  have HW1:=Lib.hid h1
  have HW2:=Lib.hid h2
  have HW3:=Lib.hid h3
  have HW4:=Lib.hid h4
  have HW5:=Lib.hid h5
  have HW6:=Lib.hid h6
  have HW7:=Lib.hid h7
  have HW8:=Lib.hid h8
  have HW9:=Lib.hid h9
  have HW10:=Lib.hid h10
  have HN:=Lib.hid hn
  have HGA:=Lib.hid (fun u hu=>h.tokG () _ rfl u hu)
  obtain ⟨s1,hs1⟩:∃ q,((Got.ok () (t :: r)).go (tokP E 1)).end = q:=⟨_,rfl⟩
  obtain ⟨s2,hs2⟩:∃ q,(s1.go (wantP E ⟨#[61]⟩)).end = q:=⟨_,rfl⟩
  rw [hs1,hs2] at hq
  obtain ⟨u,hsu,rfl,huk⟩:=tok_ok hq
  have HQ:=Lib.hid hq
  have HUK:=Lib.hid huk
  have HV:=Lib.hid hv
  have hv1:¬ (u.text.size:Int) < 1:=by have h:=of_decide_eq_true hv;omega
  have hv2:¬ (200:Int) < (u.text.size:Int):=by have h:=of_decide_eq_true hv;omega
  have HT3:=Lib.hid (tok_st (g:=g) (A:=A) (c:=c) (L:=L) (E:=E) 3 (s:=s2) (s':=.ok () r3) (by rw [hq];rfl))
  clear hq huk hv
  subst hsu
  have HT1:=Lib.hid (tok_st (g:=g) (A:=A) (c:=c) (L:=L) 1 hs1)
  have HT2:=Lib.hid (skip_st (g:=g) (A:=A) (c:=c) (L:=L) ⟨#[61]⟩ hs2)
  have HE2:=Lib.hid hs2
  clear hs1 hs2 hn
  clear h h1 h2 h3 h4 h5 h6 h7 h8 h9 h10
  go_enter Tryz.func51,Tryz.ntmps51
  go_wp2_with (first
    | (go_at_call 50;refine (HNO.out _ _ HF.out.rs (by (first | exact HW1.out | exact HW2.out | exact HW3.out | exact HW4.out | exact HW5.out | exact HW6.out | exact HW7.out | exact HW8.out | exact HW9.out | exact HW10.out))).mono ?_;rintro _ w0 ⟨rfl,ha,hr⟩;replace HF:=Lib.hid (HF.out.call ha hr);clear ha hr)
    | (go_at_call 52;refine (HIN.out _ _ HF.out.rs (by (first | exact HW1.out | exact HW2.out | exact HW3.out | exact HW4.out | exact HW5.out | exact HW6.out | exact HW7.out | exact HW8.out | exact HW9.out | exact HW10.out))).mono ?_;rintro _ w0 ⟨rfl,ha,hr⟩;replace HF:=Lib.hid (HF.out.call ha hr);clear ha hr))
  obtain ⟨b,o,i,at0,rfl,hbg,hh1,ht,hi,hc,hL5,_,_,_,_,c1,c2,c3⟩:=HF.out.rs.tok
  obtain ⟨d0,f0⟩:=hh1.facts
  have hlt0:decide ((i:Int) < (L.length:Int)) = true:=decide_eq_true (by omega)
  have hki:(i:Int) < (L.length:Int):=by omega
  by_cases kk:t.kind = 1
  · have hres:resB t.text = false:=(by cases hx:resB t.text with | false=>rfl | true=>exact absurd ⟨kk,hx⟩ HN.out)
    rw [kk] at c1
    have HRES:=Lib.hid hres
    clear hh1 ht hi kk hres
    go_still_tail 36,(by kernel_rfl)
    change wpList _ _ _ _ _ w0.drew
    replace HF:=Lib.hid HF.out.drew
    generalize w0.drew = wq at *
    go_wp2_with (first
      | (go_at_call 80;refine (refReserved_any _ _).mono ?_;rintro _ w0 ⟨rfl,hb⟩;(try rw [HRES.out]);replace HF:=Lib.hid (HF.out.call (.of_below hb) (HF.out.rs.below hb));clear hb)
      | (go_at_call 27;refine (HT1.out _ (HF.out).rs).mono ?_;rintro _ w1 ⟨a,rfl,ha,hr,hst⟩;replace HF:=Lib.hid ((HF.out).call ha hr);have HS1:=Lib.hid hst;have HC:=Lib.hid (Has.new w1 24 #[.int .i64 7,.string a,.string ⟨#[]⟩,.int .i64 0,.int .i64 0,.slice none 0 0]);have HB:=Lib.hid HF.out.lt;clear HT1 ha hr hst)
      | (go_at_call 26;refine (HT2.out _ (HF.out.alloc _).rs).mono ?_;rintro _ w2 ⟨rfl,ha,hr⟩;replace HF:=Lib.hid ((HF.out.alloc _).call ha hr);replace HC:=Lib.hid (HC.out.aw ha (by have:=HB.out;omega) (by have:=HB.out;omega));clear HT2 ha hr)
      | (go_at_call 27;refine (HT3.out _ HF.out.rs).mono ?_;rintro _ w3 ⟨v,rfl,ha,hr,hst⟩;replace HF:=Lib.hid (HF.out.call ha hr);replace HC:=Lib.hid (HC.out.aw ha (by have:=HB.out;omega) (by have:=HB.out;omega));obtain ⟨d2,f2⟩:=(HC.out).facts;replace HF:=Lib.hid (HF.out.set (i:=2) (v:=.string v) HB.out);replace HC:=Lib.hid (show Has (w3.setCell ⟨w1.heap.size,2,none⟩ (.string v)) w1.heap.size 24 #[.int .i64 7,.string a,.string v,.int .i64 0,.int .i64 0,.slice none 0 0] from HC.out.put 2 (.string v));obtain ⟨d4,f4⟩:=(HC.out).facts;obtain ⟨d5,f5⟩:=(HF.out.res).facts;have hne:¬ w.heap.size = w1.heap.size:=(by have:=HB.out;omega);have hne2:¬ w1.heap.size = w.heap.size:=(by have:=HB.out;omega);obtain rfl:=hst.2 _ _ HQ.out;obtain ⟨i9,at9,h9,_,_,_⟩:=HF.out.rs.obj;obtain ⟨d9,f9⟩:=h9.facts;clear h9;clear HT3 ha hr hst))
    have HSix:=Lib.hid (six_has HF.out.res (.int .i64 7) (.string a) (.string u.text) (.int .i64 0) (.int .i64 0) (.slice none 0 0))
    have HFin:=Lib.hid (show Rx g E _ c L (notP1 E one) (.ok () (t :: r)) w (.returned (.agg #[.int .i64 7,.string a,.string u.text,.int .i64 0,.int .i64 0,.slice none 0 0])) (six (w3.setCell ⟨w1.heap.size,2,none⟩ (.string u.text)) w.heap.size (.int .i64 7) (.string a) (.string u.text) (.int .i64 0) (.int .i64 0) (.slice none 0 0)) from HF.out.fin (Ex.mk 7 a u.text 0 0 []) (stp_is (n1_is HW2.out HN.out) HGA.out HS1.out HE2.out (stp3_ok HUK.out HV.out)) (LayS.nil _ _))
    show bodyPost _ _ _ _ _ (six (w3.setCell ⟨w1.heap.size,2,none⟩ (.string u.text)) w.heap.size (.int .i64 7) (.string a) (.string u.text) (.int .i64 0) (.int .i64 0) (.slice none 0 0))
    generalize six (w3.setCell ⟨w1.heap.size,2,none⟩ (.string u.text)) w.heap.size (.int .i64 7) (.string a) (.string u.text) (.int .i64 0) (.int .i64 0) (.slice none 0 0) = W6 at *
    obtain ⟨d6,f6⟩:=HSix.out.facts
    refine bodyPost_ret (v:=.agg #[.int .i64 7,.string a,.string u.text,.int .i64 0,.int .i64 0,.slice none 0 0]) (by simp [results,Tryz.results51,go_sem,d6]) rfl ?_
    exact HFin.out
  · have kk1:(t.kind == 1) = false:=by simpa using kk
    clear hh1 ht hi kk
    go_quiet (fail)
    go_wp2_with (first
      | (go_at_call 27;refine (HT1.out _ (HF.out.drewN _).rs).mono ?_;rintro _ w1 ⟨a,rfl,ha,hr,hst⟩;replace HF:=Lib.hid ((HF.out.drewN _).call ha hr);have HS1:=Lib.hid hst;have HC:=Lib.hid (Has.new w1 24 #[.int .i64 7,.string a,.string ⟨#[]⟩,.int .i64 0,.int .i64 0,.slice none 0 0]);have HB:=Lib.hid HF.out.lt;clear HT1 ha hr hst)
      | (go_at_call 26;refine (HT2.out _ (HF.out.alloc _).rs).mono ?_;rintro _ w2 ⟨rfl,ha,hr⟩;replace HF:=Lib.hid ((HF.out.alloc _).call ha hr);replace HC:=Lib.hid (HC.out.aw ha (by have:=HB.out;omega) (by have:=HB.out;omega));clear HT2 ha hr)
      | (go_at_call 27;refine (HT3.out _ HF.out.rs).mono ?_;rintro _ w3 ⟨v,rfl,ha,hr,hst⟩;replace HF:=Lib.hid (HF.out.call ha hr);replace HC:=Lib.hid (HC.out.aw ha (by have:=HB.out;omega) (by have:=HB.out;omega));obtain ⟨d2,f2⟩:=(HC.out).facts;replace HF:=Lib.hid (HF.out.set (i:=2) (v:=.string v) HB.out);replace HC:=Lib.hid (show Has (w3.setCell ⟨w1.heap.size,2,none⟩ (.string v)) w1.heap.size 24 #[.int .i64 7,.string a,.string v,.int .i64 0,.int .i64 0,.slice none 0 0] from HC.out.put 2 (.string v));obtain ⟨d4,f4⟩:=(HC.out).facts;obtain ⟨d5,f5⟩:=(HF.out.res).facts;have hne:¬ w.heap.size = w1.heap.size:=(by have:=HB.out;omega);have hne2:¬ w1.heap.size = w.heap.size:=(by have:=HB.out;omega);obtain rfl:=hst.2 _ _ HQ.out;obtain ⟨i9,at9,h9,_,_,_⟩:=HF.out.rs.obj;obtain ⟨d9,f9⟩:=h9.facts;clear h9;clear HT3 ha hr hst))
    have HSix:=Lib.hid (six_has HF.out.res (.int .i64 7) (.string a) (.string u.text) (.int .i64 0) (.int .i64 0) (.slice none 0 0))
    have HFin:=Lib.hid (show Rx g E _ c L (notP1 E one) (.ok () (t :: r)) w (.returned (.agg #[.int .i64 7,.string a,.string u.text,.int .i64 0,.int .i64 0,.slice none 0 0])) (six (w3.setCell ⟨w1.heap.size,2,none⟩ (.string u.text)) w.heap.size (.int .i64 7) (.string a) (.string u.text) (.int .i64 0) (.int .i64 0) (.slice none 0 0)) from HF.out.fin (Ex.mk 7 a u.text 0 0 []) (stp_is (n1_is HW2.out HN.out) HGA.out HS1.out HE2.out (stp3_ok HUK.out HV.out)) (LayS.nil _ _))
    show bodyPost _ _ _ _ _ (six (w3.setCell ⟨w1.heap.size,2,none⟩ (.string u.text)) w.heap.size (.int .i64 7) (.string a) (.string u.text) (.int .i64 0) (.int .i64 0) (.slice none 0 0))
    generalize six (w3.setCell ⟨w1.heap.size,2,none⟩ (.string u.text)) w.heap.size (.int .i64 7) (.string a) (.string u.text) (.int .i64 0) (.int .i64 0) (.slice none 0 0) = W6 at *
    obtain ⟨d6,f6⟩:=HSix.out.facts
    refine bodyPost_ret (v:=.agg #[.int .i64 7,.string a,.string u.text,.int .i64 0,.int .i64 0,.slice none 0 0]) (by simp [results,Tryz.results51,go_sem,d6]) rfl ?_
    exact HFin.out
set_option maxRecDepth 100000 in
set_option maxHeartbeats 8000000 in
theorem rn_is_lo {t:Fnd} {r:List Fnd} (h:Rs g E A c L w (.ok () (t :: r))) (h1:staB ⟨#[110,111,116]⟩ (.ok () (t :: r)) = false) (h2:staB ⟨#[40]⟩ (.ok () (t :: r)) = false) (h3:staB ⟨#[116,114,117,101]⟩ (.ok () (t :: r)) = false) (h4:staB ⟨#[108,105,109,105,116]⟩ (.ok () (t :: r)) = false) (h5:staB ⟨#[111,118,101,114]⟩ (.ok () (t :: r)) = false) (h6:staB ⟨#[104,97,115]⟩ (.ok () (t :: r)) = false) (h7:staB ⟨#[115,108,111,116]⟩ (.ok () (t :: r)) = false) (h8:staB ⟨#[97,108,108]⟩ (.ok () (t :: r)) = false) (h9:staB ⟨#[97,110,121]⟩ (.ok () (t :: r)) = false) (h10:staB ⟨#[97,116]⟩ (.ok () (t :: r)) = false) (hn:¬ (t.kind = 1∧resB t.text = true)) {v0:ByteArray} {r3:List Fnd} (hq:((((Got.ok () (t :: r)).go (tokP E 1)).end.go (wantP E ⟨#[61]⟩)).end.go (tokP E 3)) = .ok v0 r3) (hv:v0.size = 0) :
    Calls Tryz.prog 51 #[.pointer (some ⟨g,0,none⟩)] w (Rx g E A c L (notP1 E one) (.ok () (t :: r)) w):=by
  have hlt:=h.lt
  have HF:=Lib.hid (Fr.start h)
  have HNO:=Lib.hid (took_no (g:=g) (E:=E) (A:=A) (c:=c) (L:=L) (.ok () (t :: r)))
  have HIN:=Lib.hid (is_st (g:=g) (E:=E) (A:=A) (c:=c) (L:=L) (.ok () (t :: r)) false)
  have HW1:=Lib.hid h1
  have HW2:=Lib.hid h2
  have HW3:=Lib.hid h3
  have HW4:=Lib.hid h4
  have HW5:=Lib.hid h5
  have HW6:=Lib.hid h6
  have HW7:=Lib.hid h7
  have HW8:=Lib.hid h8
  have HW9:=Lib.hid h9
  have HW10:=Lib.hid h10
  have HN:=Lib.hid hn
  have HGA:=Lib.hid (fun u hu=>h.tokG () _ rfl u hu)
  obtain ⟨s1,hs1⟩:∃ q,((Got.ok () (t :: r)).go (tokP E 1)).end = q:=⟨_,rfl⟩
  obtain ⟨s2,hs2⟩:∃ q,(s1.go (wantP E ⟨#[61]⟩)).end = q:=⟨_,rfl⟩
  rw [hs1,hs2] at hq
  obtain ⟨u,hsu,rfl,huk⟩:=tok_ok hq
  have HQ:=Lib.hid hq
  have HUK:=Lib.hid huk
  have HV:=Lib.hid hv
  have hv1:(u.text.size:Int) < 1:=by omega
  have HT3:=Lib.hid (tok_st (g:=g) (A:=A) (c:=c) (L:=L) (E:=E) 3 (s:=s2) (s':=.ok () r3) (by rw [hq];rfl))
  clear hq huk hv
  subst hsu
  have HT1:=Lib.hid (tok_st (g:=g) (A:=A) (c:=c) (L:=L) 1 hs1)
  have HT2:=Lib.hid (skip_st (g:=g) (A:=A) (c:=c) (L:=L) ⟨#[61]⟩ hs2)
  have HE2:=Lib.hid hs2
  clear hs1 hs2 hn
  clear h h1 h2 h3 h4 h5 h6 h7 h8 h9 h10
  go_enter Tryz.func51,Tryz.ntmps51
  go_wp2_with (first
    | (go_at_call 50;refine (HNO.out _ _ HF.out.rs (by (first | exact HW1.out | exact HW2.out | exact HW3.out | exact HW4.out | exact HW5.out | exact HW6.out | exact HW7.out | exact HW8.out | exact HW9.out | exact HW10.out))).mono ?_;rintro _ w0 ⟨rfl,ha,hr⟩;replace HF:=Lib.hid (HF.out.call ha hr);clear ha hr)
    | (go_at_call 52;refine (HIN.out _ _ HF.out.rs (by (first | exact HW1.out | exact HW2.out | exact HW3.out | exact HW4.out | exact HW5.out | exact HW6.out | exact HW7.out | exact HW8.out | exact HW9.out | exact HW10.out))).mono ?_;rintro _ w0 ⟨rfl,ha,hr⟩;replace HF:=Lib.hid (HF.out.call ha hr);clear ha hr))
  obtain ⟨b,o,i,at0,rfl,hbg,hh1,ht,hi,hc,hL5,_,_,_,_,c1,c2,c3⟩:=HF.out.rs.tok
  obtain ⟨d0,f0⟩:=hh1.facts
  have hlt0:decide ((i:Int) < (L.length:Int)) = true:=decide_eq_true (by omega)
  have hki:(i:Int) < (L.length:Int):=by omega
  by_cases kk:t.kind = 1
  · have hres:resB t.text = false:=(by cases hx:resB t.text with | false=>rfl | true=>exact absurd ⟨kk,hx⟩ HN.out)
    rw [kk] at c1
    have HRES:=Lib.hid hres
    clear hh1 ht hi kk hres
    go_still_tail 36,(by kernel_rfl)
    change wpList _ _ _ _ _ w0.drew
    replace HF:=Lib.hid HF.out.drew
    generalize w0.drew = wq at *
    go_wp2_with (first
      | (go_at_call 80;refine (refReserved_any _ _).mono ?_;rintro _ w0 ⟨rfl,hb⟩;(try rw [HRES.out]);replace HF:=Lib.hid (HF.out.call (.of_below hb) (HF.out.rs.below hb));clear hb)
      | (go_at_call 27;refine (HT1.out _ (HF.out).rs).mono ?_;rintro _ w1 ⟨a,rfl,ha,hr,hst⟩;replace HF:=Lib.hid ((HF.out).call ha hr);have HS1:=Lib.hid hst;have HC:=Lib.hid (Has.new w1 24 #[.int .i64 7,.string a,.string ⟨#[]⟩,.int .i64 0,.int .i64 0,.slice none 0 0]);have HB:=Lib.hid HF.out.lt;clear HT1 ha hr hst)
      | (go_at_call 26;refine (HT2.out _ (HF.out.alloc _).rs).mono ?_;rintro _ w2 ⟨rfl,ha,hr⟩;replace HF:=Lib.hid ((HF.out.alloc _).call ha hr);replace HC:=Lib.hid (HC.out.aw ha (by have:=HB.out;omega) (by have:=HB.out;omega));clear HT2 ha hr)
      | (go_at_call 27;refine (HT3.out _ HF.out.rs).mono ?_;rintro _ w3 ⟨v,rfl,ha,hr,hst⟩;obtain ⟨i0,_,_,hT0,hle0,hdr0⟩:=HF.out.rs.obj;have HDR:=Lib.hid hdr0;have HLE:=Lib.hid (show i0+(r3.length+1) = L.length from hle0);have HL5:=Lib.hid hT0.2.2.1;clear hdr0 hle0 hT0;replace HF:=Lib.hid (HF.out.call ha hr);replace HC:=Lib.hid (HC.out.aw ha (by have:=HB.out;omega) (by have:=HB.out;omega));obtain ⟨d2,f2⟩:=(HC.out).facts;replace HF:=Lib.hid (HF.out.set (i:=2) (v:=.string v) HB.out);replace HC:=Lib.hid (show Has (w3.setCell ⟨w1.heap.size,2,none⟩ (.string v)) w1.heap.size 24 #[.int .i64 7,.string a,.string v,.int .i64 0,.int .i64 0,.slice none 0 0] from HC.out.put 2 (.string v));obtain ⟨d4,f4⟩:=(HC.out).facts;obtain ⟨d5,f5⟩:=(HF.out.res).facts;have hne:¬ w.heap.size = w1.heap.size:=(by have:=HB.out;omega);have hne2:¬ w1.heap.size = w.heap.size:=(by have:=HB.out;omega);obtain rfl:=hst.2 _ _ HQ.out;obtain ⟨⟨at9,h9⟩,hfb⟩:=HF.out.back i0 HDR.out HLE.out;obtain ⟨d9,f9⟩:=h9.facts;have HFB:=Lib.hid hfb;have HW:=Lib.hid (IntWalk.wrap64_in (i0:Int) (by have:=HLE.out;have:=HL5.out;omega));clear h9 hfb;clear HT3 ha hr hst)
      | (go_at_call 29;(try rw [HW.out]);refine (rfail_any 13 (by decide) (.ok () (u :: r3)) _ HFB.out.rs).mono ?_;rintro _ w5 ⟨rfl,ha,hr⟩;replace HF:=Lib.hid (HFB.out.call ha hr);replace HC:=Lib.hid ((HC.out.far ⟨g,1,none⟩ (by intro e;have e:w1.heap.size = g:=e;have:=HB.out;omega) _).aw ha (by have:=HB.out;omega) (by have:=HB.out;omega));obtain ⟨d6,f6⟩:=(HC.out).facts;obtain ⟨d5,f5⟩:=(HF.out.res).facts;clear ha hr))
    have HSix:=Lib.hid (six_has HF.out.res (.int .i64 7) (.string a) (.string u.text) (.int .i64 0) (.int .i64 0) (.slice none 0 0))
    have HFin:=Lib.hid (show Rx g E _ c L (notP1 E one) (.ok () (t :: r)) w (.returned (.agg #[.int .i64 7,.string a,.string u.text,.int .i64 0,.int .i64 0,.slice none 0 0])) (six w5 w.heap.size (.int .i64 7) (.string a) (.string u.text) (.int .i64 0) (.int .i64 0) (.slice none 0 0)) from HF.out.fin (Ex.mk 7 a u.text 0 0 []) (stp_is (n1_is HW2.out HN.out) HGA.out HS1.out HE2.out (stp3_no HUK.out (fun h=>by have h:=of_decide_eq_true h;have:=HV.out;omega) _)) (LayS.nil _ _))
    show bodyPost _ _ _ _ _ (six w5 w.heap.size (.int .i64 7) (.string a) (.string u.text) (.int .i64 0) (.int .i64 0) (.slice none 0 0))
    generalize six w5 w.heap.size (.int .i64 7) (.string a) (.string u.text) (.int .i64 0) (.int .i64 0) (.slice none 0 0) = W6 at *
    obtain ⟨d6,f6⟩:=HSix.out.facts
    refine bodyPost_ret (v:=.agg #[.int .i64 7,.string a,.string u.text,.int .i64 0,.int .i64 0,.slice none 0 0]) (by simp [results,Tryz.results51,go_sem,d6]) rfl ?_
    exact HFin.out
  · have kk1:(t.kind == 1) = false:=by simpa using kk
    clear hh1 ht hi kk
    go_quiet (fail)
    go_wp2_with (first
      | (go_at_call 27;refine (HT1.out _ (HF.out.drewN _).rs).mono ?_;rintro _ w1 ⟨a,rfl,ha,hr,hst⟩;replace HF:=Lib.hid ((HF.out.drewN _).call ha hr);have HS1:=Lib.hid hst;have HC:=Lib.hid (Has.new w1 24 #[.int .i64 7,.string a,.string ⟨#[]⟩,.int .i64 0,.int .i64 0,.slice none 0 0]);have HB:=Lib.hid HF.out.lt;clear HT1 ha hr hst)
      | (go_at_call 26;refine (HT2.out _ (HF.out.alloc _).rs).mono ?_;rintro _ w2 ⟨rfl,ha,hr⟩;replace HF:=Lib.hid ((HF.out.alloc _).call ha hr);replace HC:=Lib.hid (HC.out.aw ha (by have:=HB.out;omega) (by have:=HB.out;omega));clear HT2 ha hr)
      | (go_at_call 27;refine (HT3.out _ HF.out.rs).mono ?_;rintro _ w3 ⟨v,rfl,ha,hr,hst⟩;obtain ⟨i0,_,_,hT0,hle0,hdr0⟩:=HF.out.rs.obj;have HDR:=Lib.hid hdr0;have HLE:=Lib.hid (show i0+(r3.length+1) = L.length from hle0);have HL5:=Lib.hid hT0.2.2.1;clear hdr0 hle0 hT0;replace HF:=Lib.hid (HF.out.call ha hr);replace HC:=Lib.hid (HC.out.aw ha (by have:=HB.out;omega) (by have:=HB.out;omega));obtain ⟨d2,f2⟩:=(HC.out).facts;replace HF:=Lib.hid (HF.out.set (i:=2) (v:=.string v) HB.out);replace HC:=Lib.hid (show Has (w3.setCell ⟨w1.heap.size,2,none⟩ (.string v)) w1.heap.size 24 #[.int .i64 7,.string a,.string v,.int .i64 0,.int .i64 0,.slice none 0 0] from HC.out.put 2 (.string v));obtain ⟨d4,f4⟩:=(HC.out).facts;obtain ⟨d5,f5⟩:=(HF.out.res).facts;have hne:¬ w.heap.size = w1.heap.size:=(by have:=HB.out;omega);have hne2:¬ w1.heap.size = w.heap.size:=(by have:=HB.out;omega);obtain rfl:=hst.2 _ _ HQ.out;obtain ⟨⟨at9,h9⟩,hfb⟩:=HF.out.back i0 HDR.out HLE.out;obtain ⟨d9,f9⟩:=h9.facts;have HFB:=Lib.hid hfb;have HW:=Lib.hid (IntWalk.wrap64_in (i0:Int) (by have:=HLE.out;have:=HL5.out;omega));clear h9 hfb;clear HT3 ha hr hst)
      | (go_at_call 29;(try rw [HW.out]);refine (rfail_any 13 (by decide) (.ok () (u :: r3)) _ HFB.out.rs).mono ?_;rintro _ w5 ⟨rfl,ha,hr⟩;replace HF:=Lib.hid (HFB.out.call ha hr);replace HC:=Lib.hid ((HC.out.far ⟨g,1,none⟩ (by intro e;have e:w1.heap.size = g:=e;have:=HB.out;omega) _).aw ha (by have:=HB.out;omega) (by have:=HB.out;omega));obtain ⟨d6,f6⟩:=(HC.out).facts;obtain ⟨d5,f5⟩:=(HF.out.res).facts;clear ha hr))
    have HSix:=Lib.hid (six_has HF.out.res (.int .i64 7) (.string a) (.string u.text) (.int .i64 0) (.int .i64 0) (.slice none 0 0))
    have HFin:=Lib.hid (show Rx g E _ c L (notP1 E one) (.ok () (t :: r)) w (.returned (.agg #[.int .i64 7,.string a,.string u.text,.int .i64 0,.int .i64 0,.slice none 0 0])) (six w5 w.heap.size (.int .i64 7) (.string a) (.string u.text) (.int .i64 0) (.int .i64 0) (.slice none 0 0)) from HF.out.fin (Ex.mk 7 a u.text 0 0 []) (stp_is (n1_is HW2.out HN.out) HGA.out HS1.out HE2.out (stp3_no HUK.out (fun h=>by have h:=of_decide_eq_true h;have:=HV.out;omega) _)) (LayS.nil _ _))
    show bodyPost _ _ _ _ _ (six w5 w.heap.size (.int .i64 7) (.string a) (.string u.text) (.int .i64 0) (.int .i64 0) (.slice none 0 0))
    generalize six w5 w.heap.size (.int .i64 7) (.string a) (.string u.text) (.int .i64 0) (.int .i64 0) (.slice none 0 0) = W6 at *
    obtain ⟨d6,f6⟩:=HSix.out.facts
    refine bodyPost_ret (v:=.agg #[.int .i64 7,.string a,.string u.text,.int .i64 0,.int .i64 0,.slice none 0 0]) (by simp [results,Tryz.results51,go_sem,d6]) rfl ?_
    exact HFin.out
set_option maxRecDepth 100000 in
set_option maxHeartbeats 8000000 in
theorem rn_is_hi {t:Fnd} {r:List Fnd} (h:Rs g E A c L w (.ok () (t :: r))) (h1:staB ⟨#[110,111,116]⟩ (.ok () (t :: r)) = false) (h2:staB ⟨#[40]⟩ (.ok () (t :: r)) = false) (h3:staB ⟨#[116,114,117,101]⟩ (.ok () (t :: r)) = false) (h4:staB ⟨#[108,105,109,105,116]⟩ (.ok () (t :: r)) = false) (h5:staB ⟨#[111,118,101,114]⟩ (.ok () (t :: r)) = false) (h6:staB ⟨#[104,97,115]⟩ (.ok () (t :: r)) = false) (h7:staB ⟨#[115,108,111,116]⟩ (.ok () (t :: r)) = false) (h8:staB ⟨#[97,108,108]⟩ (.ok () (t :: r)) = false) (h9:staB ⟨#[97,110,121]⟩ (.ok () (t :: r)) = false) (h10:staB ⟨#[97,116]⟩ (.ok () (t :: r)) = false) (hn:¬ (t.kind = 1∧resB t.text = true)) {v0:ByteArray} {r3:List Fnd} (hq:((((Got.ok () (t :: r)).go (tokP E 1)).end.go (wantP E ⟨#[61]⟩)).end.go (tokP E 3)) = .ok v0 r3) (hv:200 < v0.size) :
    Calls Tryz.prog 51 #[.pointer (some ⟨g,0,none⟩)] w (Rx g E A c L (notP1 E one) (.ok () (t :: r)) w):=by
  have hlt:=h.lt
  have HF:=Lib.hid (Fr.start h)
  have HNO:=Lib.hid (took_no (g:=g) (E:=E) (A:=A) (c:=c) (L:=L) (.ok () (t :: r)))
  have HIN:=Lib.hid (is_st (g:=g) (E:=E) (A:=A) (c:=c) (L:=L) (.ok () (t :: r)) false)
  have HW1:=Lib.hid h1
  have HW2:=Lib.hid h2
  have HW3:=Lib.hid h3
  have HW4:=Lib.hid h4
  have HW5:=Lib.hid h5
  have HW6:=Lib.hid h6
  have HW7:=Lib.hid h7
  have HW8:=Lib.hid h8
  have HW9:=Lib.hid h9
  have HW10:=Lib.hid h10
  have HN:=Lib.hid hn
  have HGA:=Lib.hid (fun u hu=>h.tokG () _ rfl u hu)
  obtain ⟨s1,hs1⟩:∃ q,((Got.ok () (t :: r)).go (tokP E 1)).end = q:=⟨_,rfl⟩
  obtain ⟨s2,hs2⟩:∃ q,(s1.go (wantP E ⟨#[61]⟩)).end = q:=⟨_,rfl⟩
  rw [hs1,hs2] at hq
  obtain ⟨u,hsu,rfl,huk⟩:=tok_ok hq
  have HQ:=Lib.hid hq
  have HUK:=Lib.hid huk
  have HV:=Lib.hid hv
  have hv1:¬ (u.text.size:Int) < 1:=by omega
  have hv2:(200:Int) < (u.text.size:Int):=by omega
  have HT3:=Lib.hid (tok_st (g:=g) (A:=A) (c:=c) (L:=L) (E:=E) 3 (s:=s2) (s':=.ok () r3) (by rw [hq];rfl))
  clear hq huk hv
  subst hsu
  have HT1:=Lib.hid (tok_st (g:=g) (A:=A) (c:=c) (L:=L) 1 hs1)
  have HT2:=Lib.hid (skip_st (g:=g) (A:=A) (c:=c) (L:=L) ⟨#[61]⟩ hs2)
  have HE2:=Lib.hid hs2
  clear hs1 hs2 hn
  clear h h1 h2 h3 h4 h5 h6 h7 h8 h9 h10
  go_enter Tryz.func51,Tryz.ntmps51
  go_wp2_with (first
    | (go_at_call 50;refine (HNO.out _ _ HF.out.rs (by (first | exact HW1.out | exact HW2.out | exact HW3.out | exact HW4.out | exact HW5.out | exact HW6.out | exact HW7.out | exact HW8.out | exact HW9.out | exact HW10.out))).mono ?_;rintro _ w0 ⟨rfl,ha,hr⟩;replace HF:=Lib.hid (HF.out.call ha hr);clear ha hr)
    | (go_at_call 52;refine (HIN.out _ _ HF.out.rs (by (first | exact HW1.out | exact HW2.out | exact HW3.out | exact HW4.out | exact HW5.out | exact HW6.out | exact HW7.out | exact HW8.out | exact HW9.out | exact HW10.out))).mono ?_;rintro _ w0 ⟨rfl,ha,hr⟩;replace HF:=Lib.hid (HF.out.call ha hr);clear ha hr))
  obtain ⟨b,o,i,at0,rfl,hbg,hh1,ht,hi,hc,hL5,_,_,_,_,c1,c2,c3⟩:=HF.out.rs.tok
  obtain ⟨d0,f0⟩:=hh1.facts
  have hlt0:decide ((i:Int) < (L.length:Int)) = true:=decide_eq_true (by omega)
  have hki:(i:Int) < (L.length:Int):=by omega
  by_cases kk:t.kind = 1
  · have hres:resB t.text = false:=(by cases hx:resB t.text with | false=>rfl | true=>exact absurd ⟨kk,hx⟩ HN.out)
    rw [kk] at c1
    have HRES:=Lib.hid hres
    clear hh1 ht hi kk hres
    go_still_tail 36,(by kernel_rfl)
    change wpList _ _ _ _ _ w0.drew
    replace HF:=Lib.hid HF.out.drew
    generalize w0.drew = wq at *
    go_wp2_with (first
      | (go_at_call 80;refine (refReserved_any _ _).mono ?_;rintro _ w0 ⟨rfl,hb⟩;(try rw [HRES.out]);replace HF:=Lib.hid (HF.out.call (.of_below hb) (HF.out.rs.below hb));clear hb)
      | (go_at_call 27;refine (HT1.out _ (HF.out).rs).mono ?_;rintro _ w1 ⟨a,rfl,ha,hr,hst⟩;replace HF:=Lib.hid ((HF.out).call ha hr);have HS1:=Lib.hid hst;have HC:=Lib.hid (Has.new w1 24 #[.int .i64 7,.string a,.string ⟨#[]⟩,.int .i64 0,.int .i64 0,.slice none 0 0]);have HB:=Lib.hid HF.out.lt;clear HT1 ha hr hst)
      | (go_at_call 26;refine (HT2.out _ (HF.out.alloc _).rs).mono ?_;rintro _ w2 ⟨rfl,ha,hr⟩;replace HF:=Lib.hid ((HF.out.alloc _).call ha hr);replace HC:=Lib.hid (HC.out.aw ha (by have:=HB.out;omega) (by have:=HB.out;omega));clear HT2 ha hr)
      | (go_at_call 27;refine (HT3.out _ HF.out.rs).mono ?_;rintro _ w3 ⟨v,rfl,ha,hr,hst⟩;obtain ⟨i0,_,_,hT0,hle0,hdr0⟩:=HF.out.rs.obj;have HDR:=Lib.hid hdr0;have HLE:=Lib.hid (show i0+(r3.length+1) = L.length from hle0);have HL5:=Lib.hid hT0.2.2.1;clear hdr0 hle0 hT0;replace HF:=Lib.hid (HF.out.call ha hr);replace HC:=Lib.hid (HC.out.aw ha (by have:=HB.out;omega) (by have:=HB.out;omega));obtain ⟨d2,f2⟩:=(HC.out).facts;replace HF:=Lib.hid (HF.out.set (i:=2) (v:=.string v) HB.out);replace HC:=Lib.hid (show Has (w3.setCell ⟨w1.heap.size,2,none⟩ (.string v)) w1.heap.size 24 #[.int .i64 7,.string a,.string v,.int .i64 0,.int .i64 0,.slice none 0 0] from HC.out.put 2 (.string v));obtain ⟨d4,f4⟩:=(HC.out).facts;obtain ⟨d5,f5⟩:=(HF.out.res).facts;have hne:¬ w.heap.size = w1.heap.size:=(by have:=HB.out;omega);have hne2:¬ w1.heap.size = w.heap.size:=(by have:=HB.out;omega);obtain rfl:=hst.2 _ _ HQ.out;obtain ⟨⟨at9,h9⟩,hfb⟩:=HF.out.back i0 HDR.out HLE.out;obtain ⟨d9,f9⟩:=h9.facts;have HFB:=Lib.hid hfb;have HW:=Lib.hid (IntWalk.wrap64_in (i0:Int) (by have:=HLE.out;have:=HL5.out;omega));clear h9 hfb;clear HT3 ha hr hst)
      | (go_at_call 29;(try rw [HW.out]);refine (rfail_any 13 (by decide) (.ok () (u :: r3)) _ HFB.out.rs).mono ?_;rintro _ w5 ⟨rfl,ha,hr⟩;replace HF:=Lib.hid (HFB.out.call ha hr);replace HC:=Lib.hid ((HC.out.far ⟨g,1,none⟩ (by intro e;have e:w1.heap.size = g:=e;have:=HB.out;omega) _).aw ha (by have:=HB.out;omega) (by have:=HB.out;omega));obtain ⟨d6,f6⟩:=(HC.out).facts;obtain ⟨d5,f5⟩:=(HF.out.res).facts;clear ha hr))
    have HSix:=Lib.hid (six_has HF.out.res (.int .i64 7) (.string a) (.string u.text) (.int .i64 0) (.int .i64 0) (.slice none 0 0))
    have HFin:=Lib.hid (show Rx g E _ c L (notP1 E one) (.ok () (t :: r)) w (.returned (.agg #[.int .i64 7,.string a,.string u.text,.int .i64 0,.int .i64 0,.slice none 0 0])) (six w5 w.heap.size (.int .i64 7) (.string a) (.string u.text) (.int .i64 0) (.int .i64 0) (.slice none 0 0)) from HF.out.fin (Ex.mk 7 a u.text 0 0 []) (stp_is (n1_is HW2.out HN.out) HGA.out HS1.out HE2.out (stp3_no HUK.out (fun h=>by have h:=of_decide_eq_true h;have:=HV.out;omega) _)) (LayS.nil _ _))
    show bodyPost _ _ _ _ _ (six w5 w.heap.size (.int .i64 7) (.string a) (.string u.text) (.int .i64 0) (.int .i64 0) (.slice none 0 0))
    generalize six w5 w.heap.size (.int .i64 7) (.string a) (.string u.text) (.int .i64 0) (.int .i64 0) (.slice none 0 0) = W6 at *
    obtain ⟨d6,f6⟩:=HSix.out.facts
    refine bodyPost_ret (v:=.agg #[.int .i64 7,.string a,.string u.text,.int .i64 0,.int .i64 0,.slice none 0 0]) (by simp [results,Tryz.results51,go_sem,d6]) rfl ?_
    exact HFin.out
  · have kk1:(t.kind == 1) = false:=by simpa using kk
    clear hh1 ht hi kk
    go_quiet (fail)
    go_wp2_with (first
      | (go_at_call 27;refine (HT1.out _ (HF.out.drewN _).rs).mono ?_;rintro _ w1 ⟨a,rfl,ha,hr,hst⟩;replace HF:=Lib.hid ((HF.out.drewN _).call ha hr);have HS1:=Lib.hid hst;have HC:=Lib.hid (Has.new w1 24 #[.int .i64 7,.string a,.string ⟨#[]⟩,.int .i64 0,.int .i64 0,.slice none 0 0]);have HB:=Lib.hid HF.out.lt;clear HT1 ha hr hst)
      | (go_at_call 26;refine (HT2.out _ (HF.out.alloc _).rs).mono ?_;rintro _ w2 ⟨rfl,ha,hr⟩;replace HF:=Lib.hid ((HF.out.alloc _).call ha hr);replace HC:=Lib.hid (HC.out.aw ha (by have:=HB.out;omega) (by have:=HB.out;omega));clear HT2 ha hr)
      | (go_at_call 27;refine (HT3.out _ HF.out.rs).mono ?_;rintro _ w3 ⟨v,rfl,ha,hr,hst⟩;obtain ⟨i0,_,_,hT0,hle0,hdr0⟩:=HF.out.rs.obj;have HDR:=Lib.hid hdr0;have HLE:=Lib.hid (show i0+(r3.length+1) = L.length from hle0);have HL5:=Lib.hid hT0.2.2.1;clear hdr0 hle0 hT0;replace HF:=Lib.hid (HF.out.call ha hr);replace HC:=Lib.hid (HC.out.aw ha (by have:=HB.out;omega) (by have:=HB.out;omega));obtain ⟨d2,f2⟩:=(HC.out).facts;replace HF:=Lib.hid (HF.out.set (i:=2) (v:=.string v) HB.out);replace HC:=Lib.hid (show Has (w3.setCell ⟨w1.heap.size,2,none⟩ (.string v)) w1.heap.size 24 #[.int .i64 7,.string a,.string v,.int .i64 0,.int .i64 0,.slice none 0 0] from HC.out.put 2 (.string v));obtain ⟨d4,f4⟩:=(HC.out).facts;obtain ⟨d5,f5⟩:=(HF.out.res).facts;have hne:¬ w.heap.size = w1.heap.size:=(by have:=HB.out;omega);have hne2:¬ w1.heap.size = w.heap.size:=(by have:=HB.out;omega);obtain rfl:=hst.2 _ _ HQ.out;obtain ⟨⟨at9,h9⟩,hfb⟩:=HF.out.back i0 HDR.out HLE.out;obtain ⟨d9,f9⟩:=h9.facts;have HFB:=Lib.hid hfb;have HW:=Lib.hid (IntWalk.wrap64_in (i0:Int) (by have:=HLE.out;have:=HL5.out;omega));clear h9 hfb;clear HT3 ha hr hst)
      | (go_at_call 29;(try rw [HW.out]);refine (rfail_any 13 (by decide) (.ok () (u :: r3)) _ HFB.out.rs).mono ?_;rintro _ w5 ⟨rfl,ha,hr⟩;replace HF:=Lib.hid (HFB.out.call ha hr);replace HC:=Lib.hid ((HC.out.far ⟨g,1,none⟩ (by intro e;have e:w1.heap.size = g:=e;have:=HB.out;omega) _).aw ha (by have:=HB.out;omega) (by have:=HB.out;omega));obtain ⟨d6,f6⟩:=(HC.out).facts;obtain ⟨d5,f5⟩:=(HF.out.res).facts;clear ha hr))
    have HSix:=Lib.hid (six_has HF.out.res (.int .i64 7) (.string a) (.string u.text) (.int .i64 0) (.int .i64 0) (.slice none 0 0))
    have HFin:=Lib.hid (show Rx g E _ c L (notP1 E one) (.ok () (t :: r)) w (.returned (.agg #[.int .i64 7,.string a,.string u.text,.int .i64 0,.int .i64 0,.slice none 0 0])) (six w5 w.heap.size (.int .i64 7) (.string a) (.string u.text) (.int .i64 0) (.int .i64 0) (.slice none 0 0)) from HF.out.fin (Ex.mk 7 a u.text 0 0 []) (stp_is (n1_is HW2.out HN.out) HGA.out HS1.out HE2.out (stp3_no HUK.out (fun h=>by have h:=of_decide_eq_true h;have:=HV.out;omega) _)) (LayS.nil _ _))
    show bodyPost _ _ _ _ _ (six w5 w.heap.size (.int .i64 7) (.string a) (.string u.text) (.int .i64 0) (.int .i64 0) (.slice none 0 0))
    generalize six w5 w.heap.size (.int .i64 7) (.string a) (.string u.text) (.int .i64 0) (.int .i64 0) (.slice none 0 0) = W6 at *
    obtain ⟨d6,f6⟩:=HSix.out.facts
    refine bodyPost_ret (v:=.agg #[.int .i64 7,.string a,.string u.text,.int .i64 0,.int .i64 0,.slice none 0 0]) (by simp [results,Tryz.results51,go_sem,d6]) rfl ?_
    exact HFin.out
end
end Go.Proofs.YtppoeiofdmlpeaaGreatDoor
