/- The reference's parser: not and level, at whatever state. Condition: its object lies in memory, with no more tokens to come than the fuel says. bogieref20.Parse: the reference's parser gives what the program's does. Condition: the text lies in memory. -/
import Derived.Test.YtppoeiofdmlpeaaGreatDoorU15
import Derived.Test.YtppoeiofdmlpeaaGreatDoorYL
namespace Go.Proofs.YtppoeiofdmlpeaaGreatDoor
open Go Go.RowKit
section
variable {g:Nat} {E:Int} {A:Option Addr} {c:Nat} {L:List Fnd}
theorem rlev_of (k:Nat) (one:List Fnd→Got Ex) (hsh:∀ l' c r,one l' = .ok c r→r.length≤l'.length)
    (hone:∀ (s:Got Unit) (W:World),Fuel k s→Rs g E A c L W s→Calls Tryz.prog 51 #[.pointer (some ⟨g,0,none⟩)] W (Rx g E A c L one s W)) (s:Got Unit) (W:World) (hf:Fuel k s) (h:Rs g E A c L W s) :
    Calls Tryz.prog 28 #[.pointer (some ⟨g,0,none⟩),.int .i64 0] W (Rx g E A c L (condP one) s W) :=
  rlev0_any k (andP one) s W h hf (fun s1 W1 hf1 h1=>rlev1_any k one s1 W1 h1 hf1 (fun s2 W2 hf2 h2=>rlev2_any one s2 W2 h2 fun W3 h3=>hone s2 W3 hf2 h3) hsh) fun l' c r hq=>serP_len hsh l' c r hq
theorem rnot1_any (k:Nat) (one:List Fnd→Got Ex) (hsh:∀ l' c r,one l' = .ok c r→r.length≤l'.length)
    (hone:∀ (s:Got Unit) (W:World),Fuel k s→Rs g E A c L W s→Calls Tryz.prog 51 #[.pointer (some ⟨g,0,none⟩)] W (Rx g E A c L one s W)) (s:Got Unit) (w:World) (hf:Fuel (k+1) s) (h:Rs g E A c L w s) :
    Calls Tryz.prog 51 #[.pointer (some ⟨g,0,none⟩)] w (Rx g E A c L (notP1 E one) s w):=by
  have hl:=rlev_of k one hsh hone
  cases s with
  | bad e a=>exact rn_bad h
  | ok u l =>
    cases l with
    | nil=>exact rn_nil h
    | cons t r =>
      have hk:r.length≤k:=Nat.le_of_succ_le_succ (show r.length+1≤k+1 from hf)
      cases h1:staB ⟨#[110,111,116]⟩ (.ok () (t :: r)) with
      | true=>exact rn_not h h1 fun W hr=>hone _ W hk hr
      | false =>
        cases h2:staB ⟨#[40]⟩ (.ok () (t :: r)) with
        | true=>exact rn_open h h1 h2 hk hl
        | false =>
          cases h3:staB ⟨#[116,114,117,101]⟩ (.ok () (t :: r)) with
          | true=>exact rn_true h h1 h2 h3
          | false =>
            cases h4:staB ⟨#[108,105,109,105,116]⟩ (.ok () (t :: r)) with
            | true =>
              cases hp:staB ⟨#[112,108,117,115]⟩ (((Got.ok () r).go (tokP E 1)).end.go (numP E 0)).end with
              | false=>exact rn_limit h h1 h2 h3 h4 hp
              | true=>exact rn_limit_plus h h1 h2 h3 h4 hp
            | false =>
              cases h5:staB ⟨#[111,118,101,114]⟩ (.ok () (t :: r)) with
              | true=>exact rn_over h h1 h2 h3 h4 h5
              | false =>
                cases h6:staB ⟨#[104,97,115]⟩ (.ok () (t :: r)) with
                | true=>exact rn_has h h1 h2 h3 h4 h5 h6
                | false =>
                  cases h7:staB ⟨#[115,108,111,116]⟩ (.ok () (t :: r)) with
                  | true=>exact rn_slot h h1 h2 h3 h4 h5 h6 h7
                  | false =>
                    cases h8:staB ⟨#[97,108,108]⟩ (.ok () (t :: r)) with
                    | true=>exact rn_all h h1 h2 h3 h4 h5 h6 h7 h8 hk hl
                    | false =>
                      cases h9:staB ⟨#[97,110,121]⟩ (.ok () (t :: r)) with
                      | true=>exact rn_any h h1 h2 h3 h4 h5 h6 h7 h8 h9 hk hl
                      | false =>
                        cases h10:staB ⟨#[97,116]⟩ (.ok () (t :: r)) with
                        | true=>exact rn_at h h1 h2 h3 h4 h5 h6 h7 h8 h9 h10
                        | false =>
                          by_cases hn:t.kind = 1∧resB t.text = true
                          · exact rn_res h h1 h2 h3 h4 h5 h6 h7 h8 h9 h10 hn.1 hn.2
                          · cases hq:((((Got.ok () (t :: r)).go (tokP E 1)).end.go (wantP E ⟨#[61]⟩)).end.go (tokP E 3)) with
                            | bad e a=>exact rn_is_bad h h1 h2 h3 h4 h5 h6 h7 h8 h9 h10 hn hq
                            | ok v r3 =>
                              by_cases h11:v.size = 0
                              · exact rn_is_lo h h1 h2 h3 h4 h5 h6 h7 h8 h9 h10 hn hq h11
                              · by_cases h12:v.size≤200
                                · exact rn_is_ok h h1 h2 h3 h4 h5 h6 h7 h8 h9 h10 hn hq (decide_eq_true ⟨h11,h12⟩)
                                · exact rn_is_hi h h1 h2 h3 h4 h5 h6 h7 h8 h9 h10 hn hq (Nat.lt_of_not_le h12)
theorem rnot_any:∀ (k:Nat) (s:Got Unit) (w:World),Fuel k s→Rs g E A c L w s→Calls Tryz.prog 51 #[.pointer (some ⟨g,0,none⟩)] w (Rx g E A c L (notP E (k+1)) s w)
  | 0,s,w,hf,h=>by
    cases s with
    | bad e a=>exact rn_bad (one:=notP E 0) h
    | ok u l =>
      cases l with
      | nil=>exact rn_nil (one:=notP E 0) h
      | cons t r=>exact absurd (show r.length+1≤0 from hf) (by omega)
  | k+1,s,w,hf,h=>rnot1_any k (notP E (k+1)) (fun l' c r hq=>notP_len E _ l' c r hq) (fun s W hf h=>rnot_any k s W hf h) s w hf h
/-- A whole condition. -/
theorem rcondP_any (k:Nat) (s:Got Unit) (w:World) (hf:Fuel k s) (h:Rs g E A c L w s) :
    Calls Tryz.prog 28 #[.pointer (some ⟨g,0,none⟩),.int .i64 0] w (Rx g E A c L (condP (notP E (k+1))) s w) :=
  rlev_of k _ (fun l' c r hq=>notP_len E _ l' c r hq) (fun s W hf h=>rnot_any k s W hf h) s w hf h
end
end Go.Proofs.YtppoeiofdmlpeaaGreatDoor
namespace Go.Proofs.YtppoeiofdmlpeaaGreatDoor
open Go Go.RowKit
theorem stp_fails {α:Type} {f:List Fnd→Got α} {l:List Fnd} {e a:Int} {x:α} (h:Stp (.ok () l) f (.bad e a) x):f l = .bad e a:=by
  have h1:(f l).end = .bad e a:=h.1
  cases hq:f l with
  | bad e' a'=>rw [hq] at h1;injection h1 with h1 h2;rw [h1,h2]
  | ok y r=>rw [hq] at h1;cases h1
theorem stp_gives {α:Type} {f:List Fnd→Got α} {l r:List Fnd} {x:α} (h:Stp (.ok () l) f (.ok () r) x):f l = .ok x r:=by
  have h1:(f l).end = .ok () r:=h.1
  cases hq:f l with
  | bad e' a'=>rw [hq] at h1;cases h1
  | ok y r' =>
    rw [hq] at h1
    injection h1 with _ h1
    rw [h1,h.2 y r' hq]
theorem go_ok {α:Type} (l:List Fnd) (f:List Fnd→Got α):(Got.ok () l).go f = f l:=rfl
/-- What a rule comes to, step by step. -/
theorem stp_rule {E:Int} {l:List Fnd} {s1 s2 s3 s4 s5 s6 s7 s8:Got Unit} {a b:ByteArray} {cx:Ex} (g2:∀ u l,s1 = .ok u l→∀ t∈l,TokG t) (g4:∀ u l,s3 = .ok u l→∀ t∈l,TokG t)
    (h1:((Got.ok () l).go (wantP E wRule)).end = s1) (h2:Stp s1 (tokP E 1) s2 a) (h3:(s2.go (wantP E wFor)).end = s3) (h4:Stp s3 (tokP E 1) s4 b) (h5:(s4.go (wantP E wColon)).end = s5) (h6:Stp s5 (condP (notP E (l.length+1))) s6 cx) (h7:(s6.go (wantP E wSemi)).end = s7)
    (h8:Stp s7 (fun l=>match l with | []=>Got.ok (⟨a,b,cx⟩:Ru) [] | t :: _=>.bad 8 t.pos) s8 ⟨a,b,cx⟩):Stp (.ok () l) (ruleP E) s8 ⟨a,b,cx⟩ :=
  Stp.eq (f:=fun l1=>(wantP E wRule l1).bind fun _ r=>(nameP E r).bind fun a r1=>(wantP E wFor r1).bind fun _ r2=>(nameP E r2).bind fun b r3=>(wantP E wColon r3).bind fun _ r4=>(condP (notP E (l.length+1)) r4).bind fun c r5=>(wantP E wSemi r5).bind fun _ r6=>match r6 with | []=>.ok ⟨a,b,c⟩ [] | t :: _=>.bad 8 t.pos)
    ((Stp.skip h1).bind ((h2.name g2).bind ((Stp.skip h3).bind ((h4.name g4).bind ((Stp.skip h5).bind (h6.bind ((Stp.skip h7).bind h8))))))) (by rw [go_ok,go_ok];unfold ruleP;rfl)
/-- What stays while a rule is read: its own cells lie behind the parser's object. -/
structure Fp (g:Nat) (E:Int) (A:Option Addr) (c:Nat) (L:List Fnd) (w W:World) (s:Got Unit) (rc:Array Value):Prop where
  rs:Rs g E A c L W s
  b:Below w.heap.size w W
  res:Has W w.heap.size 26 zRu
  r:Has W (g+1) 26 rc
  hg:w.heap.size < g
section
variable {g:Nat} {E:Int} {A:Option Addr} {c:Nat} {L:List Fnd} {w W:World} {s:Got Unit} {rc:Array Value}
theorem Fp.call {W':World} {s':Got Unit} (h:Fp g E A c L w W s rc) (ha:Aw g g W W') (hr:Rs g E A c L W' s'):Fp g E A c L w W' s' rc :=
  ⟨hr,ha.below h.b (Nat.le_of_lt h.hg) (Nat.le_of_lt h.hg),h.res.aw ha (by have:=h.hg;omega) (by have:=h.hg;omega),h.r.aw ha (by omega) (by omega),h.hg⟩
theorem Fp.drewN (h:Fp g E A c L w W s rc) (n:Nat):Fp g E A c L w (W.drewN n) s rc :=
  ⟨h.rs.below (below_drewN (Below.refl _ _) _),below_drewN h.b _,h.res.drewN _,h.r.drewN _,h.hg⟩
theorem Fp.set (h:Fp g E A c L w W s rc) (i:Nat) (v:Value):Fp g E A c L w (W.setCell ⟨g+1,i,none⟩ v) s (rc.setIfInBounds i v) :=
  ⟨h.rs.on fun k hk=>heap_setCell_other _ ⟨g+1,i,none⟩ k _ (by intro e;have e:k = g+1:=e;omega),h.b.setCell (p:=⟨g+1,i,none⟩) (by have:=h.hg;show w.heap.size≤g+1;omega) v,h.res.far _ (by intro e;have e:w.heap.size = g+1:=e;have:=h.hg;omega) _,h.r.put i v,h.hg⟩
theorem Fp.six {b0 b1 a0 a1 a2 a3 a4 a5:Value} (h:Fp g E A c L w W s #[b0,b1,a0,a1,a2,a3,a4,a5]) (v0 v1 v2 v3 v4 v5:Value):Fp g E A c L w (six2 W (g+1) v0 v1 v2 v3 v4 v5) s #[b0,b1,v0,v1,v2,v3,v4,v5] :=
  ⟨h.rs.on fun k hk=>six2_old W (g+1) _ _ _ _ _ _ (by omega),six2_below h.b (by have:=h.hg;omega) _ _ _ _ _ _,(six2_old W (g+1) _ _ _ _ _ _ (by have:=h.hg;omega)).trans h.res,six2_has h.r _ _ _ _ _ _,h.hg⟩
theorem Fp.start {w w1:World} {l:List Fnd} (he:(∀ t∈l,t.text.size≤20000∧TokG t)∧l.length≤5000) (h0:Has w1 w.heap.size 26 zRu) (hb:Below w.heap.size w w1) {base:Nat} (ho:w1.ownsRow base 73 3 (.slice A l.length c) l.length (tokCells l)) (E:Int) :
    Fp w1.heap.size E A c l w ((w1.alloc (.cells #[.slice A l.length c,.int .i64 0,.int .i64 E,.int .i64 0,.int .i64 0] 56)).alloc (.cells zRu 26)) (.ok () l) zRu:=by
  have hz:(w1.alloc (.cells #[.slice A l.length c,.int .i64 0,.int .i64 E,.int .i64 0,.int .i64 0] 56)).heap.size = w1.heap.size+1:=World.size_alloc _ _
  have hlt:=h0.lt
  refine ⟨?_,(hb.alloc hb.size _).alloc (by rw [hz];have:=hb.size;omega) _,(h0.alloc _).alloc _,by rw [←hz];exact Has.new _ _ _,hlt⟩
  refine ⟨0,0,0,(Has.new _ _ _).alloc _,?_,Nat.zero_le _,rfl,rfl⟩
  rcases ho.2 with ⟨e,h0⟩ | ⟨k,cap,cur,e,hbk,hh,hn,hcm,hcs,ht⟩
  · injection e with e1 e2 e3
    subst e1
    subst e3
    exact ⟨by omega,by decide,he.2,he.1,.inl (List.eq_nil_of_length_eq_zero h0)⟩
  · injection e with e1 e2 e3
    subst e1
    subst e3
    have hk:k < w1.heap.size:=by
      rcases Nat.lt_or_ge k w1.heap.size with h | h
      · exact h
      · rw [Array.getElem?_eq_none h] at hh;cases hh
    refine ⟨hn,by unfold maxLen at hcm;omega,he.2,he.1,.inr ⟨k,0,rfl,hk,fun i hi=>?_⟩⟩
    obtain ⟨a1,a2,a3⟩:=tok_get l i hi
    have hh2:((w1.alloc (.cells #[.slice (some ⟨k,0,none⟩) l.length c,.int .i64 0,.int .i64 E,.int .i64 0,.int .i64 0] 56)).alloc (.cells zRu 26)).heap[k]? = some (.cells cur 73 (0,0)):=(Below.heap_alloc _ _ _ (by rw [hz];omega)).trans ((Below.heap_alloc w1 _ _ hk).trans hh)
    have get:∀ j u,j < l.length*3→(tokCells l)[j]? = some u→((w1.alloc (.cells #[.slice (some ⟨k,0,none⟩) l.length c,.int .i64 0,.int .i64 E,.int .i64 0,.int .i64 0] 56)).alloc (.cells zRu 26)).cell? ⟨k,0+j,none⟩ = some u:=fun j u hj hu=>by
      rw [Nat.zero_add,cell_of_row _ k j cur _ (0,0) hh2]
      rw [←ht,List.getElem?_take,if_pos hj] at hu
      simpa using hu
    exact ⟨get _ _ (by omega) a1,by rw [Nat.add_assoc];exact get _ _ (by omega) a2,by rw [Nat.add_assoc];exact get _ _ (by omega) a3⟩
end
set_option maxRecDepth 100000 in
set_option maxHeartbeats 8000000 in
theorem rparse_lex (s:ByteArray) (w:World) (hs:s.size≤maxLen) (he:(lexL s).2.1 ≠ 0):Calls Tryz.prog 12 #[.string s] w (PaR s w):=by
  have HP:=Lib.hid (show parseU s = (ru0,(lexL s).2.1,(lexL s).2.2) by unfold parseU;rw [if_pos he])
  have HL:=Lib.hid (refLex_any s)
  have hne:((lexL s).2.1 != 0) = true:=by simpa using he
  have HX:=Lib.hid (Has.new w 26 zRu)
  have HB0:=Lib.hid (show Below w.heap.size w (w.alloc (.cells zRu 26)) from (Below.refl _ _).alloc (Nat.le_refl _) _)
  generalize (lexL s).2.1 = er at *
  generalize (lexL s).2.2 = at' at *
  clear he
  go_enter Tryz.func12,Tryz.ntmps12
  go_wp2_with (go_at_call 25;refine (HL.out _ hs).mono ?_;rintro e w1 ⟨v,rfl,hown,hb⟩;obtain ⟨A,cc,rfl⟩:=own_val hown;have HX1:=Lib.hid (HX.out.below hb HX.out.lt);obtain ⟨d0,f0⟩:=HX1.out.facts;have HB:=Lib.hid (HB0.out.trans (hb.mono HB0.out.size));clear hown hb)
  have H8:=Lib.hid (show Has (eight w1 w.heap.size (.string ⟨#[]⟩) (.string ⟨#[]⟩) (.int .i64 0) (.string ⟨#[]⟩) (.string ⟨#[]⟩) (.int .i64 0) (.int .i64 0) (.slice none 0 0)) w.heap.size 26 zRu from six2_has ((HX1.out.put 0 (.string ⟨#[]⟩)).put 1 (.string ⟨#[]⟩)) _ _ _ _ _ _)
  have HB8:=Lib.hid (show Below w.heap.size w (eight w1 w.heap.size (.string ⟨#[]⟩) (.string ⟨#[]⟩) (.int .i64 0) (.string ⟨#[]⟩) (.string ⟨#[]⟩) (.int .i64 0) (.int .i64 0) (.slice none 0 0)) from (six2_below ((HB.out.setCell (p:=⟨w.heap.size,0,none⟩) (Nat.le_refl _) _).setCell (p:=⟨w.heap.size,1,none⟩) (Nat.le_refl _) _) (Nat.le_refl _) _ _ _ _ _ _))
  show bodyPost _ _ _ _ _ (eight w1 w.heap.size (.string ⟨#[]⟩) (.string ⟨#[]⟩) (.int .i64 0) (.string ⟨#[]⟩) (.string ⟨#[]⟩) (.int .i64 0) (.int .i64 0) (.slice none 0 0))
  generalize eight w1 w.heap.size (.string ⟨#[]⟩) (.string ⟨#[]⟩) (.int .i64 0) (.string ⟨#[]⟩) (.string ⟨#[]⟩) (.int .i64 0) (.int .i64 0) (.slice none 0 0) = W8 at *
  obtain ⟨q0,_⟩:=H8.out.facts
  refine bodyPost_ret (v:=.tuple #[.agg zRu,.int .i64 er,.int .i64 at']) (by simp [results,Tryz.results12,go_sem,q0]) rfl ?_
  exact ⟨.slice none 0 0,by rw [HP.out];rfl,by rw [HP.out];exact LayS.nil _ _,HB8.out⟩
set_option maxRecDepth 100000 in
set_option maxHeartbeats 8000000 in
theorem rparse_bad (s:ByteArray) (w:World) (hs:s.size≤maxLen) (he:(lexL s).2.1 = 0) (l:List Fnd) (hl:(lexL s).1 = l) (E:Int) (hE:(s.size:Int) = E) {e a0:Int} (hq:((((((((Got.ok () l).go (wantP E ⟨#[114,117,108,101]⟩)).end.go (tokP E 1)).end.go (wantP E ⟨#[102,111,114]⟩)).end.go (tokP E 1)).end.go (wantP E ⟨#[58]⟩)).end.go (condP (notP E (l.length+1)))).end.go (wantP E ⟨#[59]⟩)).end = .bad e a0):Calls Tryz.prog 12 #[.string s] w (PaR s w):=by
  have HT:=Lib.hid (show (∀ t∈l,t.text.size≤20000∧TokG t)∧l.length≤5000 by rw [←hl];exact ⟨lexL_tok he,(lexL_short s).1⟩)
  have HL:=Lib.hid (refLex_any s)
  rw [he] at HL
  have HL1:=Lib.hid hl
  have HX:=Lib.hid (Has.new w 26 zRu)
  have HB0:=Lib.hid (show Below w.heap.size w (w.alloc (.cells zRu 26)) from (Below.refl _ _).alloc (Nat.le_refl _) _)
  obtain ⟨s1,hs1⟩:∃ q,((Got.ok () l).go (wantP E ⟨#[114,117,108,101]⟩)).end = q:=⟨_,rfl⟩
  obtain ⟨s2,hs2⟩:∃ q,(s1.go (tokP E 1)).end = q:=⟨_,rfl⟩
  obtain ⟨s3,hs3⟩:∃ q,(s2.go (wantP E ⟨#[102,111,114]⟩)).end = q:=⟨_,rfl⟩
  obtain ⟨s4,hs4⟩:∃ q,(s3.go (tokP E 1)).end = q:=⟨_,rfl⟩
  obtain ⟨s5,hs5⟩:∃ q,(s4.go (wantP E ⟨#[58]⟩)).end = q:=⟨_,rfl⟩
  obtain ⟨s6,hs6⟩:∃ q,(s5.go (condP (notP E (l.length+1)))).end = q:=⟨_,rfl⟩
  obtain ⟨s7,hs7⟩:∃ q,(s6.go (wantP E ⟨#[59]⟩)).end = q:=⟨_,rfl⟩
  rw [hs1,hs2,hs3,hs4,hs5,hs6,hs7] at hq
  subst hq
  have HFu:=Lib.hid (show Fuel l.length s5 from Fuel.go (Fuel.go (Fuel.go (Fuel.go (Fuel.go (s:=.ok () l) (Nat.le_refl l.length) want_sh hs1) tok_sh hs2) want_sh hs3) tok_sh hs4) want_sh hs5)
  have HE1:=Lib.hid hs1
  have HE2:=Lib.hid hs2
  have HE3:=Lib.hid hs3
  have HE4:=Lib.hid hs4
  have HE5:=Lib.hid hs5
  have HE6:=Lib.hid hs6
  have HE7:=Lib.hid hs7
  have HPU:=Lib.hid (show parseU s = match ruleP E l with | .bad e a=>(ru0,e,a) | .ok r _=>if 60 < cnt r.cond then (ru0,7,0) else (r,0,0) by unfold parseU;rw [if_neg (by rw [he];exact fun h=>h rfl),hl,hE];rfl)
  have HM1:=Lib.hid True.intro
  have HM2:=Lib.hid True.intro
  have HM3:=Lib.hid True.intro
  have HM4:=Lib.hid True.intro
  have HM5:=Lib.hid True.intro
  have HM7:=Lib.hid True.intro
  clear hs1 hs2 hs3 hs4 hs5 hs6 hs7 hl he
  generalize (lexL s).2.2 = at' at *
  go_enter Tryz.func12,Tryz.ntmps12
  go_wp2_with (first
    | (go_at_call 25;refine (HL.out _ hs).mono ?_;rintro e w1 ⟨v,rfl,hown,hb⟩;rw [HL1.out] at hown;obtain ⟨A,cc,rfl⟩:=own_val hown;have HF:=Lib.hid (show Fp w1.heap.size E A cc l w _ (.ok () l) #[.string ⟨#[]⟩,.string ⟨#[]⟩,.int .i64 0,.string ⟨#[]⟩,.string ⟨#[]⟩,.int .i64 0,.int .i64 0,.slice none 0 0] from Fp.start (A:=A) (c:=cc) HT.out (HX.out.below hb HX.out.lt) (HB0.out.trans (hb.mono HB0.out.size)) hown E);clear hown hb)
    | (go_at_call 26;clear HM1;refine (skip_st ⟨#[114,117,108,101]⟩ HE1.out _ HF.out.rs).mono ?_;rintro _ w2 ⟨rfl,ha,hr⟩;replace HF:=Lib.hid (HF.out.call ha hr);clear ha hr)
    | (go_at_call 27;clear HM2;refine (tok_st 1 HE2.out _ HF.out.rs).mono ?_;rintro _ w3 ⟨a,rfl,ha,hr,hst⟩;have HG2:=Lib.hid HF.out.rs.tokG;have HS2:=Lib.hid hst;replace HF:=Lib.hid (HF.out.call ha hr);obtain ⟨d2,f2⟩:=HF.out.r.facts;replace HF:=Lib.hid (show Fp w1.heap.size E A cc l w (w3.setCell ⟨w1.heap.size+1,0,none⟩ (.string a)) s2 #[.string a,.string ⟨#[]⟩,.int .i64 0,.string ⟨#[]⟩,.string ⟨#[]⟩,.int .i64 0,.int .i64 0,.slice none 0 0] from HF.out.set 0 (.string a));clear ha hr hst)
    | (go_at_call 26;clear HM3;refine (skip_st ⟨#[102,111,114]⟩ HE3.out _ HF.out.rs).mono ?_;rintro _ w4 ⟨rfl,ha,hr⟩;replace HF:=Lib.hid (HF.out.call ha hr);clear ha hr)
    | (go_at_call 27;clear HM4;refine (tok_st 1 HE4.out _ HF.out.rs).mono ?_;rintro _ w5 ⟨b,rfl,ha,hr,hst⟩;have HG4:=Lib.hid HF.out.rs.tokG;have HS4:=Lib.hid hst;replace HF:=Lib.hid (HF.out.call ha hr);obtain ⟨d4,f4⟩:=HF.out.r.facts;replace HF:=Lib.hid (show Fp w1.heap.size E A cc l w (w5.setCell ⟨w1.heap.size+1,1,none⟩ (.string b)) s4 #[.string a,.string b,.int .i64 0,.string ⟨#[]⟩,.string ⟨#[]⟩,.int .i64 0,.int .i64 0,.slice none 0 0] from HF.out.set 1 (.string b));clear ha hr hst)
    | (go_at_call 26;clear HM5;refine (skip_st ⟨#[58]⟩ HE5.out _ HF.out.rs).mono ?_;rintro _ w6 ⟨rfl,ha,hr⟩;replace HF:=Lib.hid (HF.out.call ha hr);clear ha hr)
    | (go_at_call 28;refine (rcondP_any l.length _ _ HFu.out HF.out.rs).mono ?_;rintro _ w7 ⟨_,cx,rfl,⟨kv,rfl,hv⟩,ha,hr,hfit⟩;rw [HE6.out] at hr;obtain ⟨Ak,ck,rfl,_⟩:=hv.slice;have HLT:=Lib.hid HF.out.r.lt;have HS6:=Lib.hid (show Stp s5 (condP (notP E (l.length+1))) s6 cx from ⟨HE6.out,hfit⟩);replace HF:=Lib.hid (HF.out.call ha hr);obtain ⟨d6,f6⟩:=HF.out.r.facts;replace HF:=Lib.hid (HF.out.six (.int .i64 cx.op) (.string cx.name) (.string cx.value) (.int .i64 cx.n) (.int .i64 cx.extra) (.slice Ak cx.kids.length ck));have HV:=Lib.hid (show LayS (fun b=>w1.heap.size+2≤b) (six2 w7 (w1.heap.size+1) (.int .i64 cx.op) (.string cx.name) (.string cx.value) (.int .i64 cx.n) (.int .i64 cx.extra) (.slice Ak cx.kids.length ck)) (.slice Ak cx.kids.length ck) cx.kids from hv.on (fun b hb _=>six2_old w7 (w1.heap.size+1) _ _ _ _ _ _ (by have:=HLT.out;omega)) fun b hb _=>(by have:=HLT.out;omega));clear ha hr hfit hv)
    | (go_at_call 26;clear HM7;refine (skip_st ⟨#[59]⟩ HE7.out _ HF.out.rs).mono ?_;rintro _ w8 ⟨rfl,ha,hr⟩;replace HV:=Lib.hid (HV.out.on (T:=fun b=>w1.heap.size+2≤b) (fun b hb hlt=>ha.2.2.2.2 b hlt (by omega) (by omega)) fun b hb _=>hb);replace HF:=Lib.hid (HF.out.call ha hr);clear ha hr))
  obtain ⟨i,h1,hi,hne,_⟩:=HF.out.rs.bad
  obtain ⟨d8,f8⟩:=h1.facts
  have hd1:(e == 0) = false:=by simpa using hne
  have hd2:(e != 0) = true:=by simpa using hne
  obtain ⟨d9,f9⟩:=HF.out.res.facts
  have hn1:¬ w.heap.size = w1.heap.size:=by have:=HF.out.hg;omega
  have hn2:¬ w1.heap.size = w.heap.size:=by omega
  clear h1 hi hne
  go_quiet (fail)
  go_wp2_with fail
  go_region
  have HP:=Lib.hid (show parseU s = (ru0,e,a0) by rw [HPU.out,stp_fails (stp_rule HG2.out HG4.out HE1.out HS2.out HE3.out HS4.out HE5.out HS6.out HE7.out (s8:=.bad e a0) (Stp.bad rfl _))])
  have HR9:=Lib.hid (HF.out.res.drewN (nq+1))
  have HB9:=Lib.hid (show Below w.heap.size w (w8.drewN (nq+1)) from below_drewN HF.out.b _)
  have H8:=Lib.hid (show Has (eight (w8.drewN (nq+1)) w.heap.size (.string ⟨#[]⟩) (.string ⟨#[]⟩) (.int .i64 0) (.string ⟨#[]⟩) (.string ⟨#[]⟩) (.int .i64 0) (.int .i64 0) (.slice none 0 0)) w.heap.size 26 zRu from (six2_has ((HR9.out.put 0 _).put 1 _) _ _ _ _ _ _))
  have HB8:=Lib.hid (show Below w.heap.size w (eight (w8.drewN (nq+1)) w.heap.size (.string ⟨#[]⟩) (.string ⟨#[]⟩) (.int .i64 0) (.string ⟨#[]⟩) (.string ⟨#[]⟩) (.int .i64 0) (.int .i64 0) (.slice none 0 0)) from (six2_below ((HB9.out.setCell (p:=⟨w.heap.size,0,none⟩) (Nat.le_refl _) _).setCell (p:=⟨w.heap.size,1,none⟩) (Nat.le_refl _) _) (Nat.le_refl _) _ _ _ _ _ _))
  change Exit.then _ _ _ _ (eight (w8.drewN (nq+1)) w.heap.size (.string ⟨#[]⟩) (.string ⟨#[]⟩) (.int .i64 0) (.string ⟨#[]⟩) (.string ⟨#[]⟩) (.int .i64 0) (.int .i64 0) (.slice none 0 0))
  generalize eight (w8.drewN (nq+1)) w.heap.size (.string ⟨#[]⟩) (.string ⟨#[]⟩) (.int .i64 0) (.string ⟨#[]⟩) (.string ⟨#[]⟩) (.int .i64 0) (.int .i64 0) (.slice none 0 0) = W8 at *
  obtain ⟨q0,_⟩:=H8.out.facts
  go_wp2_with fail
  refine bodyPost_ret (v:=.tuple #[.agg zRu,.int .i64 e,.int .i64 a0]) (by simp [results,Tryz.results12,go_sem,q0]) rfl ?_
  exact ⟨.slice none 0 0,by rw [HP.out];rfl,by rw [HP.out];exact LayS.nil _ _,HB8.out⟩
set_option maxRecDepth 100000 in
set_option maxHeartbeats 8000000 in
theorem rparse_left (s:ByteArray) (w:World) (hs:s.size≤maxLen) (he:(lexL s).2.1 = 0) (l:List Fnd) (hl:(lexL s).1 = l) (E:Int) (hE:(s.size:Int) = E) {t:Fnd} {r:List Fnd} (hq:((((((((Got.ok () l).go (wantP E ⟨#[114,117,108,101]⟩)).end.go (tokP E 1)).end.go (wantP E ⟨#[102,111,114]⟩)).end.go (tokP E 1)).end.go (wantP E ⟨#[58]⟩)).end.go (condP (notP E (l.length+1)))).end.go (wantP E ⟨#[59]⟩)).end = .ok () (t :: r)):Calls Tryz.prog 12 #[.string s] w (PaR s w):=by
  have HT:=Lib.hid (show (∀ t∈l,t.text.size≤20000∧TokG t)∧l.length≤5000 by rw [←hl];exact ⟨lexL_tok he,(lexL_short s).1⟩)
  have HL:=Lib.hid (refLex_any s)
  rw [he] at HL
  have HL1:=Lib.hid hl
  have HX:=Lib.hid (Has.new w 26 zRu)
  have HB0:=Lib.hid (show Below w.heap.size w (w.alloc (.cells zRu 26)) from (Below.refl _ _).alloc (Nat.le_refl _) _)
  obtain ⟨s1,hs1⟩:∃ q,((Got.ok () l).go (wantP E ⟨#[114,117,108,101]⟩)).end = q:=⟨_,rfl⟩
  obtain ⟨s2,hs2⟩:∃ q,(s1.go (tokP E 1)).end = q:=⟨_,rfl⟩
  obtain ⟨s3,hs3⟩:∃ q,(s2.go (wantP E ⟨#[102,111,114]⟩)).end = q:=⟨_,rfl⟩
  obtain ⟨s4,hs4⟩:∃ q,(s3.go (tokP E 1)).end = q:=⟨_,rfl⟩
  obtain ⟨s5,hs5⟩:∃ q,(s4.go (wantP E ⟨#[58]⟩)).end = q:=⟨_,rfl⟩
  obtain ⟨s6,hs6⟩:∃ q,(s5.go (condP (notP E (l.length+1)))).end = q:=⟨_,rfl⟩
  obtain ⟨s7,hs7⟩:∃ q,(s6.go (wantP E ⟨#[59]⟩)).end = q:=⟨_,rfl⟩
  rw [hs1,hs2,hs3,hs4,hs5,hs6,hs7] at hq
  subst hq
  have HFu:=Lib.hid (show Fuel l.length s5 from Fuel.go (Fuel.go (Fuel.go (Fuel.go (Fuel.go (s:=.ok () l) (Nat.le_refl l.length) want_sh hs1) tok_sh hs2) want_sh hs3) tok_sh hs4) want_sh hs5)
  have HE1:=Lib.hid hs1
  have HE2:=Lib.hid hs2
  have HE3:=Lib.hid hs3
  have HE4:=Lib.hid hs4
  have HE5:=Lib.hid hs5
  have HE6:=Lib.hid hs6
  have HE7:=Lib.hid hs7
  have HPU:=Lib.hid (show parseU s = match ruleP E l with | .bad e a=>(ru0,e,a) | .ok r _=>if 60 < cnt r.cond then (ru0,7,0) else (r,0,0) by unfold parseU;rw [if_neg (by rw [he];exact fun h=>h rfl),hl,hE];rfl)
  have HM1:=Lib.hid True.intro
  have HM2:=Lib.hid True.intro
  have HM3:=Lib.hid True.intro
  have HM4:=Lib.hid True.intro
  have HM5:=Lib.hid True.intro
  have HM7:=Lib.hid True.intro
  clear hs1 hs2 hs3 hs4 hs5 hs6 hs7 hl he
  generalize (lexL s).2.2 = at' at *
  go_enter Tryz.func12,Tryz.ntmps12
  go_wp2_with (first
    | (go_at_call 25;refine (HL.out _ hs).mono ?_;rintro e w1 ⟨v,rfl,hown,hb⟩;rw [HL1.out] at hown;obtain ⟨A,cc,rfl⟩:=own_val hown;have HF:=Lib.hid (show Fp w1.heap.size E A cc l w _ (.ok () l) #[.string ⟨#[]⟩,.string ⟨#[]⟩,.int .i64 0,.string ⟨#[]⟩,.string ⟨#[]⟩,.int .i64 0,.int .i64 0,.slice none 0 0] from Fp.start (A:=A) (c:=cc) HT.out (HX.out.below hb HX.out.lt) (HB0.out.trans (hb.mono HB0.out.size)) hown E);clear hown hb)
    | (go_at_call 26;clear HM1;refine (skip_st ⟨#[114,117,108,101]⟩ HE1.out _ HF.out.rs).mono ?_;rintro _ w2 ⟨rfl,ha,hr⟩;replace HF:=Lib.hid (HF.out.call ha hr);clear ha hr)
    | (go_at_call 27;clear HM2;refine (tok_st 1 HE2.out _ HF.out.rs).mono ?_;rintro _ w3 ⟨a,rfl,ha,hr,hst⟩;have HG2:=Lib.hid HF.out.rs.tokG;have HS2:=Lib.hid hst;replace HF:=Lib.hid (HF.out.call ha hr);obtain ⟨d2,f2⟩:=HF.out.r.facts;replace HF:=Lib.hid (show Fp w1.heap.size E A cc l w (w3.setCell ⟨w1.heap.size+1,0,none⟩ (.string a)) s2 #[.string a,.string ⟨#[]⟩,.int .i64 0,.string ⟨#[]⟩,.string ⟨#[]⟩,.int .i64 0,.int .i64 0,.slice none 0 0] from HF.out.set 0 (.string a));clear ha hr hst)
    | (go_at_call 26;clear HM3;refine (skip_st ⟨#[102,111,114]⟩ HE3.out _ HF.out.rs).mono ?_;rintro _ w4 ⟨rfl,ha,hr⟩;replace HF:=Lib.hid (HF.out.call ha hr);clear ha hr)
    | (go_at_call 27;clear HM4;refine (tok_st 1 HE4.out _ HF.out.rs).mono ?_;rintro _ w5 ⟨b,rfl,ha,hr,hst⟩;have HG4:=Lib.hid HF.out.rs.tokG;have HS4:=Lib.hid hst;replace HF:=Lib.hid (HF.out.call ha hr);obtain ⟨d4,f4⟩:=HF.out.r.facts;replace HF:=Lib.hid (show Fp w1.heap.size E A cc l w (w5.setCell ⟨w1.heap.size+1,1,none⟩ (.string b)) s4 #[.string a,.string b,.int .i64 0,.string ⟨#[]⟩,.string ⟨#[]⟩,.int .i64 0,.int .i64 0,.slice none 0 0] from HF.out.set 1 (.string b));clear ha hr hst)
    | (go_at_call 26;clear HM5;refine (skip_st ⟨#[58]⟩ HE5.out _ HF.out.rs).mono ?_;rintro _ w6 ⟨rfl,ha,hr⟩;replace HF:=Lib.hid (HF.out.call ha hr);clear ha hr)
    | (go_at_call 28;refine (rcondP_any l.length _ _ HFu.out HF.out.rs).mono ?_;rintro _ w7 ⟨_,cx,rfl,⟨kv,rfl,hv⟩,ha,hr,hfit⟩;rw [HE6.out] at hr;obtain ⟨Ak,ck,rfl,_⟩:=hv.slice;have HLT:=Lib.hid HF.out.r.lt;have HS6:=Lib.hid (show Stp s5 (condP (notP E (l.length+1))) s6 cx from ⟨HE6.out,hfit⟩);replace HF:=Lib.hid (HF.out.call ha hr);obtain ⟨d6,f6⟩:=HF.out.r.facts;replace HF:=Lib.hid (HF.out.six (.int .i64 cx.op) (.string cx.name) (.string cx.value) (.int .i64 cx.n) (.int .i64 cx.extra) (.slice Ak cx.kids.length ck));have HV:=Lib.hid (show LayS (fun b=>w1.heap.size+2≤b) (six2 w7 (w1.heap.size+1) (.int .i64 cx.op) (.string cx.name) (.string cx.value) (.int .i64 cx.n) (.int .i64 cx.extra) (.slice Ak cx.kids.length ck)) (.slice Ak cx.kids.length ck) cx.kids from hv.on (fun b hb _=>six2_old w7 (w1.heap.size+1) _ _ _ _ _ _ (by have:=HLT.out;omega)) fun b hb _=>(by have:=HLT.out;omega));clear ha hr hfit hv)
    | (go_at_call 26;clear HM7;refine (skip_st ⟨#[59]⟩ HE7.out _ HF.out.rs).mono ?_;rintro _ w8 ⟨rfl,ha,hr⟩;replace HV:=Lib.hid (HV.out.on (T:=fun b=>w1.heap.size+2≤b) (fun b hb hlt=>ha.2.2.2.2 b hlt (by omega) (by omega)) fun b hb _=>hb);replace HF:=Lib.hid (HF.out.call ha hr);clear ha hr))
  obtain ⟨b1,o1,i,at1,rfl,hbg,hh1,ht,hi,hc,hL5,_,_,_,_,c1,c2,c3⟩:=HF.out.rs.tok
  obtain ⟨d8,f8⟩:=hh1.facts
  have hlt0:decide ((i:Int) < (l.length:Int)) = true:=decide_eq_true (by omega)
  have hki:(i:Int) < (l.length:Int):=by omega
  clear hh1 ht
  go_quiet (fail)
  have HFQ:=Lib.hid (HF.out.drewN nq)
  go_wp2_with (go_at_call 29;refine (rfail_any 8 (by decide) (.ok () (t :: r)) _ HFQ.out.rs).mono ?_;rintro _ w9 ⟨rfl,ha,hr⟩;replace HF:=Lib.hid (HFQ.out.call ha (show Rs w1.heap.size E (some ⟨b1,o1,none⟩) cc l w9 (.bad 8 t.pos) from hr));obtain ⟨i2,h2,_,_,_⟩:=HF.out.rs.bad;obtain ⟨d7,f7⟩:=h2.facts;obtain ⟨d9,f9⟩:=HF.out.res.facts;have hn1:¬ w.heap.size = w1.heap.size:=(by have:=HF.out.hg;omega);have hn2:¬ w1.heap.size = w.heap.size:=(by omega);clear ha hr h2)
  go_region
  have HP:=Lib.hid (show parseU s = (ru0,8,t.pos) by rw [HPU.out,stp_fails (stp_rule HG2.out HG4.out HE1.out HS2.out HE3.out HS4.out HE5.out HS6.out HE7.out (s8:=.bad 8 t.pos) (Stp.bad rfl _))])
  have HR9:=Lib.hid HF.out.res
  have HB9:=Lib.hid HF.out.b
  have H8:=Lib.hid (show Has ((eight (w9) w.heap.size (.string ⟨#[]⟩) (.string ⟨#[]⟩) (.int .i64 0) (.string ⟨#[]⟩) (.string ⟨#[]⟩) (.int .i64 0) (.int .i64 0) (.slice none 0 0)).drew) w.heap.size 26 zRu from Has.drew (six2_has ((HR9.out.put 0 _).put 1 _) _ _ _ _ _ _))
  have HB8:=Lib.hid (show Below w.heap.size w ((eight (w9) w.heap.size (.string ⟨#[]⟩) (.string ⟨#[]⟩) (.int .i64 0) (.string ⟨#[]⟩) (.string ⟨#[]⟩) (.int .i64 0) (.int .i64 0) (.slice none 0 0)).drew) from Below.drew (six2_below ((HB9.out.setCell (p:=⟨w.heap.size,0,none⟩) (Nat.le_refl _) _).setCell (p:=⟨w.heap.size,1,none⟩) (Nat.le_refl _) _) (Nat.le_refl _) _ _ _ _ _ _))
  change Exit.then _ _ _ _ ((eight (w9) w.heap.size (.string ⟨#[]⟩) (.string ⟨#[]⟩) (.int .i64 0) (.string ⟨#[]⟩) (.string ⟨#[]⟩) (.int .i64 0) (.int .i64 0) (.slice none 0 0)).drew)
  generalize (eight (w9) w.heap.size (.string ⟨#[]⟩) (.string ⟨#[]⟩) (.int .i64 0) (.string ⟨#[]⟩) (.string ⟨#[]⟩) (.int .i64 0) (.int .i64 0) (.slice none 0 0)).drew = W8 at *
  obtain ⟨q0,_⟩:=H8.out.facts
  go_wp2_with fail
  refine bodyPost_ret (v:=.tuple #[.agg zRu,.int .i64 8,.int .i64 t.pos]) (by simp [results,Tryz.results12,go_sem,q0]) rfl ?_
  exact ⟨.slice none 0 0,by rw [HP.out];rfl,by rw [HP.out];exact LayS.nil _ _,HB8.out⟩
/-- The number of nodes, against sixty. -/
theorem nd_many {e:Ex} (h:60 < cnt e):(60:Int) < ((ndN e 60:Nat):Int):=by unfold ndN;omega
theorem nd_few {e:Ex} (h:¬ 60 < cnt e):¬ (60:Int) < ((ndN e 60:Nat):Int):=by unfold ndN;omega
set_option maxRecDepth 100000 in
set_option maxHeartbeats 8000000 in
theorem rparse_many (s:ByteArray) (w:World) (hs:s.size≤maxLen) (he:(lexL s).2.1 = 0) (l:List Fnd) (hl:(lexL s).1 = l) (E:Int) (hE:(s.size:Int) = E) (hq:((((((((Got.ok () l).go (wantP E ⟨#[114,117,108,101]⟩)).end.go (tokP E 1)).end.go (wantP E ⟨#[102,111,114]⟩)).end.go (tokP E 1)).end.go (wantP E ⟨#[58]⟩)).end.go (condP (notP E (l.length+1)))).end.go (wantP E ⟨#[59]⟩)).end = .ok () []) (hc:∀ x,ruleP E l = .ok x []→60 < cnt x.cond):Calls Tryz.prog 12 #[.string s] w (PaR s w):=by
  have HT:=Lib.hid (show (∀ t∈l,t.text.size≤20000∧TokG t)∧l.length≤5000 by rw [←hl];exact ⟨lexL_tok he,(lexL_short s).1⟩)
  have HL:=Lib.hid (refLex_any s)
  rw [he] at HL
  have HL1:=Lib.hid hl
  have HX:=Lib.hid (Has.new w 26 zRu)
  have HB0:=Lib.hid (show Below w.heap.size w (w.alloc (.cells zRu 26)) from (Below.refl _ _).alloc (Nat.le_refl _) _)
  obtain ⟨s1,hs1⟩:∃ q,((Got.ok () l).go (wantP E ⟨#[114,117,108,101]⟩)).end = q:=⟨_,rfl⟩
  obtain ⟨s2,hs2⟩:∃ q,(s1.go (tokP E 1)).end = q:=⟨_,rfl⟩
  obtain ⟨s3,hs3⟩:∃ q,(s2.go (wantP E ⟨#[102,111,114]⟩)).end = q:=⟨_,rfl⟩
  obtain ⟨s4,hs4⟩:∃ q,(s3.go (tokP E 1)).end = q:=⟨_,rfl⟩
  obtain ⟨s5,hs5⟩:∃ q,(s4.go (wantP E ⟨#[58]⟩)).end = q:=⟨_,rfl⟩
  obtain ⟨s6,hs6⟩:∃ q,(s5.go (condP (notP E (l.length+1)))).end = q:=⟨_,rfl⟩
  obtain ⟨s7,hs7⟩:∃ q,(s6.go (wantP E ⟨#[59]⟩)).end = q:=⟨_,rfl⟩
  rw [hs1,hs2,hs3,hs4,hs5,hs6,hs7] at hq
  subst hq
  have HFu:=Lib.hid (show Fuel l.length s5 from Fuel.go (Fuel.go (Fuel.go (Fuel.go (Fuel.go (s:=.ok () l) (Nat.le_refl l.length) want_sh hs1) tok_sh hs2) want_sh hs3) tok_sh hs4) want_sh hs5)
  have HE1:=Lib.hid hs1
  have HE2:=Lib.hid hs2
  have HE3:=Lib.hid hs3
  have HE4:=Lib.hid hs4
  have HE5:=Lib.hid hs5
  have HE6:=Lib.hid hs6
  have HE7:=Lib.hid hs7
  have HPU:=Lib.hid (show parseU s = match ruleP E l with | .bad e a=>(ru0,e,a) | .ok r _=>if 60 < cnt r.cond then (ru0,7,0) else (r,0,0) by unfold parseU;rw [if_neg (by rw [he];exact fun h=>h rfl),hl,hE];rfl)
  have HM1:=Lib.hid True.intro
  have HM2:=Lib.hid True.intro
  have HM3:=Lib.hid True.intro
  have HM4:=Lib.hid True.intro
  have HM5:=Lib.hid True.intro
  have HM7:=Lib.hid True.intro
  clear hs1 hs2 hs3 hs4 hs5 hs6 hs7 hl he
  generalize (lexL s).2.2 = at' at *
  go_enter Tryz.func12,Tryz.ntmps12
  go_wp2_with (first
    | (go_at_call 25;refine (HL.out _ hs).mono ?_;rintro e w1 ⟨v,rfl,hown,hb⟩;rw [HL1.out] at hown;obtain ⟨A,cc,rfl⟩:=own_val hown;have HF:=Lib.hid (show Fp w1.heap.size E A cc l w _ (.ok () l) #[.string ⟨#[]⟩,.string ⟨#[]⟩,.int .i64 0,.string ⟨#[]⟩,.string ⟨#[]⟩,.int .i64 0,.int .i64 0,.slice none 0 0] from Fp.start (A:=A) (c:=cc) HT.out (HX.out.below hb HX.out.lt) (HB0.out.trans (hb.mono HB0.out.size)) hown E);clear hown hb)
    | (go_at_call 26;clear HM1;refine (skip_st ⟨#[114,117,108,101]⟩ HE1.out _ HF.out.rs).mono ?_;rintro _ w2 ⟨rfl,ha,hr⟩;replace HF:=Lib.hid (HF.out.call ha hr);clear ha hr)
    | (go_at_call 27;clear HM2;refine (tok_st 1 HE2.out _ HF.out.rs).mono ?_;rintro _ w3 ⟨a,rfl,ha,hr,hst⟩;have HG2:=Lib.hid HF.out.rs.tokG;have HS2:=Lib.hid hst;replace HF:=Lib.hid (HF.out.call ha hr);obtain ⟨d2,f2⟩:=HF.out.r.facts;replace HF:=Lib.hid (show Fp w1.heap.size E A cc l w (w3.setCell ⟨w1.heap.size+1,0,none⟩ (.string a)) s2 #[.string a,.string ⟨#[]⟩,.int .i64 0,.string ⟨#[]⟩,.string ⟨#[]⟩,.int .i64 0,.int .i64 0,.slice none 0 0] from HF.out.set 0 (.string a));clear ha hr hst)
    | (go_at_call 26;clear HM3;refine (skip_st ⟨#[102,111,114]⟩ HE3.out _ HF.out.rs).mono ?_;rintro _ w4 ⟨rfl,ha,hr⟩;replace HF:=Lib.hid (HF.out.call ha hr);clear ha hr)
    | (go_at_call 27;clear HM4;refine (tok_st 1 HE4.out _ HF.out.rs).mono ?_;rintro _ w5 ⟨b,rfl,ha,hr,hst⟩;have HG4:=Lib.hid HF.out.rs.tokG;have HS4:=Lib.hid hst;replace HF:=Lib.hid (HF.out.call ha hr);obtain ⟨d4,f4⟩:=HF.out.r.facts;replace HF:=Lib.hid (show Fp w1.heap.size E A cc l w (w5.setCell ⟨w1.heap.size+1,1,none⟩ (.string b)) s4 #[.string a,.string b,.int .i64 0,.string ⟨#[]⟩,.string ⟨#[]⟩,.int .i64 0,.int .i64 0,.slice none 0 0] from HF.out.set 1 (.string b));clear ha hr hst)
    | (go_at_call 26;clear HM5;refine (skip_st ⟨#[58]⟩ HE5.out _ HF.out.rs).mono ?_;rintro _ w6 ⟨rfl,ha,hr⟩;replace HF:=Lib.hid (HF.out.call ha hr);clear ha hr)
    | (go_at_call 28;refine (rcondP_any l.length _ _ HFu.out HF.out.rs).mono ?_;rintro _ w7 ⟨_,cx,rfl,⟨kv,rfl,hv⟩,ha,hr,hfit⟩;rw [HE6.out] at hr;obtain ⟨Ak,ck,rfl,_⟩:=hv.slice;have HLT:=Lib.hid HF.out.r.lt;have HS6:=Lib.hid (show Stp s5 (condP (notP E (l.length+1))) s6 cx from ⟨HE6.out,hfit⟩);replace HF:=Lib.hid (HF.out.call ha hr);obtain ⟨d6,f6⟩:=HF.out.r.facts;replace HF:=Lib.hid (HF.out.six (.int .i64 cx.op) (.string cx.name) (.string cx.value) (.int .i64 cx.n) (.int .i64 cx.extra) (.slice Ak cx.kids.length ck));have HV:=Lib.hid (show LayS (fun b=>w1.heap.size+2≤b) (six2 w7 (w1.heap.size+1) (.int .i64 cx.op) (.string cx.name) (.string cx.value) (.int .i64 cx.n) (.int .i64 cx.extra) (.slice Ak cx.kids.length ck)) (.slice Ak cx.kids.length ck) cx.kids from hv.on (fun b hb _=>six2_old w7 (w1.heap.size+1) _ _ _ _ _ _ (by have:=HLT.out;omega)) fun b hb _=>(by have:=HLT.out;omega));clear ha hr hfit hv)
    | (go_at_call 26;clear HM7;refine (skip_st ⟨#[59]⟩ HE7.out _ HF.out.rs).mono ?_;rintro _ w8 ⟨rfl,ha,hr⟩;replace HV:=Lib.hid (HV.out.on (T:=fun b=>w1.heap.size+2≤b) (fun b hb hlt=>ha.2.2.2.2 b hlt (by omega) (by omega)) fun b hb _=>hb);replace HF:=Lib.hid (HF.out.call ha hr);clear ha hr))
  obtain ⟨at1,h1,_⟩:=HF.out.rs.nil
  obtain ⟨d8,f8⟩:=h1.facts
  have hlt0:decide ((l.length:Int) < (l.length:Int)) = false:=decide_eq_false (Int.lt_irrefl _)
  obtain ⟨d9,f9⟩:=HF.out.res.facts
  have hn1:¬ w.heap.size = w1.heap.size:=by have:=HF.out.hg;omega
  have hn2:¬ w1.heap.size = w.heap.size:=by omega
  obtain ⟨d10,f10⟩:=HF.out.r.facts
  have HRU:=Lib.hid (show ruleP E l = .ok ⟨a,b,cx⟩ [] from stp_gives (stp_rule HG2.out HG4.out HE1.out HS2.out HE3.out HS4.out HE5.out HS6.out HE7.out (Stp.pure (.ok () []) _)))
  clear h1
  go_quiet (fail)
  have HC:=Lib.hid (show 60 < cnt cx from hc _ HRU.out)
  clear hc
  go_wp2_with (go_at_call 16;refine (nodes_any cx 60 _ _ (by decide) (HV.out.any.later (below_drewN (Below.refl _ _) nq))).mono ?_;rintro _ w9 ⟨rfl,hb9⟩;have hnd:=nd_many HC.out;generalize ndN cx 60 = nd at *;have HBQ:=Lib.hid (show Below w8.heap.size w8 w9 from (below_drewN (Below.refl _ _) nq).trans hb9);have HR9:=Lib.hid (HF.out.res.below HBQ.out HF.out.res.lt);have HB9:=Lib.hid (HF.out.b.trans (HBQ.out.mono HF.out.b.size));clear d8 f8 d9 f9 d10 f10;obtain ⟨d11,f11⟩:=HR9.out.facts;obtain ⟨d12,f12⟩:=(HF.out.r.below HBQ.out HF.out.r.lt).facts;clear hb9)
  have HP:=Lib.hid (show parseU s = (ru0,7,0) by rw [HPU.out,HRU.out];exact if_pos HC.out)
  have H8:=Lib.hid (show Has (eight w9 w.heap.size (.string ⟨#[]⟩) (.string ⟨#[]⟩) (.int .i64 0) (.string ⟨#[]⟩) (.string ⟨#[]⟩) (.int .i64 0) (.int .i64 0) (.slice none 0 0)) w.heap.size 26 zRu from (six2_has ((HR9.out.put 0 _).put 1 _) _ _ _ _ _ _))
  have HB8:=Lib.hid (show Below w.heap.size w (eight w9 w.heap.size (.string ⟨#[]⟩) (.string ⟨#[]⟩) (.int .i64 0) (.string ⟨#[]⟩) (.string ⟨#[]⟩) (.int .i64 0) (.int .i64 0) (.slice none 0 0)) from (six2_below ((HB9.out.setCell (p:=⟨w.heap.size,0,none⟩) (Nat.le_refl _) _).setCell (p:=⟨w.heap.size,1,none⟩) (Nat.le_refl _) _) (Nat.le_refl _) _ _ _ _ _ _))
  change bodyPost _ _ _ _ _ (eight w9 w.heap.size (.string ⟨#[]⟩) (.string ⟨#[]⟩) (.int .i64 0) (.string ⟨#[]⟩) (.string ⟨#[]⟩) (.int .i64 0) (.int .i64 0) (.slice none 0 0))
  generalize eight w9 w.heap.size (.string ⟨#[]⟩) (.string ⟨#[]⟩) (.int .i64 0) (.string ⟨#[]⟩) (.string ⟨#[]⟩) (.int .i64 0) (.int .i64 0) (.slice none 0 0) = W8 at *
  obtain ⟨q0,_⟩:=H8.out.facts
  skip
  refine bodyPost_ret (v:=.tuple #[.agg zRu,.int .i64 7,.int .i64 0]) (by simp [results,Tryz.results12,go_sem,q0]) rfl ?_
  exact ⟨.slice none 0 0,by rw [HP.out];rfl,by rw [HP.out];exact LayS.nil _ _,HB8.out⟩
set_option maxRecDepth 100000 in
set_option maxHeartbeats 8000000 in
theorem rparse_good (s:ByteArray) (w:World) (hs:s.size≤maxLen) (he:(lexL s).2.1 = 0) (l:List Fnd) (hl:(lexL s).1 = l) (E:Int) (hE:(s.size:Int) = E) (hq:((((((((Got.ok () l).go (wantP E ⟨#[114,117,108,101]⟩)).end.go (tokP E 1)).end.go (wantP E ⟨#[102,111,114]⟩)).end.go (tokP E 1)).end.go (wantP E ⟨#[58]⟩)).end.go (condP (notP E (l.length+1)))).end.go (wantP E ⟨#[59]⟩)).end = .ok () []) (hc:∀ x,ruleP E l = .ok x []→¬ 60 < cnt x.cond):Calls Tryz.prog 12 #[.string s] w (PaR s w):=by
  have HT:=Lib.hid (show (∀ t∈l,t.text.size≤20000∧TokG t)∧l.length≤5000 by rw [←hl];exact ⟨lexL_tok he,(lexL_short s).1⟩)
  have HL:=Lib.hid (refLex_any s)
  rw [he] at HL
  have HL1:=Lib.hid hl
  have HX:=Lib.hid (Has.new w 26 zRu)
  have HB0:=Lib.hid (show Below w.heap.size w (w.alloc (.cells zRu 26)) from (Below.refl _ _).alloc (Nat.le_refl _) _)
  obtain ⟨s1,hs1⟩:∃ q,((Got.ok () l).go (wantP E ⟨#[114,117,108,101]⟩)).end = q:=⟨_,rfl⟩
  obtain ⟨s2,hs2⟩:∃ q,(s1.go (tokP E 1)).end = q:=⟨_,rfl⟩
  obtain ⟨s3,hs3⟩:∃ q,(s2.go (wantP E ⟨#[102,111,114]⟩)).end = q:=⟨_,rfl⟩
  obtain ⟨s4,hs4⟩:∃ q,(s3.go (tokP E 1)).end = q:=⟨_,rfl⟩
  obtain ⟨s5,hs5⟩:∃ q,(s4.go (wantP E ⟨#[58]⟩)).end = q:=⟨_,rfl⟩
  obtain ⟨s6,hs6⟩:∃ q,(s5.go (condP (notP E (l.length+1)))).end = q:=⟨_,rfl⟩
  obtain ⟨s7,hs7⟩:∃ q,(s6.go (wantP E ⟨#[59]⟩)).end = q:=⟨_,rfl⟩
  rw [hs1,hs2,hs3,hs4,hs5,hs6,hs7] at hq
  subst hq
  have HFu:=Lib.hid (show Fuel l.length s5 from Fuel.go (Fuel.go (Fuel.go (Fuel.go (Fuel.go (s:=.ok () l) (Nat.le_refl l.length) want_sh hs1) tok_sh hs2) want_sh hs3) tok_sh hs4) want_sh hs5)
  have HE1:=Lib.hid hs1
  have HE2:=Lib.hid hs2
  have HE3:=Lib.hid hs3
  have HE4:=Lib.hid hs4
  have HE5:=Lib.hid hs5
  have HE6:=Lib.hid hs6
  have HE7:=Lib.hid hs7
  have HPU:=Lib.hid (show parseU s = match ruleP E l with | .bad e a=>(ru0,e,a) | .ok r _=>if 60 < cnt r.cond then (ru0,7,0) else (r,0,0) by unfold parseU;rw [if_neg (by rw [he];exact fun h=>h rfl),hl,hE];rfl)
  have HM1:=Lib.hid True.intro
  have HM2:=Lib.hid True.intro
  have HM3:=Lib.hid True.intro
  have HM4:=Lib.hid True.intro
  have HM5:=Lib.hid True.intro
  have HM7:=Lib.hid True.intro
  clear hs1 hs2 hs3 hs4 hs5 hs6 hs7 hl he
  generalize (lexL s).2.2 = at' at *
  go_enter Tryz.func12,Tryz.ntmps12
  go_wp2_with (first
    | (go_at_call 25;refine (HL.out _ hs).mono ?_;rintro e w1 ⟨v,rfl,hown,hb⟩;rw [HL1.out] at hown;obtain ⟨A,cc,rfl⟩:=own_val hown;have HF:=Lib.hid (show Fp w1.heap.size E A cc l w _ (.ok () l) #[.string ⟨#[]⟩,.string ⟨#[]⟩,.int .i64 0,.string ⟨#[]⟩,.string ⟨#[]⟩,.int .i64 0,.int .i64 0,.slice none 0 0] from Fp.start (A:=A) (c:=cc) HT.out (HX.out.below hb HX.out.lt) (HB0.out.trans (hb.mono HB0.out.size)) hown E);clear hown hb)
    | (go_at_call 26;clear HM1;refine (skip_st ⟨#[114,117,108,101]⟩ HE1.out _ HF.out.rs).mono ?_;rintro _ w2 ⟨rfl,ha,hr⟩;replace HF:=Lib.hid (HF.out.call ha hr);clear ha hr)
    | (go_at_call 27;clear HM2;refine (tok_st 1 HE2.out _ HF.out.rs).mono ?_;rintro _ w3 ⟨a,rfl,ha,hr,hst⟩;have HG2:=Lib.hid HF.out.rs.tokG;have HS2:=Lib.hid hst;replace HF:=Lib.hid (HF.out.call ha hr);obtain ⟨d2,f2⟩:=HF.out.r.facts;replace HF:=Lib.hid (show Fp w1.heap.size E A cc l w (w3.setCell ⟨w1.heap.size+1,0,none⟩ (.string a)) s2 #[.string a,.string ⟨#[]⟩,.int .i64 0,.string ⟨#[]⟩,.string ⟨#[]⟩,.int .i64 0,.int .i64 0,.slice none 0 0] from HF.out.set 0 (.string a));clear ha hr hst)
    | (go_at_call 26;clear HM3;refine (skip_st ⟨#[102,111,114]⟩ HE3.out _ HF.out.rs).mono ?_;rintro _ w4 ⟨rfl,ha,hr⟩;replace HF:=Lib.hid (HF.out.call ha hr);clear ha hr)
    | (go_at_call 27;clear HM4;refine (tok_st 1 HE4.out _ HF.out.rs).mono ?_;rintro _ w5 ⟨b,rfl,ha,hr,hst⟩;have HG4:=Lib.hid HF.out.rs.tokG;have HS4:=Lib.hid hst;replace HF:=Lib.hid (HF.out.call ha hr);obtain ⟨d4,f4⟩:=HF.out.r.facts;replace HF:=Lib.hid (show Fp w1.heap.size E A cc l w (w5.setCell ⟨w1.heap.size+1,1,none⟩ (.string b)) s4 #[.string a,.string b,.int .i64 0,.string ⟨#[]⟩,.string ⟨#[]⟩,.int .i64 0,.int .i64 0,.slice none 0 0] from HF.out.set 1 (.string b));clear ha hr hst)
    | (go_at_call 26;clear HM5;refine (skip_st ⟨#[58]⟩ HE5.out _ HF.out.rs).mono ?_;rintro _ w6 ⟨rfl,ha,hr⟩;replace HF:=Lib.hid (HF.out.call ha hr);clear ha hr)
    | (go_at_call 28;refine (rcondP_any l.length _ _ HFu.out HF.out.rs).mono ?_;rintro _ w7 ⟨_,cx,rfl,⟨kv,rfl,hv⟩,ha,hr,hfit⟩;rw [HE6.out] at hr;obtain ⟨Ak,ck,rfl,_⟩:=hv.slice;have HLT:=Lib.hid HF.out.r.lt;have HS6:=Lib.hid (show Stp s5 (condP (notP E (l.length+1))) s6 cx from ⟨HE6.out,hfit⟩);replace HF:=Lib.hid (HF.out.call ha hr);obtain ⟨d6,f6⟩:=HF.out.r.facts;replace HF:=Lib.hid (HF.out.six (.int .i64 cx.op) (.string cx.name) (.string cx.value) (.int .i64 cx.n) (.int .i64 cx.extra) (.slice Ak cx.kids.length ck));have HV:=Lib.hid (show LayS (fun b=>w1.heap.size+2≤b) (six2 w7 (w1.heap.size+1) (.int .i64 cx.op) (.string cx.name) (.string cx.value) (.int .i64 cx.n) (.int .i64 cx.extra) (.slice Ak cx.kids.length ck)) (.slice Ak cx.kids.length ck) cx.kids from hv.on (fun b hb _=>six2_old w7 (w1.heap.size+1) _ _ _ _ _ _ (by have:=HLT.out;omega)) fun b hb _=>(by have:=HLT.out;omega));clear ha hr hfit hv)
    | (go_at_call 26;clear HM7;refine (skip_st ⟨#[59]⟩ HE7.out _ HF.out.rs).mono ?_;rintro _ w8 ⟨rfl,ha,hr⟩;replace HV:=Lib.hid (HV.out.on (T:=fun b=>w1.heap.size+2≤b) (fun b hb hlt=>ha.2.2.2.2 b hlt (by omega) (by omega)) fun b hb _=>hb);replace HF:=Lib.hid (HF.out.call ha hr);clear ha hr))
  obtain ⟨at1,h1,_⟩:=HF.out.rs.nil
  obtain ⟨d8,f8⟩:=h1.facts
  have hlt0:decide ((l.length:Int) < (l.length:Int)) = false:=decide_eq_false (Int.lt_irrefl _)
  obtain ⟨d9,f9⟩:=HF.out.res.facts
  have hn1:¬ w.heap.size = w1.heap.size:=by have:=HF.out.hg;omega
  have hn2:¬ w1.heap.size = w.heap.size:=by omega
  obtain ⟨d10,f10⟩:=HF.out.r.facts
  have HRU:=Lib.hid (show ruleP E l = .ok ⟨a,b,cx⟩ [] from stp_gives (stp_rule HG2.out HG4.out HE1.out HS2.out HE3.out HS4.out HE5.out HS6.out HE7.out (Stp.pure (.ok () []) _)))
  clear h1
  go_quiet (fail)
  have HC:=Lib.hid (show ¬ 60 < cnt cx from hc _ HRU.out)
  clear hc
  go_wp2_with (go_at_call 16;refine (nodes_any cx 60 _ _ (by decide) (HV.out.any.later (below_drewN (Below.refl _ _) nq))).mono ?_;rintro _ w9 ⟨rfl,hb9⟩;have hnd:=nd_few HC.out;generalize ndN cx 60 = nd at *;have HBQ:=Lib.hid (show Below w8.heap.size w8 w9 from (below_drewN (Below.refl _ _) nq).trans hb9);have HR9:=Lib.hid (HF.out.res.below HBQ.out HF.out.res.lt);have HB9:=Lib.hid (HF.out.b.trans (HBQ.out.mono HF.out.b.size));clear d8 f8 d9 f9 d10 f10;obtain ⟨d11,f11⟩:=HR9.out.facts;obtain ⟨d12,f12⟩:=(HF.out.r.below HBQ.out HF.out.r.lt).facts;clear hb9)
  have HP:=Lib.hid (show parseU s = (⟨a,b,cx⟩,0,0) by rw [HPU.out,HRU.out];exact if_neg HC.out)
  have H8:=Lib.hid (show Has (eight w9 w.heap.size (.string a) (.string b) (.int .i64 cx.op) (.string cx.name) (.string cx.value) (.int .i64 cx.n) (.int .i64 cx.extra) (.slice Ak cx.kids.length ck)) w.heap.size 26 #[.string a,.string b,.int .i64 cx.op,.string cx.name,.string cx.value,.int .i64 cx.n,.int .i64 cx.extra,.slice Ak cx.kids.length ck] from (six2_has ((HR9.out.put 0 _).put 1 _) _ _ _ _ _ _))
  have HB8:=Lib.hid (show Below w.heap.size w (eight w9 w.heap.size (.string a) (.string b) (.int .i64 cx.op) (.string cx.name) (.string cx.value) (.int .i64 cx.n) (.int .i64 cx.extra) (.slice Ak cx.kids.length ck)) from (six2_below ((HB9.out.setCell (p:=⟨w.heap.size,0,none⟩) (Nat.le_refl _) _).setCell (p:=⟨w.heap.size,1,none⟩) (Nat.le_refl _) _) (Nat.le_refl _) _ _ _ _ _ _))
  have HV8:=Lib.hid (show LayS (fun b=>w.heap.size≤b) (eight w9 w.heap.size (.string a) (.string b) (.int .i64 cx.op) (.string cx.name) (.string cx.value) (.int .i64 cx.n) (.int .i64 cx.extra) (.slice Ak cx.kids.length ck)) (.slice Ak cx.kids.length ck) cx.kids from eight_lay (HV.out.later HBQ.out) (fun b hb=>⟨by have:=HF.out.hg;omega,by have:=HF.out.hg;omega⟩) _ _ _ _ _ _ _ _)
  change bodyPost _ _ _ _ _ (eight w9 w.heap.size (.string a) (.string b) (.int .i64 cx.op) (.string cx.name) (.string cx.value) (.int .i64 cx.n) (.int .i64 cx.extra) (.slice Ak cx.kids.length ck))
  generalize eight w9 w.heap.size (.string a) (.string b) (.int .i64 cx.op) (.string cx.name) (.string cx.value) (.int .i64 cx.n) (.int .i64 cx.extra) (.slice Ak cx.kids.length ck) = W8 at *
  obtain ⟨q0,_⟩:=H8.out.facts
  skip
  refine bodyPost_ret (v:=.tuple #[.agg #[.string a,.string b,.int .i64 cx.op,.string cx.name,.string cx.value,.int .i64 cx.n,.int .i64 cx.extra,.slice Ak cx.kids.length ck],.int .i64 0,.int .i64 0]) (by simp [results,Tryz.results12,go_sem,q0]) rfl ?_
  exact ⟨.slice Ak cx.kids.length ck,by rw [HP.out];rfl,by rw [HP.out];exact HV8.out,HB8.out⟩
/-- bogieref20.Parse, whatever the text. -/
theorem rparse_any (s:ByteArray) (w:World) (hs:s.size≤maxLen):Calls Tryz.prog 12 #[.string s] w (PaR s w):=by
  by_cases he:(lexL s).2.1 = 0
  · obtain ⟨l,hl⟩:∃ l,(lexL s).1 = l:=⟨_,rfl⟩
    obtain ⟨E,hE⟩:∃ E,(s.size:Int) = E:=⟨_,rfl⟩
    obtain ⟨q,hq⟩:∃ q,((((((((Got.ok () l).go (wantP E ⟨#[114,117,108,101]⟩)).end.go (tokP E 1)).end.go (wantP E ⟨#[102,111,114]⟩)).end.go (tokP E 1)).end.go (wantP E ⟨#[58]⟩)).end.go (condP (notP E (l.length+1)))).end.go (wantP E ⟨#[59]⟩)).end = q:=⟨_,rfl⟩
    cases q with
    | bad e a=>exact rparse_bad s w hs he l hl E hE hq
    | ok u r =>
      cases r with
      | cons t r=>exact rparse_left s w hs he l hl E hE hq
      | nil =>
        by_cases hc:∃ x,ruleP E l = .ok x []∧60 < cnt x.cond
        · obtain ⟨x,h1,h2⟩:=hc
          exact rparse_many s w hs he l hl E hE hq fun y hy=>by rw [h1] at hy;injection hy with hy _;rw [←hy];exact h2
        · exact rparse_good s w hs he l hl E hE hq fun y hy h2=>hc ⟨y,hy,h2⟩
  · exact rparse_lex s w hs he
end Go.Proofs.YtppoeiofdmlpeaaGreatDoor
