/- The reference's parser in memory: its object and where it stands. No condition. The reference's parser: fail, is, took, skip. Condition: its object lies in memory. The reference's parser: fail. Condition: its object lies in memory. The reference's parser: took, skip. Condition: its object lies in memory. bogieref05.Number: the number that seven digits spell. Condition: digits, and no more than seven. The reference's parser: token, number. Condition: its object lies in memory. The reference's parser: what level's loop holds. No condition. What is known of a text's tokens; the parser of a condition, case by case, as the reference reads it. No condition. -/
import Derived.BigQuiet
import Derived.IntWalk
import Derived.Test.YtppoeiofdmlpeaaGreatDoorU12
import Derived.Test.YtppoeiofdmlpeaaGreatDoorU13
import Derived.Test.YtppoeiofdmlpeaaGreatDoorYA
import Derived.Test.YtppoeiofdmlpeaaGreatDoorYC
namespace Go.Proofs.YtppoeiofdmlpeaaGreatDoor
open Go Go.RowKit
/-- The next token is this word or symbol. -/
def staB (word:ByteArray):Got Unit→Bool
  | .ok _ r=>skipB word r
  | .bad _ _=>false
/-- A reading from where the parser stands; after an error nothing is read. -/
def Got.go {α:Type} (s:Got Unit) (f:List Fnd→Got α):Got α:=s.bind fun _ l=>f l
/-- Where a reading leaves the parser. -/
def Got.end {α:Type} : Got α→Got Unit
  | .bad e a=>.bad e a
  | .ok _ r=>.ok () r
/-- A value fits what is read. -/
def Got.Fit {α:Type} (q:Got α) (x:α):Prop:=∀ y r,q = .ok y r→y = x
theorem end_go {α:Type} (s:Got Unit) (f:List Fnd→Got α):(s.go f).end = s.go fun l=>(f l).end:=by cases s <;> rfl
/-- What is known of each token of a text. -/
def TokG (t:Fnd):Prop:=(t.kind = 1→nameB t.text = true)∧(t.kind = 4→t.text.size = 1)∧(t.kind = 2→t.text.size≤7∧∀ c∈t.text.data.toList,48≤c.toNat∧c.toNat≤57)
/-- The fields that tell where the parser stands. -/
def StaAt (L:List Fnd) (s:Got Unit) (i:Nat) (er at':Int):Prop:=match s with
  | .ok _ r=>er = 0∧r = L.drop i
  | .bad e a=>er = e∧at' = a∧e ≠ 0
/-- The tokens' slice in memory, in a block ahead of g. -/
def TkL (g:Nat) (w:World) (A:Option Addr) (c:Nat) (L:List Fnd):Prop :=
  L.length≤c∧c≤9223372036854775807∧L.length≤5000∧(∀ t∈L,t.text.size≤20000∧TokG t)∧(L = []∨∃ b o,A = some ⟨b,o,none⟩∧b < g∧∀ i,i < L.length →
    w.cell? ⟨b,o+i*3,none⟩ = some (.int .i64 (tokAt L i).kind)∧w.cell? ⟨b,o+i*3+1,none⟩ = some (.string (tokAt L i).text)∧w.cell? ⟨b,o+i*3+2,none⟩ = some (.int .i64 (tokAt L i).pos))
theorem TkL.on {g:Nat} {w w':World} {A:Option Addr} {c:Nat} {L:List Fnd} (h:TkL g w A c L) (hk:∀ b,b < g→w'.heap[b]? = w.heap[b]?):TkL g w' A c L:=by
  obtain ⟨h1,h2,h3,h4,h5⟩:=h
  refine ⟨h1,h2,h3,h4,h5.imp id fun ⟨b,o,e,hg,hh⟩=>⟨b,o,e,hg,fun i hi=>?_⟩⟩
  have hc:∀ j,w'.cell? ⟨b,j,none⟩ = w.cell? ⟨b,j,none⟩:=fun j=>by
    unfold World.cell?
    show (match w'.heap[b]? with | _=>_) = (match w.heap[b]? with | _=>_)
    rw [hk b hg]
  obtain ⟨a1,a2,a3⟩:=hh i hi
  exact ⟨(hc _).trans a1,(hc _).trans a2,(hc _).trans a3⟩
/-- The parser's object, and where it stands. -/
def Rs (g:Nat) (E:Int) (A:Option Addr) (c:Nat) (L:List Fnd) (w:World) (s:Got Unit):Prop:=∃ (i:Nat) (er at':Int),
  Has w g 56 #[.slice A L.length c,.int .i64 i,.int .i64 E,.int .i64 er,.int .i64 at']∧TkL g w A c L∧i≤L.length∧StaAt L s i er at'
section
variable {g:Nat} {E:Int} {A:Option Addr} {c:Nat} {L:List Fnd}
theorem Rs.lt {w:World} {s:Got Unit} (h:Rs g E A c L w s):g < w.heap.size:=by
  obtain ⟨_,_,_,h,_⟩:=h
  exact h.lt
theorem Rs.on {w w':World} {s:Got Unit} (h:Rs g E A c L w s) (hk:∀ b,b≤g→w'.heap[b]? = w.heap[b]?):Rs g E A c L w' s:=by
  obtain ⟨i,er,at',h1,h2,h3⟩:=h
  exact ⟨i,er,at',(hk g (Nat.le_refl _)).trans h1,h2.on fun b hb=>hk b (Nat.le_of_lt hb),h3⟩
theorem Rs.below {w w':World} {s:Got Unit} (h:Rs g E A c L w s) (hb:Below w.heap.size w w'):Rs g E A c L w' s:=h.on fun b hb2=>hb.block b (Nat.lt_of_le_of_lt hb2 h.lt)
/-- The object taken apart, at an error. -/
theorem Rs.bad {w:World} {e a:Int} (h:Rs g E A c L w (.bad e a)):∃ i:Nat,Has w g 56 #[.slice A L.length c,.int .i64 i,.int .i64 E,.int .i64 e,.int .i64 a]∧i≤L.length∧e ≠ 0∧TkL g w A c L:=by
  obtain ⟨i,er,at',h1,h2,h3,h4,h5,h6⟩:=h
  subst h4
  subst h5
  exact ⟨i,h1,h3,h6,h2⟩
/-- At the end. -/
theorem Rs.nil {w:World} (h:Rs g E A c L w (.ok () [])):∃ at':Int,Has w g 56 #[.slice A L.length c,.int .i64 L.length,.int .i64 E,.int .i64 0,.int .i64 at']∧TkL g w A c L:=by
  obtain ⟨i,er,at',h1,h2,h3,h4,h5⟩:=h
  subst h4
  have:L.length - i = 0:=by rw [←List.length_drop, ← h5];rfl
  obtain rfl:i = L.length:=by omega
  exact ⟨at',h1,h2⟩
/-- At a token. -/
theorem Rs.tok {w:World} {t:Fnd} {r:List Fnd} (h:Rs g E A c L w (.ok () (t :: r))):∃ (b o i:Nat) (at':Int),A = some ⟨b,o,none⟩∧b < g∧Has w g 56 #[.slice A L.length c,.int .i64 i,.int .i64 E,.int .i64 0,.int .i64 at']∧TkL g w A c L∧i < L.length∧L.length≤c∧L.length≤5000 ∧
    t :: r = L.drop i∧r = L.drop (i+1)∧t.text.size≤20000∧TokG t ∧
    w.cell? ⟨b,o+i*3,none⟩ = some (.int .i64 t.kind)∧w.cell? ⟨b,o+i*3+1,none⟩ = some (.string t.text)∧w.cell? ⟨b,o+i*3+2,none⟩ = some (.int .i64 t.pos):=by
  obtain ⟨i,er,at',h1,h2,h3,h4,h5⟩:=h
  subst h4
  have hi:i < L.length:=by
    have:(L.drop i).length = (t :: r).length:=by rw [←h5]
    rw [List.length_drop,List.length_cons] at this
    omega
  have hd:=List.drop_eq_getElem_cons hi
  rw [←h5] at hd
  injection hd with e1 e2
  have hta:tokAt L i = t:=by unfold tokAt;rw [List.getD_eq_getElem?_getD,List.getElem?_eq_getElem hi,e1];rfl
  have hm:t∈L:=e1 ▸ List.getElem_mem hi
  have h2':=h2
  obtain ⟨q1,_,q3,q4,q5⟩:=h2
  rcases q5 with q5 | ⟨b,o,e,hb,hh⟩
  · rw [q5] at hi;exact absurd hi (Nat.not_lt_zero i)
  · have h6:=hh i hi
    rw [hta] at h6
    exact ⟨b,o,i,at',e,hb,h1,h2',hi,q1,q3,h5,e2,(q4 t hm).1,(q4 t hm).2,h6⟩
/-- The object put together again. -/
theorem Rs.mk {w w':World} (ht:TkL g w A c L) (hk:∀ b,b < g→w'.heap[b]? = w.heap[b]?) {i:Nat} {er at':Int} (h:Has w' g 56 #[.slice A L.length c,.int .i64 i,.int .i64 E,.int .i64 er,.int .i64 at']) (hi:i≤L.length) {s:Got Unit} (hs:StaAt L s i er at'):Rs g E A c L w' s :=
  ⟨i,er,at',h,ht.on hk,hi,hs⟩
end
end Go.Proofs.YtppoeiofdmlpeaaGreatDoor
namespace Go.Proofs.YtppoeiofdmlpeaaGreatDoor
open Go Go.RowKit
section
variable {g:Nat} {E:Int} {A:Option Addr} {c:Nat} {L:List Fnd}
set_option maxRecDepth 100000 in
set_option maxHeartbeats 8000000 in
theorem ris_any (word:ByteArray) (s:Got Unit) (w:World) (h:Rs g E A c L w s) :
    Calls Tryz.prog 52 #[.pointer (some ⟨g,0,none⟩),.string word] w fun e w'=>e = .returned (.bool (staB word s))∧Below w.heap.size w w':=by
  cases s with
  | bad er a =>
    obtain ⟨i,h1,_,hne,_⟩:=h.bad
    obtain ⟨d,f⟩:=h1.facts
    have hd:(er == 0) = false:=by simpa using hne
    clear h
    go_enter Tryz.func52,Tryz.ntmps52
    go_wp2_with fail
    go_quiet (fail)
    go_wp2
    go_ret
    exact ⟨rfl,below_drewN (Below.refl _ _) _⟩
  | ok x r =>
    cases r with
    | nil =>
      obtain ⟨at',h1,_⟩:=h.nil
      obtain ⟨d,f⟩:=h1.facts
      have hlt:decide ((L.length:Int) < (L.length:Int)) = false:=decide_eq_false (Int.lt_irrefl _)
      clear h
      go_enter Tryz.func52,Tryz.ntmps52
      go_wp2_with fail
      go_quiet (fail)
      go_wp2
      go_ret
      exact ⟨rfl,below_drewN (Below.refl _ _) _⟩
    | cons t r =>
      obtain ⟨b,o,i,at',rfl,hb,h1,_,hi,hc,_,_,_,_,_,c1,c2,c3⟩:=h.tok
      obtain ⟨d,f⟩:=h1.facts
      have hlt:decide ((i:Int) < (L.length:Int)) = true:=decide_eq_true (by omega)
      have hki:(i:Int) < (L.length:Int):=by omega
      clear h
      by_cases e1:t.text = word
      · subst e1
        by_cases k1:t.kind = 1
        · have HS:=Lib.hid (show staB t.text (.ok x (t :: r)) = true from decide_eq_true ⟨rfl,.inl k1⟩)
          rw [k1] at c1
          go_enter Tryz.func52,Tryz.ntmps52
          go_wp2_with fail
          go_quiet (fail)
          go_wp2
          go_ret
          exact ⟨ret_bool HS.out.symm,below_drewN (Below.refl _ _) _⟩
        · have n1:(t.kind == 1) = false:=by simpa using k1
          by_cases k4:t.kind = 4
          · have HS:=Lib.hid (show staB t.text (.ok x (t :: r)) = true from decide_eq_true ⟨rfl,.inr k4⟩)
            clear n1 k1
            rw [k4] at c1
            go_enter Tryz.func52,Tryz.ntmps52
            go_wp2_with fail
            go_quiet (fail)
            go_wp2
            go_ret
            exact ⟨ret_bool HS.out.symm,below_drewN (Below.refl _ _) _⟩
          · have n4:(t.kind == 4) = false:=by simpa using k4
            have HS:=Lib.hid (show staB t.text (.ok x (t :: r)) = false from decide_eq_false fun h=>h.2.elim k1 k4)
            go_enter Tryz.func52,Tryz.ntmps52
            go_wp2_with fail
            go_quiet (fail)
            go_wp2
            go_ret
            exact ⟨ret_bool HS.out.symm,below_drewN (Below.refl _ _) _⟩
      · have HS:=Lib.hid (show staB word (.ok x (t :: r)) = false from decide_eq_false fun h=>e1 h.1)
        have e2:=text_ne e1
        have e3:(t.text.toList == word.toList) = false:=by simpa using e2
        go_enter Tryz.func52,Tryz.ntmps52
        go_wp2_with fail
        go_quiet (fail)
        go_wp2
        go_ret
        exact ⟨ret_bool HS.out.symm,below_drewN (Below.refl _ _) _⟩
end
end Go.Proofs.YtppoeiofdmlpeaaGreatDoor
namespace Go.Proofs.YtppoeiofdmlpeaaGreatDoor
open Go Go.RowKit
section
variable {g:Nat} {E:Int} {A:Option Addr} {c:Nat} {L:List Fnd}
theorem Aw.drewN {g b:Nat} {u w:World} (h:Aw g b u w) (n:Nat):Aw g b u (w.drewN n):=h.trans (.of_below (below_drewN (Below.refl _ _) _))
set_option maxRecDepth 100000 in
set_option maxHeartbeats 8000000 in
theorem rfail_any (e:Int) (he:e ≠ 0) (s:Got Unit) (w:World) (h:Rs g E A c L w s) :
    Calls Tryz.prog 29 #[.pointer (some ⟨g,0,none⟩),.int .i64 e] w fun r w'=>r = .returned (.tuple #[])∧Aw g g w w'∧Rs g E A c L w' (s.go (failP E e)):=by
  cases s with
  | bad er a =>
    have HS:=Lib.hid h
    obtain ⟨i,h1,_,hne,_⟩:=h.bad
    obtain ⟨d,f⟩:=h1.facts
    have hd:(er != 0) = true:=by simpa using hne
    clear h
    go_enter Tryz.func29,Tryz.ntmps29
    go_wp2_with fail
    refine bodyPost_ret (v:=.tuple #[]) (by simp [results,Tryz.results29,go_sem]) rfl ?_
    exact ⟨rfl,Aw.refl _ _ _,HS.out⟩
  | ok x r =>
    cases r with
    | nil =>
      obtain ⟨at',h1,ht⟩:=h.nil
      obtain ⟨d,f⟩:=h1.facts
      have hlt:decide ((L.length:Int) < (L.length:Int)) = false:=decide_eq_false (Int.lt_irrefl _)
      have HT:=Lib.hid ht
      have H3:=Lib.hid (((h1.put 3 (.int .i64 e)).put 4 (.int .i64 E)).put 3 (.int .i64 9))
      clear h ht
      go_enter Tryz.func29,Tryz.ntmps29
      go_wp2_with fail
      go_quiet (fail)
      go_wp2_with fail
      refine bodyPost_end (results_none rfl _ _ _) rfl ?_
      refine ⟨rfl,((((Aw.refl g g w).set g 3 (.inl rfl) _).set g 4 (.inl rfl) _).drewN _).set g 3 (.inl rfl) _,?_⟩
      exact Rs.mk HT.out (fun b hb=>(heap_setCell_other _ ⟨g,3,none⟩ b _ (by intro e;have e:b = g:=e;omega)).trans ((heap_setCell_other _ ⟨g,4,none⟩ b _ (by intro e;have e:b = g:=e;omega)).trans (heap_setCell_other _ ⟨g,3,none⟩ b _ (by intro e;have e:b = g:=e;omega)))) H3.out (Nat.le_refl _) ⟨rfl,rfl,by decide⟩
    | cons t r =>
      obtain ⟨b,o,i,at',rfl,hb,h1,ht,hi,hc,_,_,_,_,_,c1,c2,c3⟩:=h.tok
      obtain ⟨d,f⟩:=h1.facts
      have hlt:decide ((i:Int) < (L.length:Int)) = true:=decide_eq_true (by omega)
      have hki:(i:Int) < (L.length:Int):=by omega
      have hbg:¬ b = g:=by omega
      have HT:=Lib.hid ht
      have HX:=Lib.hid h1
      clear h ht
      go_enter Tryz.func29,Tryz.ntmps29
      go_wp2_with fail
      go_quiet (fail)
      go_wp2_with fail
      have HFin:=Lib.hid (show ∀ W,(∀ b,b < g→W.heap[b]? = w.heap[b]?)→Has W g 56 #[.slice (some ⟨b,o,none⟩) L.length c,.int .i64 i,.int .i64 E,.int .i64 e,.int .i64 t.pos]→Rs g E (some ⟨b,o,none⟩) c L W ((Got.ok x (t :: r)).go (failP E e)) from fun W hk hh=>Rs.mk HT.out hk hh (Nat.le_of_lt hi) ⟨rfl,rfl,he⟩)
      go_region
      refine bodyPost_end (results_none rfl _ _ _) rfl ?_
      exact ⟨rfl,((((Aw.refl g g w).set g 3 (.inl rfl) _).set g 4 (.inl rfl) _).drewN _).set g 4 (.inl rfl) _,HFin.out _ (fun b hb=>(heap_setCell_other _ ⟨g,4,none⟩ b _ (by intro e;have e:b = g:=e;omega)).trans ((heap_setCell_other _ ⟨g,4,none⟩ b _ (by intro e;have e:b = g:=e;omega)).trans (heap_setCell_other _ ⟨g,3,none⟩ b _ (by intro e;have e:b = g:=e;omega)))) (((HX.out.put 3 (.int .i64 e)).put 4 (.int .i64 E)).put 4 (.int .i64 t.pos))⟩
end
end Go.Proofs.YtppoeiofdmlpeaaGreatDoor
namespace Go.Proofs.YtppoeiofdmlpeaaGreatDoor
open Go Go.RowKit
/-- Behind the word, if it is there. -/
def staT (word:ByteArray) (s:Got Unit):Got Unit:=if staB word s then (match s with | .ok u r=>.ok u r.tail | x=>x) else s
theorem staT_no {word:ByteArray} {s:Got Unit} (h:staB word s = false):staT word s = s:=by unfold staT;rw [h];rfl
theorem staB_yes {word:ByteArray} {s:Got Unit} (h:staB word s = true):∃ t r,s = .ok () (t :: r)∧t.text = word∧(t.kind = 1∨t.kind = 4)∧staT word s = .ok () r:=by
  cases s with
  | bad e a=>cases h
  | ok x l =>
    cases l with
    | nil=>cases h
    | cons t r=>exact ⟨t,r,rfl,(skip_parts (r:=r) h).1,(skip_parts (r:=r) h).2,by unfold staT;rw [h];rfl⟩
theorem want_go (E:Int) (word:ByteArray) (s:Got Unit):s.go (wantP E word) = if staB word s then staT word s else s.go (failP E 8):=by
  cases s with
  | bad e a=>rfl
  | ok x l =>
    show wantP E word l = if skipB word l then staT word (.ok x l) else failP E 8 l
    unfold wantP staT staB
    split <;> rfl
section
variable {g:Nat} {E:Int} {A:Option Addr} {c:Nat} {L:List Fnd}
set_option maxRecDepth 100000 in
set_option maxHeartbeats 8000000 in
theorem rtook_any (word:ByteArray) (s:Got Unit) (w:World) (h:Rs g E A c L w s) :
    Calls Tryz.prog 50 #[.pointer (some ⟨g,0,none⟩),.string word] w fun r w'=>r = .returned (.bool (staB word s))∧Aw g g w w'∧Rs g E A c L w' (staT word s):=by
  have HI:=Lib.hid (ris_any word s w h)
  have HR:=Lib.hid h
  cases hs:staB word s with
  | false =>
    rw [hs] at HI
    have HE:=Lib.hid (staT_no hs)
    clear hs h
    go_enter Tryz.func50,Tryz.ntmps50
    go_wp2_with (go_at_call 52;refine HI.out.mono ?_;rintro e w1 ⟨rfl,hb⟩;have HB:=Lib.hid hb;clear hb)
    go_ret
    exact ⟨rfl,.of_below HB.out,by rw [HE.out];exact HR.out.below HB.out⟩
  | true =>
    rw [hs] at HI
    obtain ⟨t,r,rfl,_,_,he⟩:=staB_yes hs
    have HE:=Lib.hid he
    clear he hs h
    go_enter Tryz.func50,Tryz.ntmps50
    go_wp2_with (go_at_call 52;refine HI.out.mono ?_;rintro e w1 ⟨rfl,hb⟩;obtain ⟨b,o,i,at',hA,hbg,h1,ht,hi,_,_,_,hr,_⟩:=(HR.out.below hb).tok;have HB:=Lib.hid hb;have HX:=Lib.hid h1;have HT:=Lib.hid ht;have HRR:=Lib.hid hr;have hs3:IntKind.i64.wrap ((i:Int)+1) = (i:Int)+1:=IntWalk.i64_in _ (by have:=HT.out.2.2.1;omega);obtain ⟨d,f⟩:=h1.facts;clear hb h1 ht hr)
    go_ret
    exact ⟨rfl,(Aw.of_below HB.out).set g 1 (.inl rfl) _,by rw [HE.out];exact Rs.mk (i:=i+1) HT.out (fun b hb=>heap_setCell_other _ ⟨g,1,none⟩ b _ (by intro e;have e:b = g:=e;omega)) (HX.out.put 1 (.int .i64 ((i:Int)+1))) hi ⟨rfl,HRR.out⟩⟩
set_option maxRecDepth 100000 in
set_option maxHeartbeats 8000000 in
theorem rskip_any (word:ByteArray) (s:Got Unit) (w:World) (h:Rs g E A c L w s) :
    Calls Tryz.prog 26 #[.pointer (some ⟨g,0,none⟩),.string word] w fun r w'=>r = .returned (.tuple #[])∧Aw g g w w'∧Rs g E A c L w' (s.go (wantP E word)):=by
  have HI:=Lib.hid (rtook_any word s w h)
  have HE:=Lib.hid (want_go E word s)
  cases hs:staB word s with
  | false =>
    rw [hs] at HI HE
    rw [staT_no hs] at HI
    clear hs h
    go_enter Tryz.func26,Tryz.ntmps26
    go_wp2_with (first
      | (go_at_call 50;refine HI.out.mono ?_;rintro e w1 ⟨rfl,ha,hr⟩;have HA:=Lib.hid ha;have HR:=Lib.hid hr;clear ha hr)
      | (go_at_call 29;refine (rfail_any 8 (by decide) s _ HR.out).mono ?_;rintro e w2 ⟨rfl,ha,hr⟩;have HA2:=Lib.hid ha;have HR2:=Lib.hid hr;clear ha hr))
    refine bodyPost_end (results_none rfl _ _ _) rfl ?_
    exact ⟨rfl,HA.out.trans HA2.out,by rw [HE.out];exact HR2.out⟩
  | true =>
    rw [hs] at HI HE
    clear hs h
    go_enter Tryz.func26,Tryz.ntmps26
    go_wp2_with (go_at_call 50;refine HI.out.mono ?_;rintro e w1 ⟨rfl,ha,hr⟩;have HA:=Lib.hid ha;have HR:=Lib.hid hr;clear ha hr)
    refine bodyPost_end (results_none rfl _ _ _) rfl ?_
    exact ⟨rfl,HA.out,by rw [HE.out];exact HR.out⟩
end
end Go.Proofs.YtppoeiofdmlpeaaGreatDoor
namespace Go.Proofs.YtppoeiofdmlpeaaGreatDoor
open Go Go.RowKit
/-- The number that digits spell. -/
def digV (l:List UInt8):Nat:=l.foldl (fun a c=>a*10+(c.toNat - 48)) 0
def Digs (l:List UInt8):Prop:=∀ c∈l,48≤c.toNat∧c.toNat≤57
theorem parse_fold:∀ (l:List UInt8) (acc:Nat),Digs l→(acc+1)*10 ^ l.length≤1000000000000→Lib.parseUint10 acc l = .ok (l.foldl (fun a c=>a*10+(c.toNat - 48)) acc)∧l.foldl (fun a c=>a*10+(c.toNat - 48)) acc+1≤(acc+1)*10 ^ l.length
  | [],acc,_,_=>⟨rfl,by simp⟩
  | c :: r,acc,hd,hb=>by
    have hc:=hd c (List.mem_cons_self ..)
    rw [List.length_cons,Nat.pow_succ'] at hb ⊢
    have hp:0 < 10 ^ r.length:=Nat.pow_pos (by omega)
    have hm:(acc*10+(c.toNat - 48)+1)*10 ^ r.length≤(acc+1)*(10*10 ^ r.length):=by
      rw [←Nat.mul_assoc]
      exact Nat.mul_le_mul_right _ (by omega)
    have h1:(acc+1)*10≤1000000000000:=by
      have:(acc+1)*10*1≤(acc+1)*10*10 ^ r.length:=Nat.mul_le_mul_left _ hp
      rw [Nat.mul_assoc] at this
      rw [Nat.mul_assoc] at this
      omega
    obtain ⟨h2,h3⟩:=parse_fold r (acc*10+(c.toNat - 48)) (fun x hx=>hd x (List.mem_cons_of_mem _ hx)) (by omega)
    exact ⟨by rw [parse_cons,if_pos hc,if_neg (by omega),if_neg (by omega)];exact h2,by rw [List.foldl_cons];omega⟩
theorem digV_lt {l:List UInt8} (h:Digs l) (h7:l.length≤7):digV l≤9999999:=by
  have hp:10 ^ l.length≤10 ^ 7:=Nat.pow_le_pow_right (by omega) h7
  have:=(parse_fold l 0 h (by omega)).2
  unfold digV
  omega
theorem atoi_digV {l:List UInt8} (h:Digs l) (h7:l.length≤7):atoiV l = digV l:=by
  cases l with
  | nil=>rfl
  | cons c r =>
    have hc:=h c (List.mem_cons_self ..)
    have hp:10 ^ (c :: r).length≤10 ^ 7:=Nat.pow_le_pow_right (by omega) h7
    have h2:=digV_lt h h7
    obtain ⟨h1,_⟩:=parse_fold (c :: r) 0 h (by omega)
    have e:Lib.atoiAll (c :: r) = .ok (digV (c :: r):Int):=by
      unfold Lib.atoiAll
      simp only
      rw [if_neg (by omega)]
      unfold Lib.parseMag
      rw [if_neg (by simp),h1]
      simp only
      rw [if_neg (by unfold digV at h2;omega),if_neg (by omega),if_neg (by omega)]
      rfl
    unfold atoiV
    rw [e]
theorem digV_step {l:List UInt8} {k:Nat} (h:k < l.length):digV (l.take (k+1)) = digV (l.take k)*10+(l[k].toNat - 48):=by
  unfold digV
  rw [List.take_add_one,List.getElem?_eq_getElem h,List.foldl_append]
  rfl
set_option maxRecDepth 100000 in
set_option maxHeartbeats 2000000 in
theorem refNum_any (s:ByteArray) (w:World) (h7:s.size≤7) (hd:Digs s.data.toList) :
    Calls Tryz.prog 91 #[.string s] w fun e w'=>e = .returned (.int .i64 (atoiV s.data.toList))∧w' = w:=by
  have hl:s.data.toList.length = s.size:=rfl
  have HE:=Lib.hid (atoi_digV hd (by omega))
  go_enter Tryz.func91,Tryz.ntmps91
  go_wp2_with fail
  go_loopw [3,4] (fun n i wr=>∃ k:Nat,k≤s.size∧i = .int .i64 k∧n = .int .i64 (digV (s.data.toList.take k))∧wr = w) (fun _ i _=>s.size - (intOf i).toNat)
  case atStart=>exact ⟨0,Nat.zero_le _,rfl,rfl,rfl⟩
  case round =>
    obtain ⟨k,hk,rfl,rfl,rfl⟩:=hrel
    by_cases hlt:k < s.size
    · have hki:(k:Int) < (s.size:Int):=by omega
      have hk7:(k:Int) < 7:=by omega
      have hst:=digV_step (l:=s.data.toList) (k:=k) (by omega)
      have hv:=digV_lt (l:=s.data.toList.take k) (fun c hc=>hd c (List.mem_of_mem_take hc)) (by rw [List.length_take];omega)
      have hb:=hd (s.data.toList[k]'(by omega)) (List.getElem_mem _)
      have hbk:(s.data.toList[k]'(by omega)) = s[k]:=by simp [ByteArray.getElem_eq_getElem_data]
      rw [hbk] at hst hb
      generalize digV (s.data.toList.take k) = q at *
      have q1:IntKind.i64.wrap (10*(q:Int)) = 10*(q:Int):=IntWalk.i64_in _ (by omega)
      have q2:IntKind.u8.wrap ((s[k].toNat:Int) - 48) = (s[k].toNat:Int) - 48:=IntWalk.u8_in _ (by omega)
      have q3:IntKind.i64.wrap ((s[k].toNat:Int) - 48) = (s[k].toNat:Int) - 48:=IntWalk.i64_in _ (by omega)
      have q4:IntKind.i64.wrap (10*(q:Int)+((s[k].toNat:Int) - 48)) = 10*(q:Int)+((s[k].toNat:Int) - 48):=IntWalk.i64_in _ (by omega)
      have HST:=Lib.hid (show 10*(q:Int)+((s[k].toNat:Int) - 48) = (digV (s.data.toList.take (k+1)):Int) by rw [hst];omega)
      clear hst hb hbk hd
      go_wp2_with fail
      go_roundw
      case rel=>exact ⟨k+1,by omega,by go_num,by rw [HST.out],trivial⟩
      case measure=>simp [intOf];omega
    · have hki:¬ (k:Int) < (s.size:Int):=by omega
      have HF:=Lib.hid (show (digV (s.data.toList.take k):Int) = atoiV s.data.toList by rw [HE.out,List.take_of_length_le (by omega)])
      go_wp2_with fail
      go_ret
      exact ⟨by rw [←HF.out];rfl,rfl⟩
end Go.Proofs.YtppoeiofdmlpeaaGreatDoor
namespace Go.Proofs.YtppoeiofdmlpeaaGreatDoor
open Go Go.RowKit
/-- A token of a kind. -/
def tokP (E kind:Int):List Fnd→Got ByteArray:=nextP E kind fun _=>true
/-- What a token's text can be. -/
def TokV (kind:Int) (v:ByteArray):Prop:=v = e0∨∃ t:Fnd,v = t.text∧t.kind = kind∧TokG t∧t.text.size≤20000
section
variable {g:Nat} {E:Int} {A:Option Addr} {c:Nat} {L:List Fnd}
/-- The object at the tokens still to come. -/
theorem Rs.obj {w:World} {u:Unit} {r:List Fnd} (h:Rs g E A c L w (.ok u r)):∃ (i:Nat) (at':Int),Has w g 56 #[.slice A L.length c,.int .i64 i,.int .i64 E,.int .i64 0,.int .i64 at']∧TkL g w A c L∧i+r.length = L.length∧r = L.drop i:=by
  obtain ⟨i,er,at',h1,h2,h3,h4,h5⟩:=h
  subst h4
  have hl:r.length = L.length - i:=by rw [h5,List.length_drop]
  exact ⟨i,at',h1,h2,by omega,h5⟩
set_option maxRecDepth 100000 in
set_option maxHeartbeats 8000000 in
theorem rtoken_any (kind:Int) (s:Got Unit) (w:World) (h:Rs g E A c L w s) :
    Calls Tryz.prog 27 #[.pointer (some ⟨g,0,none⟩),.int .i64 kind] w fun r w'=>∃ v,r = .returned (.string v)∧Aw g g w w'∧Rs g E A c L w' (s.go (tokP E kind)).end∧(s.go (tokP E kind)).Fit v∧TokV kind v:=by
  have HF:=Lib.hid (fun W (hb:Below w.heap.size w W)=>rfail_any 8 (by decide) s W (h.below hb))
  cases s with
  | bad er a =>
    obtain ⟨i,h1,_,hne,_⟩:=h.bad
    obtain ⟨d,f⟩:=h1.facts
    have hd:(er != 0) = true:=by simpa using hne
    clear h
    go_enter Tryz.func27,Tryz.ntmps27
    go_wp2_with fail
    go_quiet (fail)
    go_wp2_with (go_at_call 29;refine (HF.out _ (below_drewN (Below.refl _ _) _)).mono ?_;rintro e w1 ⟨rfl,ha,hr⟩;have HA:=Lib.hid ((Aw.of_below (below_drewN (Below.refl _ _) _)).trans ha);have HR:=Lib.hid hr;clear ha hr)
    go_ret
    exact ⟨_,rfl,HA.out,HR.out,fun y r h=>(by cases h),.inl rfl⟩
  | ok x l =>
    obtain ⟨u,hu⟩:∃ u:Unit,u = x:=⟨x,rfl⟩
    cases l with
    | nil =>
      obtain ⟨at',h1,_⟩:=h.nil
      obtain ⟨d,f⟩:=h1.facts
      have hlt:decide ((L.length:Int)≤(L.length:Int)) = true:=decide_eq_true (Int.le_refl _)
      clear h
      go_enter Tryz.func27,Tryz.ntmps27
      go_wp2_with fail
      go_quiet (fail)
      go_wp2_with (go_at_call 29;refine (HF.out _ (below_drewN (Below.refl _ _) _)).mono ?_;rintro e w1 ⟨rfl,ha,hr⟩;have HA:=Lib.hid ((Aw.of_below (below_drewN (Below.refl _ _) _)).trans ha);have HR:=Lib.hid hr;clear ha hr)
      go_ret
      exact ⟨_,rfl,HA.out,HR.out,fun y r h=>(by cases h),.inl rfl⟩
    | cons t r =>
      obtain ⟨b,o,i,at',rfl,hb,h1,ht,hi,hc,h5,_,hr,hsz,hG,c1,c2,c3⟩:=h.tok
      obtain ⟨d,f⟩:=h1.facts
      have hlt:decide ((L.length:Int)≤(i:Int)) = false:=decide_eq_false (by omega)
      have hki:(i:Int) < (L.length:Int):=by omega
      clear h
      by_cases hk:t.kind = kind
      · subst hk
        have kk:(t.kind != t.kind) = false:=by simp
        have hs3:IntKind.i64.wrap ((i:Int)+1) = (i:Int)+1:=IntWalk.i64_in _ (by omega)
        have hs4:IntKind.i64.wrap ((i:Int)+1 - 1) = (i:Int):=IntWalk.i64_in _ (by omega) |>.trans (by omega)
        have hbg:¬ b = g:=by omega
        have HQ:=Lib.hid (show tokP E t.kind (t :: r) = .ok t.text r from by unfold tokP nextP;show (if t.kind = t.kind then _ else _) = _;rw [if_pos rfl];rfl)
        have HT:=Lib.hid ht
        have HX:=Lib.hid h1
        have HRR:=Lib.hid hr
        have HG:=Lib.hid hG
        clear HF ht h1 hr hG
        go_enter Tryz.func27,Tryz.ntmps27
        go_wp2_with fail
        go_quiet (fail)
        go_wp2_with fail
        go_quiet (fail)
        go_wp2_with fail
        go_ret
        refine ⟨t.text,rfl,(((Aw.refl g g w).drewN _).set g 1 (.inl rfl) _).drewN _,?_,fun y r2 h=>?_,.inr ⟨t,rfl,rfl,HG.out,hsz⟩⟩
        · show Rs _ _ _ _ _ _ (tokP E t.kind (t :: r)).end
          rw [HQ.out]
          exact Rs.mk (i:=i+1) HT.out (fun b hb=>heap_setCell_other _ ⟨g,1,none⟩ b _ (by intro e;have e:b = g:=e;omega)) (HX.out.put 1 (.int .i64 ((i:Int)+1))) hi ⟨rfl,HRR.out⟩
        · have h:tokP E t.kind (t :: r) = .ok y r2:=h
          rw [HQ.out] at h
          injection h with h1 _
          exact h1.symm
      · have kk:(t.kind != kind) = true:=by simpa using hk
        have HQ:=Lib.hid (show (tokP E kind (t :: r):Got ByteArray) = .bad 8 t.pos from by unfold tokP nextP;show (if t.kind = kind then _ else _) = _;rw [if_neg hk])
        go_enter Tryz.func27,Tryz.ntmps27
        go_wp2_with fail
        go_quiet (fail)
        go_wp2_with (go_at_call 29;refine (HF.out _ (below_drewN (Below.refl _ _) _)).mono ?_;rintro e w1 ⟨rfl,ha,hr⟩;have HA:=Lib.hid ((Aw.of_below (below_drewN (Below.refl _ _) _)).trans ha);have HR:=Lib.hid hr;clear ha hr)
        go_ret
        exact ⟨_,rfl,HA.out,by show Rs _ _ _ _ _ _ (tokP E kind (t :: r)).end;rw [HQ.out];exact HR.out,fun y r2 h=>(by have h:tokP E kind (t :: r) = .ok y r2:=h;rw [HQ.out] at h;cases h),.inl rfl⟩
theorem tok_ok {E kind:Int} {s:Got Unit} {v:ByteArray} {r:List Fnd} (h:s.go (tokP E kind) = .ok v r):∃ t,s = .ok () (t :: r)∧t.text = v∧t.kind = kind:=by
  cases s with
  | bad e a=>cases h
  | ok u l =>
    cases l with
    | nil=>cases h
    | cons t l =>
      have h:(if t.kind = kind then (if true = true then Got.ok t.text l else .bad 13 t.pos) else .bad 8 t.pos:Got ByteArray) = .ok v r:=h
      by_cases hk:t.kind = kind
      · rw [if_pos hk,if_pos rfl] at h
        injection h with h1 h2
        subst h2
        exact ⟨t,rfl,h1,hk⟩
      · rw [if_neg hk] at h
        cases h
theorem num_bad {E low:Int} {s:Got Unit} {e a:Int} (h:s.go (tokP E 2) = .bad e a):s.go (numP E low) = .bad e a:=by
  cases s with
  | bad e' a'=>injection h with h1 h2;subst h1;subst h2;rfl
  | ok u l =>
    cases l with
    | nil=>injection h with h1 h2;subst h1;subst h2;rfl
    | cons t l =>
      have h:(if t.kind = 2 then (if true = true then Got.ok t.text l else .bad 13 t.pos) else .bad 8 t.pos:Got ByteArray) = .bad e a:=h
      by_cases hk:t.kind = 2
      · rw [if_pos hk,if_pos rfl] at h
        cases h
      · rw [if_neg hk] at h
        injection h with h1 h2
        subst h1
        subst h2
        show (if t.kind = 2 then _ else _:Got ByteArray).bind _ = _
        rw [if_neg hk]
        rfl
theorem num_ok {E low:Int} {t:Fnd} {r:List Fnd} (hk:t.kind = 2):(Got.ok () (t :: r)).go (numP E low) = if low≤atoiV t.text.data.toList then .ok (atoiV t.text.data.toList) r else .bad 13 t.pos:=by
  show (if t.kind = 2 then (if numB low t.text = true then Got.ok t.text r else .bad 13 t.pos) else .bad 8 t.pos:Got ByteArray).bind _ = _
  rw [if_pos hk]
  by_cases hl:low≤atoiV t.text.data.toList
  · rw [if_pos (show numB low t.text = true from decide_eq_true hl),if_pos hl];rfl
  · rw [if_neg (show ¬ numB low t.text = true from fun h=>hl (of_decide_eq_true h)),if_neg hl];rfl
set_option maxRecDepth 100000 in
set_option maxHeartbeats 8000000 in
theorem rnumber_any (low:Int) (s:Got Unit) (w:World) (h:Rs g E A c L w s) :
    Calls Tryz.prog 79 #[.pointer (some ⟨g,0,none⟩),.int .i64 low] w fun r w'=>∃ n,r = .returned (.int .i64 n)∧Aw g g w w'∧Rs g E A c L w' (s.go (numP E low)).end∧(s.go (numP E low)).Fit n:=by
  have HTK:=Lib.hid (rtoken_any 2 s w h)
  have HN:=Lib.hid (fun (v:ByteArray) (hv:TokV 2 v) (W:World)=>show Calls Tryz.prog 91 #[.string v] W fun e w'=>e = .returned (.int .i64 (atoiV v.data.toList))∧w' = W from by
    rcases hv with rfl | ⟨t,rfl,hk,hG,_⟩
    · exact refNum_any e0 W (by decide) (fun c hc=>by cases hc)
    · exact refNum_any _ W (hG.2.2 hk).1 (hG.2.2 hk).2)
  obtain ⟨q,hq⟩:∃ q,s.go (tokP E 2) = q:=⟨_,rfl⟩
  cases q with
  | bad er a =>
    have HE:=Lib.hid (num_bad (low:=low) hq)
    rw [hq] at HTK
    clear h hq
    go_enter Tryz.func79,Tryz.ntmps79
    go_wp2_with (first
      | (go_at_call 27;refine HTK.out.mono ?_;rintro e w1 ⟨v,rfl,ha,hr,_,hv⟩;have hr:Rs g E A c L w1 (.bad er a):=hr;obtain ⟨i,h1,_,hne,_⟩:=hr.bad;obtain ⟨d,f⟩:=h1.facts;have hd:(er == 0) = false:=(by simpa using hne);have HA:=Lib.hid ha;have HR:=Lib.hid hr;have HV:=Lib.hid hv;clear ha hr hv h1)
      | (go_at_call 91;refine (HN.out _ HV.out _).mono ?_;rintro e w2 ⟨rfl,rfl⟩))
    go_ret
    exact ⟨_,rfl,HA.out,by rw [HE.out];exact HR.out,fun y r h=>by rw [HE.out] at h;cases h⟩
  | ok v r =>
    obtain ⟨t,rfl,rfl,hk⟩:=tok_ok hq
    have HO:=Lib.hid (num_ok (E:=E) (low:=low) (r:=r) hk)
    obtain ⟨i0,_,_,_,hle,hdr⟩:=h.obj
    rw [List.length_cons] at hle
    have HLE:=Lib.hid hle
    clear hle
    rw [hq] at HTK
    have HDR:=Lib.hid hdr
    clear h hq hdr
    generalize hn:atoiV t.text.data.toList = n at *
    have HNN:=Lib.hid hn
    clear hn
    by_cases hl:low≤n
    · have hlo:¬ n < low:=by omega
      rw [if_pos hl] at HO
      go_enter Tryz.func79,Tryz.ntmps79
      go_wp2_with (first
        | (go_at_call 27;refine HTK.out.mono ?_;rintro e w1 ⟨v,rfl,ha,hr,hf,hv⟩;have hf:=hf _ _ rfl;subst hf;have hr:Rs g E A c L w1 (.ok () r):=hr;obtain ⟨i1,at',h1,_,_,_⟩:=hr.obj;obtain ⟨d,f⟩:=h1.facts;have HA:=Lib.hid ha;have HR:=Lib.hid hr;have HV:=Lib.hid hv;clear ha hr hv h1)
        | (go_at_call 91;refine (HN.out _ HV.out _).mono ?_;rw [HNN.out];rintro e w2 ⟨rfl,rfl⟩))
      go_ret
      exact ⟨_,rfl,HA.out,by rw [HO.out];exact HR.out,fun y r h=>by rw [HO.out] at h;injection h with h _;exact h.symm⟩
    · have hlo:n < low:=by omega
      rw [if_neg hl] at HO
      go_enter Tryz.func79,Tryz.ntmps79
      go_wp2_with (first
        | (go_at_call 27;refine HTK.out.mono ?_;rintro e w1 ⟨v,rfl,ha,hr,hf,hv⟩;have hf:=hf _ _ rfl;subst hf;have hr:Rs g E A c L w1 (.ok () r):=hr;obtain ⟨i1,at',h1,ht,hi1,_⟩:=hr.obj;obtain rfl:i1 = i0+1:=(by have:=HLE.out;omega);obtain ⟨d,f⟩:=h1.facts;have HW:=Lib.hid (IntWalk.wrap64_in (i0:Int) (by have:=ht.2.2.1;omega));have HX:=Lib.hid h1;have HT:=Lib.hid ht;have HA:=Lib.hid ha;have HV:=Lib.hid hv;clear hi1 ha hr hv h1 ht)
        | (go_at_call 91;refine (HN.out _ HV.out _).mono ?_;rw [HNN.out];rintro e w2 ⟨rfl,rfl⟩)
        | (go_at_call 29;(try rw [HW.out]);refine (rfail_any 13 (by decide) (.ok () (t :: r)) _ (Rs.mk (i:=i0) HT.out (fun b hb=>heap_setCell_other _ ⟨g,1,none⟩ b _ (by intro e;have e:b = g:=e;omega)) (HX.out.put 1 (.int .i64 i0)) (by have:=HLE.out;omega) ⟨rfl,HDR.out⟩)).mono ?_;rintro e w3 ⟨rfl,ha,hr⟩;have HA3:=Lib.hid ha;have HR:=Lib.hid hr;clear ha hr))
      go_ret
      exact ⟨_,rfl,(HA.out.set g 1 (.inl rfl) _).trans HA3.out,by rw [HO.out];exact HR.out,fun y r h=>by rw [HO.out] at h;cases h⟩
end
end Go.Proofs.YtppoeiofdmlpeaaGreatDoor
namespace Go.Proofs.YtppoeiofdmlpeaaGreatDoor
open Go Go.RowKit
/-- What a reading of a condition leaves, wherever the parser stands. -/
def Rx (g:Nat) (E:Int) (A:Option Addr) (c:Nat) (L:List Fnd) (f:List Fnd→Got Ex) (s:Got Unit) (w:World) (r:Ending) (w':World):Prop :=
  ∃ v e,r = .returned v∧ExR w.heap.size w' v e∧Aw g g w w'∧Rs g E A c L w' (s.go f).end∧(s.go f).Fit e
/-- At most k tokens to come, or an error. -/
def Fuel (k:Nat):Got Unit→Prop
  | .ok _ l=>l.length≤k
  | .bad _ _=>True
/-- What the loop's measure reads. -/
def staN (w:World) (g:Nat):Nat:=match w.cell? ⟨g,3,none⟩,w.cell? ⟨g,1,none⟩,w.cell? ⟨g,0,none⟩ with
  | some (.int _ e),some (.int _ i),some (.slice _ n _)=>if e = 0 then n+1 - i.toNat else 0
  | _,_,_=>0
def staM:Got Unit→Nat
  | .ok _ r=>r.length+1
  | .bad _ _=>0
section
variable {g:Nat} {E:Int} {A:Option Addr} {c:Nat} {L:List Fnd}
theorem Rs.meas {w:World} {s:Got Unit} (h:Rs g E A c L w s):staN w g = staM s:=by
  cases s with
  | bad e a =>
    obtain ⟨i,h1,_,hne,_⟩:=h.bad
    unfold staN
    rw [h1.cell 3,h1.cell 1,h1.cell 0]
    show (if e = 0 then _ else 0) = 0
    rw [if_neg hne]
  | ok u r =>
    obtain ⟨i,at',h1,_,hi,_⟩:=h.obj
    unfold staN
    rw [h1.cell 3,h1.cell 1,h1.cell 0]
    show (if (0:Int) = 0 then L.length+1 - (i:Int).toNat else 0) = r.length+1
    rw [if_pos rfl]
    omega
/-- How what is read so far tells the whole. -/
def LevE (op:Int) (word:ByteArray) (one:List Fnd→Got Ex) (l:List Fnd) (q:List (Ex × Value)):Got Unit→Prop
  | .bad e a=>serP word op one l = .bad e a
  | .ok _ r=>r.length≤l.length∧∃ n c0 cs,r.length≤n∧q.map (·.1) = c0 :: cs∧serP word op one l = (moreP word one n r).bind fun cs2 r2=>.ok (oneOf op c0 (cs++cs2)) r2
/-- What the loop holds: the things so far, and where the parser stands. -/
structure LevI (g:Nat) (E:Int) (A:Option Addr) (c:Nat) (L:List Fnd) (w:World) (op:Int) (word:ByteArray) (one:List Fnd→Got Ex) (l:List Fnd) (v:Value) (W:World) (q:List (Ex × Value)) (st:Got Unit):Prop where
  own:W.ownsRow (w.heap.size+1) 24 6 v q.length (qCells q)
  lay:∀ p∈q,LayS (fun b=>w.heap.size+1≤b∧v.ownBlock ≠ some b) W p.2 p.1.kids
  rs:Rs g E A c L W st
  aw:Aw g g w W
  res:Has W w.heap.size 24 #[.int .i64 0,.string ⟨#[]⟩,.string ⟨#[]⟩,.int .i64 0,.int .i64 0,.slice none 0 0]
  pos:0 < q.length
  two:q.length = 1→staB word st = true
  hm:q.length+staM st≤6000
  eq:LevE op word one l q st
theorem LevI.val {w W:World} {op:Int} {word:ByteArray} {one:List Fnd→Got Ex} {l:List Fnd} {v:Value} {q:List (Ex × Value)} {st:Got Unit} (h:LevI g E A c L w op word one l v W q st):∃ A' c',v = .slice A' q.length c':=by
  rcases h.own.2 with ⟨rfl,h0⟩ | ⟨k,cap,cur,rfl,_⟩
  · exact ⟨none,0,by rw [h0]⟩
  · exact ⟨_,_,rfl⟩
/-- A further thing, read well or not. -/
theorem LevI.next {w W w2 w3 W4:World} {op:Int} {word:ByteArray} {one:List Fnd→Got Ex} {l r:List Fnd} {u:Unit} {v v' kv:Value} {q:List (Ex × Value)} {x:Ex} {o:Obj} (h:LevI g E A c L w op word one l v W q (.ok u r)) (hgw:g < w.heap.size)
    (hs:skipB word r = true) (hsh:∀ c r2,one r.tail = .ok c r2→r2.length≤r.tail.length) (a2:Aw g g W w2) (a3:Aw g g w2 w3) (p3:Rs g E A c L w3 (one r.tail).end) (hfit:(one r.tail).Fit x) (hv:LayS (fun b=>w2.heap.size≤b) w3 kv x.kids)
    (own':W4.ownsRow (w.heap.size+1) 24 6 v' (q.length+1) (qCells q++exL x kv)) (hg:(w3.alloc o).grownBy W4 v.ownBlock) (hb:v'.ownBlock = v.ownBlock∨∀ k,v'.ownBlock = some k→(w3.alloc o).heap.size≤k) :
    LevI g E A c L w op word one l v' W4 (q++[(x,kv)]) (one r.tail).end:=by
  have hpos:=h.pos
  have htl:=tail_len hs
  have hsW:=h.aw.2.2.2.1
  have hs2:=a2.2.2.2.1
  have hs3:=a3.2.2.2.1
  have hown:=h.own.lt
  have hres:=h.res.lt
  have hz4:(w3.alloc o).heap.size = w3.heap.size+1:=World.size_alloc _ _
  have hmm:=h.hm
  have hM:staM (one r.tail).end+1≤staM (.ok u r):=by
    cases h1:one r.tail with
    | bad e a=>show 0+1≤r.length+1;omega
    | ok y r2=>have:=hsh _ _ h1;show r2.length+1+1≤r.length+1;omega
  have stay:∀ b,b < w3.heap.size→v.ownBlock ≠ some b→W4.heap[b]? = w3.heap[b]?:=fun b hb h2 =>
    (hg.block b (by omega) (fun e=>h2 e.symm)).trans (Below.heap_alloc w3 o _ hb)
  refine ⟨by rw [List.length_append,List.length_singleton];show W4.ownsRow _ _ _ _ _ ((q++[(x,kv)]).flatMap fun p=>exL p.1 p.2);rw [List.flatMap_append];simpa [qCells] using own',fun p hp=>?_,p3.on fun b hb=>stay b (Nat.lt_of_le_of_lt hb p3.lt) (fun e=>by have:=(hown b e).1;omega),?_,?_,by rw [List.length_append,List.length_singleton];omega,fun h1=>by rw [List.length_append,List.length_singleton] at h1;omega,by rw [List.length_append,List.length_singleton];omega,?_⟩
  · rcases List.mem_append.1 hp with hp | hp
    · refine (h.lay p hp).on (fun b hb hlt=>?_) fun b hb hlt=>⟨hb.1,?_⟩
      · rw [stay b (by omega) hb.2,a3.2.2.2.2 b (by omega) (by omega) (by omega)]
        exact a2.2.2.2.2 b hlt (by omega) (by omega)
      · rcases hb':v'.ownBlock with _ | k
        · exact fun e=>by cases e
        · intro e
          injection e with e
          subst e
          rcases ‹v'.ownBlock = v.ownBlock∨_› with h1 | h1
          · exact hb.2 (h1 ▸ hb')
          · have:=h1 k hb';omega
    · rw [List.mem_singleton] at hp
      subst hp
      refine hv.on (fun b hb hlt=>stay b hlt (fun e=>by have:=(hown b e).2;omega)) fun b hb hlt=>⟨by omega,?_⟩
      rcases hb':v'.ownBlock with _ | k
      · exact fun e=>by cases e
      · intro e
        injection e with e
        subst e
        rcases ‹v'.ownBlock = v.ownBlock∨_› with h1 | h1
        · have:=(hown k (h1 ▸ hb')).2;omega
        · have:=h1 k hb';omega
  · have h4:Aw g g w w3:=(h.aw.trans a2).trans a3
    exact ⟨hg.os.trans h4.1,hg.tape.trans h4.2.1,hg.output.trans h4.2.2.1,by have:=hg.size;omega,fun b hb h1 h2=>(stay b (by omega) (fun e=>by have:=(hown b e).1;omega)).trans (h4.2.2.2.2 b hb h1 h2)⟩
  · have h5:=((h.res.aw a2 (by omega) (by omega)).aw a3 (by omega) (by omega))
    exact (stay _ h5.lt (fun e=>by have:=(hown _ e).1;omega)).trans h5
  · obtain ⟨hrl,n,c0,cs,hn,h1,h2⟩:=h.eq
    obtain ⟨n,rfl⟩:∃ k,n = k+1:=⟨n - 1,by omega⟩
    rw [moreP_succ hs] at h2
    cases hq:one r.tail with
    | bad e a =>
      rw [hq] at h2
      show serP word op one l = .bad e a
      exact h2
    | ok y r2 =>
      obtain rfl:=hfit y r2 hq
      have hle:=hsh _ _ hq
      rw [hq] at h2
      refine ⟨by omega,n,c0,cs++[y],by omega,by rw [List.map_append,h1];rfl,?_⟩
      rw [h2]
      show (((moreP word one n r2).bind fun cs r2=>.ok (y :: cs) r2).bind fun cs2 r2=>.ok (oneOf op c0 (cs++cs2)) r2) = _
      show _ = (moreP word one n r2).bind fun cs2 r2=>.ok (oneOf op c0 (cs++[y]++cs2)) r2
      cases moreP word one n r2 with
      | bad e a=>rfl
      | ok z r=>show Got.ok _ _ = Got.ok _ _;rw [List.append_assoc];rfl
/-- The end: several things, or an error. -/
theorem LevI.fin {w W:World} {op:Int} {word:ByteArray} {one:List Fnd→Got Ex} {l:List Fnd} {v:Value} {q:List (Ex × Value)} {st:Got Unit} (h:LevI g E A c L w op word one l v W q st) (hs:staB word st = false) :
    (serP word op one l).end = st∧(serP word op one l).Fit (.mk op e0 e0 0 0 (q.map (·.1)))∧LayS (fun b=>w.heap.size+1≤b) W v (q.map (·.1)):=by
  have hlay:LayS (fun b=>w.heap.size+1≤b) W v (q.map (·.1)):=own_lay h.own (fun k hk=>by omega) fun p hp=>(h.lay p hp).mono fun b hb _=>hb.1
  have h2:=h.two
  have he:=h.eq
  cases st with
  | bad e a =>
    have he:serP word op one l = .bad e a:=he
    exact ⟨by rw [he];rfl,fun y r hy=>(by rw [he] at hy;cases hy),hlay⟩
  | ok u r =>
    obtain ⟨_,n,c0,cs,_,e1,e2⟩:=he
    rw [moreP_zero hs] at e2
    have e3:serP word op one l = .ok (.mk op e0 e0 0 0 (q.map (·.1))) r:=by
      rw [e2,e1]
      show Got.ok (oneOf op c0 (cs++[])) r = _
      rw [List.append_nil]
      cases cs with
      | nil =>
        have:(q.map (·.1)).length = 1:=by rw [e1];rfl
        rw [List.length_map] at this
        rw [h2 this] at hs
        cases hs
      | cons c cs=>rfl
    refine ⟨by rw [e3];rfl,fun y r2 hy=>?_,hlay⟩
    rw [e3] at hy
    injection hy with hy _
    exact hy.symm
end
end Go.Proofs.YtppoeiofdmlpeaaGreatDoor
namespace Go.Proofs.YtppoeiofdmlpeaaGreatDoor
open Go Go.RowKit
theorem cut_at {s:ByteArray} {i j k:Nat} (hk:i+k < j):byteAt (cut s i j) k = byteAt s (i+k):=by
  unfold byteAt cut
  rw [ByteArray.data_extract,Array.toList_extract,List.extract_eq_take_drop,List.getD_eq_getElem?_getD,List.getD_eq_getElem?_getD,List.getElem?_take,if_pos (by omega),List.getElem?_drop]
theorem cut_word {s:ByteArray} {i:Nat} (hi:i < s.size) (hc:clsAt s i = 3) (h24:wordEnd s i - i≤24):nameB (cut s i (wordEnd s i)) = true:=by
  have h1:=runTo_ge (wordP s) s.size i
  have h2:=wordEnd_le (s:=s) (i:=i) (by omega)
  have h3:=cut_size (s:=s) (i:=i) h2 h1
  have h4:i < wordEnd s i:=by
    obtain ⟨m,hm⟩:∃ m,s.size = m+1:=⟨s.size - 1,by omega⟩
    unfold wordEnd
    rw [hm,runTo_succ,if_pos (by unfold wordP;rw [hc];rfl)]
    exact runTo_ge (wordP s) m (i+1)
  refine nameB_true (by omega) (by omega) fun j hj=>?_
  rw [cut_at (by omega)]
  have hw:=runTo_all (wordP s) s.size i (i+j) (by omega) (by unfold wordEnd at *;omega)
  have hlt:i+j < s.size:=by omega
  unfold wordP clsAt at hw
  rw [if_pos hlt] at hw
  unfold okAt
  by_cases h0:j = 0
  · subst h0
    unfold clsAt at hc
    rw [if_pos hi] at hc
    rw [Nat.add_zero,hc]
    rfl
  · rw [show (j != 0) = true by simpa using h0,Bool.true_and]
    exact hw
/-- What is known of each token found, where there is no error. -/
def TokF (s:ByteArray) (f:Fnd):Prop:=f.err = 0→f.text.size≤s.size∧TokG f
set_option maxHeartbeats 1000000 in
theorem lexGo_tok (s:ByteArray):∀ (n i:Nat), ∀ f∈lexGo s n i,TokF s f
  | 0,_=>fun f h=>(by cases h)
  | n+1,i=>by
    have ih:=lexGo_tok s n
    rw [lexGo_succ]
    by_cases h0:s.size≤i
    · rw [if_pos h0];exact fun f h=>(by cases h)
    have hone:∀ f:Fnd,TokF s f→∀ g∈[f],TokF s g:=fun f h1 g hg=>(by rw [List.mem_singleton] at hg;subst hg;exact h1)
    have hcons:∀ (f:Fnd) (j:Nat),TokF s f→∀ g∈f :: lexGo s n j,TokF s g:=fun f j h1 g hg=>(List.mem_cons.1 hg).elim (fun e=>e ▸ h1) (ih j g)
    rw [if_neg h0]
    split
    · exact ih _
    split
    · exact ih _
    split
    · rename_i hc
      have h1:=runTo_ge (wordP s) s.size i
      have h2:=wordEnd_le (s:=s) (i:=i) (by omega)
      have h3:=cut_size (s:=s) (i:=i) h2 h1
      split
      · exact hone _ fun h=>absurd h (show ¬ (7:Int) = 0 by decide)
      · rename_i h24
        exact hcons _ _ fun _=>⟨by show (cut s i (wordEnd s i)).size≤_;omega,fun _=>cut_word (by omega) hc (by omega),fun h=>absurd h (show ¬ (1:Int) = 4 by decide),fun h=>absurd h (show ¬ (1:Int) = 2 by decide)⟩
    split
    · have h1:=runTo_ge (digP s) s.size i
      have h2:=digEnd_le (s:=s) (i:=i) (by omega)
      have h3:=cut_size (s:=s) (i:=i) h2 h1
      split
      · exact hone _ fun h=>absurd h (show ¬ (11:Int) = 0 by decide)
      · rename_i hn
        refine hcons _ _ fun _=>⟨by show (cut s i (digEnd s i)).size≤_;omega,fun h=>absurd h (show ¬ (2:Int) = 1 by decide),fun h=>absurd h (show ¬ (2:Int) = 4 by decide),fun _=>⟨?_,fun c hc=>?_⟩⟩
        · show (cut s i (digEnd s i)).size≤7
          rw [h3]
          exact Nat.le_of_not_lt fun h=>hn (.inl h)
        · obtain ⟨k,k1,k2,k3⟩:=cut_get h2 hc
          have k4:=runTo_all (digP s) s.size i k k1 k2
          unfold digP clsAt at k4
          rw [if_pos (by omega),k3,beq_iff_eq] at k4
          exact digit_cls k4 (UInt8.toNat_lt c)
    split
    · split
      · exact hone _ fun h=>absurd h (show ¬ (10:Int) = 0 by decide)
      · rename_i t m hu
        have h1:=unqGo_size _ _ _ _ _ hu
        have h2:=cut_size (s:=s) (i:=i) (Nat.le_refl s.size) (by omega)
        rw [h2] at h1
        exact hcons _ _ fun _=>⟨by show t.toArray.size≤_;rw [List.size_toArray];simp at h1;omega,fun h=>absurd h (show ¬ (3:Int) = 1 by decide),fun h=>absurd h (show ¬ (3:Int) = 4 by decide),fun h=>absurd h (show ¬ (3:Int) = 2 by decide)⟩
    split
    · have h3:=cut_size (s:=s) (i:=i) (j:=i+1) (by omega) (by omega)
      exact hcons _ _ fun _=>⟨by show (cut s i (i+1)).size≤_;omega,fun h=>absurd h (show ¬ (4:Int) = 1 by decide),fun _=>by show (cut s i (i+1)).size = 1;omega,fun h=>absurd h (show ¬ (4:Int) = 2 by decide)⟩
    · exact hone _ fun h=>absurd h (show ¬ (10:Int) = 0 by decide)
/-- Each token of a text that reads as tokens. -/
theorem lexL_tok {s:ByteArray} (h:(lexL s).2.1 = 0):∀ t∈(lexL s).1,t.text.size≤20000∧TokG t:=by
  have h1:=lexGo_tok s (s.size+1) 0
  unfold lexL at *
  split at h
  · exact absurd h (show ¬ (7:Int) = 0 by decide)
  · rename_i hs
    rw [if_neg hs]
    obtain ⟨g1,g2⟩:=takeF_ok _ _ h
    rw [g1,List.nil_append]
    intro t ht
    obtain ⟨a,b⟩:=h1 t ht (g2 t ht)
    exact ⟨by omega,b⟩
/-- A name's check says nothing new. -/
theorem name_tok {E:Int} {l:List Fnd} (h:∀ t∈l,TokG t):nameP E l = tokP E 1 l:=by
  cases l with
  | nil=>rfl
  | cons t r =>
    unfold nameP tokP nextP
    by_cases hk:t.kind = 1
    · show (if t.kind = 1 then (if nameB t.text = true then _ else _) else _) = (if t.kind = 1 then (if true = true then _ else _) else _)
      rw [if_pos hk,if_pos hk,(h t (List.mem_cons_self ..)).1 hk]
    · show (if t.kind = 1 then _ else _) = (if t.kind = 1 then _ else _)
      rw [if_neg hk,if_neg hk]
theorem word_yes {w:ByteArray} {t:Fnd} {r:List Fnd} (hG:TokG t) (hw:2≤w.size) (h:staB w (.ok () (t :: r)) = true):t.kind = 1∧t.text = w:=by
  obtain ⟨h1,h2 | h2⟩:=skip_parts (r:=r) h
  · exact ⟨h2,h1⟩
  · have:=hG.2.1 h2
    rw [h1] at this
    omega
theorem word_no {w:ByteArray} {t:Fnd} {r:List Fnd} (h:staB w (.ok () (t :: r)) = false) (hk:t.kind = 1):¬ t.text = w:=fun e=>by
  have h:decide (t.text = w∧(t.kind = 1∨t.kind = 4)) = false:=h
  exact of_decide_eq_false h ⟨e,.inl hk⟩
theorem open_yes {t:Fnd} {r:List Fnd} (hG:TokG t) (h:staB wOpen (.ok () (t :: r)) = true):t.kind = 4∧t.text = wOpen:=by
  obtain ⟨h1,h2 | h2⟩:=skip_parts (r:=r) h
  · have:=hG.1 h2
    rw [h1] at this
    exact absurd this (by decide +kernel)
  · exact ⟨h2,h1⟩
theorem open_no {t:Fnd} {r:List Fnd} (h:staB wOpen (.ok () (t :: r)) = false):¬ (t.kind = 4∧t.text = wOpen):=fun e=>by
  have h:decide (t.text = wOpen∧(t.kind = 1∨t.kind = 4)) = false:=h
  exact of_decide_eq_false h ⟨e.2,.inr e.1⟩
section
variable {E:Int} {one:List Fnd→Got Ex} {t:Fnd} {r:List Fnd}
theorem n1_words (hk:t.kind = 1) (hr:resB t.text = true):notP1 E one (t :: r) = wordsP E one t r:=by
  show (if t.kind = 4∧t.text = wOpen then _ else if t.kind = 1∧resB t.text = true then _ else _) = _
  rw [if_neg (fun e=>by rw [hk] at e;exact absurd e.1 (by decide)),if_pos ⟨hk,hr⟩]
theorem n1_open (hG:TokG t) (h:staB wOpen (.ok () (t :: r)) = true):notP1 E one (t :: r) = inP E one (t :: r):=by
  show (if t.kind = 4∧t.text = wOpen then _ else _) = _
  rw [if_pos (open_yes hG h)]
theorem n1_is (h:staB wOpen (.ok () (t :: r)) = false) (hn:¬ (t.kind = 1∧resB t.text = true)):notP1 E one (t :: r) = isP E (t :: r):=by
  show (if t.kind = 4∧t.text = wOpen then _ else if t.kind = 1∧resB t.text = true then _ else _) = _
  rw [if_neg (open_no h),if_neg hn]
theorem n1_not (hG:TokG t) (h:staB wNot (.ok () (t :: r)) = true):notP1 E one (t :: r) = (one r).bind fun c r2=>.ok (.mk 2 e0 e0 0 0 [c]) r2:=by
  obtain ⟨hk,ht⟩:=word_yes hG (by decide) h
  rw [n1_words hk (by rw [ht];decide +kernel)]
  unfold wordsP
  rw [ht,if_neg (by decide +kernel),if_pos rfl]
theorem n1_true (hG:TokG t) (h:staB wTrue (.ok () (t :: r)) = true):notP1 E one (t :: r) = .ok (.mk 1 e0 e0 0 0 []) r:=by
  obtain ⟨hk,ht⟩:=word_yes hG (by decide) h
  rw [n1_words hk (by rw [ht];decide +kernel)]
  unfold wordsP
  rw [ht,if_pos rfl]
theorem n1_limit (hG:TokG t) (h:staB wLimit (.ok () (t :: r)) = true):notP1 E one (t :: r) = limitP E r:=by
  obtain ⟨hk,ht⟩:=word_yes hG (by decide) h
  rw [n1_words hk (by rw [ht];decide +kernel)]
  unfold wordsP
  rw [ht,if_neg (by decide +kernel),if_neg (by decide +kernel),if_pos rfl]
theorem n1_over (hG:TokG t) (h:staB wOver (.ok () (t :: r)) = true):notP1 E one (t :: r) = overP E r:=by
  obtain ⟨hk,ht⟩:=word_yes hG (by decide) h
  rw [n1_words hk (by rw [ht];decide +kernel)]
  unfold wordsP
  rw [ht]
  iterate 3 rw [if_neg (by decide +kernel)]
  rw [if_pos rfl]
theorem n1_has (hG:TokG t) (h:staB wHas (.ok () (t :: r)) = true):notP1 E one (t :: r) = hasP E r:=by
  obtain ⟨hk,ht⟩:=word_yes hG (by decide) h
  rw [n1_words hk (by rw [ht];decide +kernel)]
  unfold wordsP
  rw [ht]
  iterate 4 rw [if_neg (by decide +kernel)]
  rw [if_pos rfl]
theorem n1_slot (hG:TokG t) (h:staB wSlot (.ok () (t :: r)) = true):notP1 E one (t :: r) = slotP E r:=by
  obtain ⟨hk,ht⟩:=word_yes hG (by decide) h
  rw [n1_words hk (by rw [ht];decide +kernel)]
  unfold wordsP
  rw [ht]
  iterate 5 rw [if_neg (by decide +kernel)]
  rw [if_pos rfl]
theorem n1_all (hG:TokG t) (h:staB wAll (.ok () (t :: r)) = true):notP1 E one (t :: r) = withinP E 10 one r:=by
  obtain ⟨hk,ht⟩:=word_yes hG (by decide) h
  rw [n1_words hk (by rw [ht];decide +kernel)]
  unfold wordsP
  rw [ht]
  iterate 6 rw [if_neg (by decide +kernel)]
  rw [if_pos rfl]
theorem n1_any (hG:TokG t) (h:staB wAny (.ok () (t :: r)) = true):notP1 E one (t :: r) = withinP E 11 one r:=by
  obtain ⟨hk,ht⟩:=word_yes hG (by decide) h
  rw [n1_words hk (by rw [ht];decide +kernel)]
  unfold wordsP
  rw [ht]
  iterate 7 rw [if_neg (by decide +kernel)]
  rw [if_pos rfl]
theorem n1_at (hG:TokG t) (h:staB wAt (.ok () (t :: r)) = true):notP1 E one (t :: r) = atP E r:=by
  obtain ⟨hk,ht⟩:=word_yes hG (by decide) h
  rw [n1_words hk (by rw [ht];decide +kernel)]
  unfold wordsP
  rw [ht]
  iterate 8 rw [if_neg (by decide +kernel)]
  rw [if_pos rfl]
theorem n1_res (h1:staB wNot (.ok () (t :: r)) = false) (h2:staB wTrue (.ok () (t :: r)) = false) (h3:staB wLimit (.ok () (t :: r)) = false) (h4:staB wOver (.ok () (t :: r)) = false) (h5:staB wHas (.ok () (t :: r)) = false) (h6:staB wSlot (.ok () (t :: r)) = false)
    (h7:staB wAll (.ok () (t :: r)) = false) (h8:staB wAny (.ok () (t :: r)) = false) (h9:staB wAt (.ok () (t :: r)) = false) (hk:t.kind = 1) (hr:resB t.text = true):notP1 E one (t :: r) = .bad 8 t.pos:=by
  rw [n1_words hk hr]
  unfold wordsP
  rw [if_neg (word_no h2 hk),if_neg (word_no h1 hk),if_neg (word_no h3 hk),if_neg (word_no h4 hk),if_neg (word_no h5 hk),if_neg (word_no h6 hk),if_neg (word_no h7 hk),if_neg (word_no h8 hk),if_neg (word_no h9 hk)]
end
end Go.Proofs.YtppoeiofdmlpeaaGreatDoor
