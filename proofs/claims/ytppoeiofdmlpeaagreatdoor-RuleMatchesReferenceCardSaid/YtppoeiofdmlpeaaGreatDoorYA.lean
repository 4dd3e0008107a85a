/- Texts made of pieces, and their tokens. No condition. The tokens of a valid rule's text. No condition. The tokens of a valid rule's text are parsed as the rule. No condition. A valid rule is parsed from its text; different ones have different texts. No condition. bogieref20.SameCond, Same: equality of conditions and of rules. Condition: they lie in memory. What the tokens of a text are: their places, their sizes together, their numbers. No condition. bogieref05.Name: the reference's names are the lexer's. No condition but that the string's length is a length. bogieref01.digits, Decimal: what they return. No condition but that the numbers fit. -/
import Derived.BigQuiet
import Derived.IntWalk
import Derived.Lib.ItoaLen
import Derived.Lib.ItoaMem
import Derived.Test.YtppoeiofdmlpeaaGreatDoorU01
import Derived.Test.YtppoeiofdmlpeaaGreatDoorU02
import Derived.Test.YtppoeiofdmlpeaaGreatDoorU04
import Derived.Test.YtppoeiofdmlpeaaGreatDoorU10
import Derived.Test.YtppoeiofdmlpeaaGreatDoorU15
namespace Go.Proofs.YtppoeiofdmlpeaaGreatDoor
open Go Go.RowKit
/-- A token without its place. -/
abbrev Tk:=Int × ByteArray
def tkOf (f:Fnd):Tk:=(f.kind,f.text)
/-- A byte behind which a token ends. -/
def brk (c:UInt8):Prop:=cls c.toNat = 1∨cls c.toNat = 6
def Brk (B:List UInt8):Prop:=B = []∨∃ c B',B = c :: B'∧brk c
def Bg (B:List UInt8):Prop:=∃ c B',B = c :: B'∧brk c
theorem Bg.app {a:List UInt8} (h:Bg a) (b:List UInt8):Bg (a++b):=by
  obtain ⟨c,r,rfl,h⟩:=h
  exact ⟨c,r++b,rfl,h⟩
theorem Bg.brk {a:List UInt8} (h:Bg a):Brk a:=.inr h
theorem cls_brk {s:ByteArray} {A B:List UInt8} (h:s.data.toList = A++B) (hB:Brk B):clsAt s A.length = 0∨clsAt s A.length = 1∨clsAt s A.length = 6:=by
  have hs:=size_of h
  rcases hB with rfl | ⟨c,B',rfl,hc⟩
  · left;unfold clsAt;rw [if_neg (by simp at hs;omega)]
  · right
    have:=cls_in (A:=A) (w:=[c]) (B:=B') h (k:=0) (by simp)
    rw [Nat.add_zero] at this
    rw [this];exact hc
theorem brk_at {s:ByteArray} {A w B:List UInt8} (h:s.data.toList = A++(w++B)) (hB:Brk B):clsAt s (A.length+w.length) = 0∨clsAt s (A.length+w.length) = 1∨clsAt s (A.length+w.length) = 6:=by
  have:=cls_brk (A:=A++w) (B:=B) (s:=s) (by rw [h,List.append_assoc]) hB
  rwa [List.length_append] at this
/-- What comes of a text: these tokens, and the tokens behind it. -/
def LexAt (w:List UInt8) (ts:List Tk) (B:List UInt8):Prop :=
  ∀ (s:ByteArray) (A:List UInt8) (n:Nat),s.data.toList = A++(w++B)→w.length+B.length < n →
    ∃ fs m,lexGo s n A.length = fs++lexGo s m (A.length+w.length)∧fs.map tkOf = ts∧(∀ f∈fs,f.err = 0)∧B.length < m
/-- A text that is these tokens, wherever a break follows; whatever follows. -/
def LexT (w:List UInt8) (ts:List Tk):Prop:=∀ B,Brk B→LexAt w ts B
def LexF (w:List UInt8) (ts:List Tk):Prop:=∀ B,LexAt w ts B
theorem LexF.t {w:List UInt8} {ts:List Tk} (h:LexF w ts):LexT w ts:=fun B _=>h B
theorem LexAt.app {a b B:List UInt8} {ta tb:List Tk} (ha:LexAt a ta (b++B)) (hb:LexAt b tb B):LexAt (a++b) (ta++tb) B:=by
  intro s A n hs hn
  rw [List.append_assoc] at hs
  obtain ⟨f1,m1,e1,t1,z1,g1⟩:=ha s A n hs (by rw [List.length_append] at hn;rw [List.length_append];omega)
  obtain ⟨f2,m2,e2,t2,z2,g2⟩:=hb s (A++a) m1 (by rw [hs,List.append_assoc]) (by rw [List.length_append] at g1;exact g1)
  rw [List.length_append] at e2
  refine ⟨f1++f2,m2,by rw [e1,e2,List.append_assoc,List.length_append,Nat.add_assoc],by rw [List.map_append,t1,t2],fun f hf=>?_,g2⟩
  rcases List.mem_append.1 hf with hf | hf
  · exact z1 f hf
  · exact z2 f hf
theorem LexF.ff {a b:List UInt8} {ta tb:List Tk} (ha:LexF a ta) (hb:LexF b tb):LexF (a++b) (ta++tb):=fun B=>(ha _).app (hb B)
theorem LexF.ft {a b:List UInt8} {ta tb:List Tk} (ha:LexF a ta) (hb:LexT b tb):LexT (a++b) (ta++tb):=fun B h=>(ha _).app (hb B h)
theorem LexT.tf {a b:List UInt8} {ta tb:List Tk} (ha:LexT a ta) (hb:LexF b tb) (h:Bg b):LexF (a++b) (ta++tb):=fun B=>(ha _ (h.app B).brk).app (hb B)
theorem LexT.tt {a b:List UInt8} {ta tb:List Tk} (ha:LexT a ta) (hb:LexT b tb) (h:Bg b):LexT (a++b) (ta++tb):=fun B hB=>(ha _ (h.app B).brk).app (hb B hB)
theorem lexF_blank {c:UInt8} (hc:cls c.toNat = 1):LexF [c] []:=by
  intro B s A n hs hn
  have hsz:=size_of hs
  rw [List.length_append,List.length_append] at hsz
  have hl:([c]:List UInt8).length = 1:=rfl
  have h4:=cls_in hs (k:=0) (Nat.lt_succ_self 0)
  rw [Nat.add_zero] at h4
  cases n with
  | zero=>omega
  | succ n=>exact ⟨[],n,by rw [lexGo_succ,if_neg (by omega),if_pos (h4.trans hc)];rfl,rfl,fun f hf=>(by cases hf),by omega⟩
theorem lexF_sym {c:UInt8} (hc:cls c.toNat = 6):LexF [c] [(4,⟨#[c]⟩)]:=by
  intro B s A n hs hn
  have hsz:=size_of hs
  rw [List.length_append,List.length_append] at hsz
  have hl:([c]:List UInt8).length = 1:=rfl
  have h4:=cls_in hs (k:=0) (Nat.lt_succ_self 0)
  rw [Nat.add_zero] at h4
  have h6:clsAt s A.length = 6:=h4.trans hc
  cases n with
  | zero=>omega
  | succ n =>
    refine ⟨[⟨4,⟨#[c]⟩,(A.length:Nat),0⟩],n,?_,rfl,fun f hf=>?_,by omega⟩
    · rw [lexGo_succ,if_neg (by omega),if_neg (by omega),if_neg (by omega),if_neg (by omega),if_neg (by omega),if_neg (by omega),if_pos h6]
      rw [show A.length+1 = A.length+([c]:List UInt8).length from rfl,cut_mid hs]
      rfl
    · rw [List.mem_singleton] at hf;subst hf;rfl
theorem lexF_quote (v:List UInt8):LexF (quoteL v) [(3,⟨v.toArray⟩)]:=by
  intro B s A n hs hn
  have hl:0 < (quoteL v).length:=by simp [quoteL]
  have hsz:=size_of hs
  rw [List.length_append,List.length_append] at hsz
  have hfirst:clsAt s A.length = 7:=by
    have h4:=cls_in hs (k:=0) hl
    rw [Nat.add_zero] at h4
    rw [h4];rfl
  have hu:=unq_quote (cut_rest hs)
  cases n with
  | zero=>omega
  | succ n =>
    refine ⟨[⟨3,⟨v.toArray⟩,(A.length:Nat),0⟩],n,?_,rfl,fun f hf=>?_,by omega⟩
    · rw [lexGo_succ,if_neg (by omega),if_neg (by omega),if_neg (by omega),if_neg (by omega),if_neg (by omega),if_pos hfirst,hu]
      rfl
    · rw [List.mem_singleton] at hf;subst hf;rfl
theorem lexT_name {b:ByteArray} (h:nameB b = true):LexT b.data.toList [(1,b)]:=by
  unfold nameB at h
  obtain ⟨h0,h1,h2⟩:=of_decide_eq_true h
  have hl:b.data.toList.length = b.size:=rfl
  intro B hB s A n hs hn
  have hsz:=size_of hs
  rw [List.length_append,List.length_append] at hsz
  have hc:∀ k (hk:k < b.data.toList.length),okAt k (b.data.toList[k]).toNat = true:=fun k hk=>by
    have:=h2 k (by omega)
    have e:byteAt b k = (b.data.toList[k]).toNat:=by
      unfold byteAt;rw [List.getD_eq_getElem?_getD,List.getElem?_eq_getElem hk];rfl
    rwa [e] at this
  have hfirst:clsAt s A.length = 3:=by
    have h3:=hc 0 (by omega)
    have h4:=cls_in hs (k:=0) (by omega)
    rw [Nat.add_zero] at h4
    rw [h4]
    simpa [okAt] using h3
  have hend:wordEnd s A.length = A.length+b.data.toList.length:=by
    refine end_at hs (wordP s) (fun k hk=>?_) ?_
    · unfold wordP
      rw [cls_in hs hk]
      have:=hc k hk
      unfold okAt at this
      simp only [Bool.or_eq_true,Bool.and_eq_true] at this ⊢
      rcases this with h | ⟨_,h | h⟩
      · exact .inl h
      · exact .inr (.inl h)
      · exact .inr (.inr h)
    · unfold wordP
      rcases brk_at hs hB with h | h | h <;> rw [h] <;> rfl
  cases n with
  | zero=>omega
  | succ n =>
    refine ⟨[⟨1,b,(A.length:Nat),0⟩],n,?_,rfl,fun f hf=>?_,by omega⟩
    · rw [lexGo_succ,if_neg (by omega),if_neg (by omega),if_neg (by omega),if_pos hfirst,hend,if_neg (by omega),cut_mid hs]
      rfl
    · rw [List.mem_singleton] at hf;subst hf;rfl
theorem lexT_dec {u:Nat} (h:u < 10000000):LexT (Lib.decDigits u) [(2,⟨(Lib.decDigits u).toArray⟩)]:=by
  obtain ⟨h0,h7⟩:=dec_len h
  intro B hB s A n hs hn
  have hsz:=size_of hs
  rw [List.length_append,List.length_append] at hsz
  have hc:∀ k (hk:k < (Lib.decDigits u).length),cls ((Lib.decDigits u)[k]).toNat = 4:=fun k hk=>cls_digit (dig_in u _ (List.getElem_mem hk))
  have hfirst:clsAt s A.length = 4:=by
    have h4:=cls_in hs (k:=0) h0
    rw [Nat.add_zero] at h4
    rw [h4];exact hc 0 h0
  have hst:=brk_at hs hB
  have hend:digEnd s A.length = A.length+(Lib.decDigits u).length:=by
    refine end_at hs (digP s) (fun k hk=>?_) ?_
    · unfold digP
      rw [cls_in hs hk,hc k hk];rfl
    · unfold digP
      rcases hst with h | h | h <;> rw [h] <;> rfl
  cases n with
  | zero=>omega
  | succ n =>
    refine ⟨[⟨2,⟨(Lib.decDigits u).toArray⟩,(A.length:Nat),0⟩],n,?_,rfl,fun f hf=>?_,by omega⟩
    · rw [lexGo_succ,if_neg (by omega),if_neg (by omega),if_neg (by omega),if_neg (by omega),if_pos hfirst,hend,if_neg (by omega),cut_mid hs]
      rfl
    · rw [List.mem_singleton] at hf;subst hf;rfl
theorem lexT_int {n:Int} (h0:0≤n) (h1:n≤9999999):LexT (itoaB n).data.toList [(2,itoaB n)]:=by
  obtain ⟨u,rfl⟩:∃ u:Nat,n = u:=⟨n.toNat,by omega⟩
  have e:itoaB (u:Int) = ⟨(Lib.decDigits u).toArray⟩:=by
    unfold itoaB Lib.itoa
    rw [if_neg (by omega)];rfl
  rw [e]
  exact lexT_dec (by omega)
/-- The tokens of a whole text. -/
theorem lex_whole {s:ByteArray} {ts:List Tk} (h:LexT s.data.toList ts) (h1:s.size≤20000) (h2:ts.length≤5000):∃ fs,lexL s = (fs,0,0)∧fs.map tkOf = ts:=by
  obtain ⟨fs,m,e,ht,hz,hm⟩:=h [] (.inl rfl) s [] (s.size+1) (by simp) (by simp)
  have hn:lexGo s m (([]:List UInt8).length+s.data.toList.length) = []:=by
    cases m with
    | zero=>omega
    | succ m=>rw [lexGo_succ,if_pos (by simp)]
  rw [hn,List.append_nil] at e
  refine ⟨fs,?_,ht⟩
  have hlen:fs.length = ts.length:=by rw [←ht,List.length_map]
  unfold lexL
  rw [if_neg (by omega),show lexF s = fs from e,takeF_all fs [] hz (by simp;omega)]
  rfl
end Go.Proofs.YtppoeiofdmlpeaaGreatDoor
namespace Go.Proofs.YtppoeiofdmlpeaaGreatDoor
open Go Go.RowKit
def kidK (op kop:Int) (t:List Tk):List Tk:=if (kop = 3∨kop = 4)∧op≤4 then (4,wOpen) :: (t++[(4,wShut)]) else t
def joinK (sep:Tk):List (List Tk)→List Tk
  | []=>[]
  | t :: r=>t++r.flatMap (sep :: ·)
def nodeK (op:Int) (name value:ByteArray) (n extra:Int) (ts:List (List Tk)):List Tk :=
  if op = 2 then (1,wNot) :: ts.getD 0 []
  else if op = 3 then joinK (1,wAnd) ts
  else if op = 4 then joinK (1,wOr) ts
  else if op = 5 then (1,wLimit) :: (1,name) :: (2,itoaB n) :: (if 0 < extra then [(1,wPlus),(2,itoaB extra)] else [])
  else if op = 6 then [(1,wOver),(1,name),(2,itoaB n)]
  else if op = 7 then [(1,name),(4,wEq),(3,value)]
  else if op = 8 then [(1,wHas),(1,name)]
  else if op = 9 then [(1,wSlot),(1,name),(1,wIs),(1,value)]
  else if op = 10 then (1,wAll) :: (1,name) :: (4,wOpen) :: (ts.getD 0 []++[(4,wShut)])
  else if op = 11 then (1,wAny) :: (1,name) :: (4,wOpen) :: (ts.getD 0 []++[(4,wShut)])
  else if op = 12 then [(1,wAt),(1,wLeast),(2,itoaB n),(1,name)]
  else [(1,wTrue)]
mutual
/-- The tokens of a condition's text. -/
def tokE:Ex→List Tk
  | .mk op name value n extra ks=>nodeK op name value n extra (tokEs op ks)
def tokEs (op:Int):List Ex→List (List Tk)
  | []=>[]
  | k :: ks=>kidK op k.op (tokE k) :: tokEs op ks
end
theorem tokE_eq (e:Ex):tokE e = nodeK e.op e.name e.value e.n e.extra (tokEs e.op e.kids):=by cases e;rw [tokE];rfl
theorem tokEs_cons (op:Int) (k:Ex) (ks:List Ex):tokEs op (k :: ks) = kidK op k.op (tokE k) :: tokEs op ks:=by rw [tokEs]
theorem tokEs_nil (op:Int):tokEs op [] = []:=by rw [tokEs]
def ruleK (r:Ru):List Tk:=(1,wRule) :: (1,r.name) :: (1,wFor) :: (1,r.kind) :: (4,wColon) :: (tokE r.cond++[(4,wSemi)])
theorem toL_app (a b:ByteArray):(a++b).data.toList = a.data.toList++b.data.toList:=by
  rw [ByteArray.data_append,Array.toList_append]
theorem lexF_sp:LexF [32] []:=lexF_blank (by decide +kernel)
theorem bg_sp (l:List UInt8):Bg (32 :: l):=⟨32,l,rfl,.inl (by decide +kernel)⟩
theorem lexF_open:LexF [40] [(4,wOpen)]:=lexF_sym (by decide +kernel)
theorem lexF_shut:LexF [41] [(4,wShut)]:=lexF_sym (by decide +kernel)
theorem bg_shut:Bg [41]:=⟨41,[],rfl,.inr (by decide +kernel)⟩
/-- A word, and a space behind it. -/
theorem lexF_word {b:ByteArray} (h:nameB b = true):LexF (b.data.toList++[32]) [(1,b)]:=(lexT_name h).tf lexF_sp (bg_sp [])
theorem lexF_num {n:Int} (h0:0≤n) (h1:n≤9999999):LexF ((itoaB n).data.toList++[32]) [(2,itoaB n)]:=(lexT_int h0 h1).tf lexF_sp (bg_sp [])
theorem lexF_sNot:LexF sNot.data.toList [(1,wNot)]:=lexF_word (b:=wNot) (by decide +kernel)
theorem lexF_sLimit:LexF sLimit.data.toList [(1,wLimit)]:=lexF_word (b:=wLimit) (by decide +kernel)
theorem lexF_sOver:LexF sOver.data.toList [(1,wOver)]:=lexF_word (b:=wOver) (by decide +kernel)
theorem lexF_sHas:LexF sHas.data.toList [(1,wHas)]:=lexF_word (b:=wHas) (by decide +kernel)
theorem lexF_sSlot:LexF sSlot.data.toList [(1,wSlot)]:=lexF_word (b:=wSlot) (by decide +kernel)
theorem lexF_sAll:LexF sAll.data.toList [(1,wAll)]:=lexF_word (b:=wAll) (by decide +kernel)
theorem lexF_sAny:LexF sAny.data.toList [(1,wAny)]:=lexF_word (b:=wAny) (by decide +kernel)
theorem lexF_sRule:LexF sRule.data.toList [(1,wRule)]:=lexF_word (b:=wRule) (by decide +kernel)
theorem lexF_sAt:LexF sAt.data.toList [(1,wAt),(1,wLeast)]:=(lexF_word (b:=wAt) (by decide +kernel)).ff (lexF_word (b:=wLeast) (by decide +kernel))
theorem lexF_sAnd:LexF sAnd.data.toList [(1,wAnd)]:=lexF_sp.ff (lexF_word (b:=wAnd) (by decide +kernel))
theorem lexF_sOr:LexF sOr.data.toList [(1,wOr)]:=lexF_sp.ff (lexF_word (b:=wOr) (by decide +kernel))
theorem lexF_sPlus:LexF sPlus.data.toList [(1,wPlus)]:=lexF_sp.ff (lexF_word (b:=wPlus) (by decide +kernel))
theorem lexF_sIs:LexF sIs.data.toList [(1,wIs)]:=lexF_sp.ff (lexF_word (b:=wIs) (by decide +kernel))
theorem lexF_sFor:LexF sFor.data.toList [(1,wFor)]:=lexF_sp.ff (lexF_word (b:=wFor) (by decide +kernel))
theorem lexF_sEq:LexF sEq.data.toList [(4,wEq)]:=lexF_sp.ff ((lexF_sym (c:=61) (by decide +kernel)).ff lexF_sp)
theorem lexF_sOpen:LexF sOpen.data.toList [(4,wOpen)]:=lexF_sp.ff lexF_open
theorem lexF_sColon:LexF sColon.data.toList [(4,wColon)]:=(lexF_sym (c:=58) (by decide +kernel)).ff lexF_sp
theorem lexF_sEnd:LexF sEnd.data.toList [(4,wSemi)]:=(lexF_sym (c:=59) (by decide +kernel)).ff (lexF_blank (c:=10) (by decide +kernel))
theorem bg_colon:Bg sColon.data.toList:=⟨58,[32],rfl,.inr (by decide +kernel)⟩
theorem bg_end:Bg sEnd.data.toList:=⟨59,[10],rfl,.inr (by decide +kernel)⟩
theorem lexT_kid {op kop:Int} {t:ByteArray} {ts:List Tk} (h:LexT t.data.toList ts):LexT (kidT op kop t).data.toList (kidK op kop ts):=by
  unfold kidT kidK
  split
  · rw [toL_app,toL_app]
    have h1:=(lexF_open.ft h).tf lexF_shut bg_shut
    rw [List.append_assoc] at h1 ⊢
    exact h1.t
  · exact h
theorem lexT_tail {sep:List UInt8} {st:Tk} (hF:LexF sep [st]) (hB:Bg sep):∀ (ks:List Ex) (op:Int),(∀ k∈ks,LexT (texE k).data.toList (tokE k))→∀ (w:List UInt8) (t:List Tk),LexT w t →
    LexT (w++Lib.joinTail sep ((texs op ks).map fun b=>b.data.toList)) (t++(tokEs op ks).flatMap (st :: ·))
  | [],op,_,w,t,hw=>by
    rw [texs_nil,tokEs_nil]
    simpa [Lib.joinTail] using hw
  | k :: ks,op,hk,w,t,hw=>by
    have h1:=lexT_kid (op:=op) (kop:=k.op) (hk k (List.mem_cons_self ..))
    have h2:=hw.tt (hF.ft h1) (hB.app _)
    have h3:=lexT_tail hF hB ks op (fun x hx=>hk x (List.mem_cons_of_mem _ hx)) _ _ h2
    rw [texs_cons,tokEs_cons]
    simpa [Lib.joinTail] using h3
theorem lexT_joined {sep:ByteArray} {st:Tk} (hF:LexF sep.data.toList [st]) (hB:Bg sep.data.toList) (k:Ex) (ks:List Ex) (op:Int) (hk:∀ x∈k :: ks,LexT (texE x).data.toList (tokE x)) :
    LexT (joined (texs op (k :: ks)) sep).data.toList (joinK st (tokEs op (k :: ks))):=by
  rw [texs_cons,tokEs_cons]
  show LexT (Lib.join ((kidT op k.op (texE k) :: texs op ks).map (·.data.toList)) sep.data.toList) (kidK op k.op (tokE k)++(tokEs op ks).flatMap (st :: ·))
  rw [List.map_cons,Lib.join_cons]
  exact lexT_tail hF hB ks op (fun x hx=>hk x (List.mem_cons_of_mem _ hx)) _ _ (lexT_kid (hk k (List.mem_cons_self ..)))
theorem one_kid {ks:List Ex} (h:ks.length = 1):∃ c,ks = [c]:=List.length_eq_one_iff.1 h
theorem two_kids {ks:List Ex} (h:2≤ks.length):∃ c d r,ks = c :: d :: r:=by
  match ks,h with
  | c :: d :: r,_=>exact ⟨c,d,r,rfl⟩
set_option maxHeartbeats 2000000 in
theorem texE_lex:∀ e:Ex,allB e = true→LexT (texE e).data.toList (tokE e):=by
  refine Ex.ind fun e ih h=>?_
  rw [allB_eq,Bool.and_eq_true,allsB_all,List.all_eq_true] at h
  obtain ⟨h1,h2⟩:=h
  have hk:∀ k∈e.kids,LexT (texE k).data.toList (tokE k):=fun k hm=>ih k hm (h2 k hm)
  obtain ⟨hop,hkids,hnm,hres,hv,hn,hx⟩:=node_parts h1
  rw [texE_eq,tokE_eq]
  generalize e.kids = ks at *
  generalize e.op = op at *
  generalize e.name = name at *
  generalize e.value = value at *
  generalize e.n = n at *
  generalize e.extra = extra at *
  clear ih h1 h2
  obtain rfl | rfl | rfl | rfl | rfl | rfl | rfl | rfl | rfl | rfl | rfl | rfl:op = 1∨op = 2∨op = 3∨op = 4∨op = 5∨op = 6∨op = 7∨op = 8∨op = 9∨op = 10∨op = 11∨op = 12:=by omega
  all_goals simp only [Int.reduceEq,Int.reduceLE,if_true,if_false,or_self,or_true,or_false] at hkids hnm hv hn hx
  all_goals simp only [nodeT,nodeK,Int.reduceEq,if_true,if_false]
  · exact lexT_name (b:=wTrue) (by decide +kernel)
  · obtain ⟨c,rfl⟩:=one_kid hkids
    rw [texs_cons,tokEs_cons,toL_app]
    exact lexF_sNot.ft (lexT_kid (hk c (List.mem_cons_self ..)))
  · obtain ⟨c,d,r,rfl⟩:=two_kids hkids
    exact lexT_joined lexF_sAnd (bg_sp _) c (d :: r) 3 hk
  · obtain ⟨c,d,r,rfl⟩:=two_kids hkids
    exact lexT_joined lexF_sOr (bg_sp _) c (d :: r) 4 hk
  · split
    · rename_i hp
      simp only [toL_app,List.append_assoc]
      exact lexF_sLimit.ft (b:=_++_) ((lexT_name hnm).tt (lexF_sp.ft ((lexT_int hn.1 hn.2).tt (lexF_sPlus.ft (lexT_int hx.1 hx.2)) (bg_sp _))) (bg_sp _))
    · simp only [toL_app,List.append_assoc]
      exact lexF_sLimit.ft ((lexT_name hnm).tt (lexF_sp.ft (lexT_int hn.1 hn.2)) (bg_sp _))
  · simp only [toL_app,List.append_assoc]
    exact lexF_sOver.ft ((lexT_name hnm).tt (lexF_sp.ft (lexT_int hn.1 hn.2)) (bg_sp _))
  · simp only [toL_app,List.append_assoc]
    exact ((lexT_name hnm).tf (lexF_sEq.ff (lexF_quote value.data.toList)) (bg_sp _)).t
  · simp only [toL_app]
    exact lexF_sHas.ft (lexT_name hnm)
  · simp only [toL_app,List.append_assoc]
    exact lexF_sSlot.ft ((lexT_name hnm).tt (lexF_sIs.ft (lexT_name hv)) (bg_sp _))
  · obtain ⟨c,rfl⟩:=one_kid hkids
    rw [texs_cons,tokEs_cons]
    simp only [toL_app,List.append_assoc]
    exact lexF_sAll.ft ((lexT_name hnm).tt (lexF_sOpen.ft (((lexT_kid (hk c (List.mem_cons_self ..))).tf lexF_shut bg_shut).t)) (bg_sp _))
  · obtain ⟨c,rfl⟩:=one_kid hkids
    rw [texs_cons,tokEs_cons]
    simp only [toL_app,List.append_assoc]
    exact lexF_sAny.ft ((lexT_name hnm).tt (lexF_sOpen.ft (((lexT_kid (hk c (List.mem_cons_self ..))).tf lexF_shut bg_shut).t)) (bg_sp _))
  · simp only [toL_app,List.append_assoc]
    exact lexF_sAt.ft ((lexT_int (by omega) hn.2).tt (lexF_sp.ft (lexT_name hnm)) (bg_sp _))
theorem ruleT_lex {r:Ru} (h:ruleB r = true):LexT (ruleT r).data.toList (ruleK r):=by
  unfold ruleB condB at h
  simp only [Bool.and_eq_true,decide_eq_true_eq] at h
  obtain ⟨h1,h2,_,h4⟩:=h
  unfold ruleT ruleK
  simp only [toL_app,List.append_assoc]
  exact lexF_sRule.ft ((lexT_name h1).tt (lexF_sFor.ft ((lexT_name h2).tt (lexF_sColon.ft (((texE_lex _ h4).tf lexF_sEnd bg_end).t)) (bg_colon.app _))) (bg_sp _))
end Go.Proofs.YtppoeiofdmlpeaaGreatDoor
namespace Go.Proofs.YtppoeiofdmlpeaaGreatDoor
open Go Go.RowKit
/-- Tokens that are these, apart from their places. -/
def Are (fs:List Fnd) (ts:List Tk):Prop:=fs.map tkOf = ts
theorem are_nil {fs:List Fnd} (h:Are fs []):fs = []:=List.map_eq_nil_iff.1 h
theorem are_cons {fs:List Fnd} {t:Tk} {ts:List Tk} (h:Are fs (t :: ts)):∃ f g,fs = f :: g∧f.kind = t.1∧f.text = t.2∧Are g ts:=by
  obtain ⟨f,g,rfl,h1,h2⟩:=List.map_eq_cons_iff.1 h
  exact ⟨f,g,rfl,congrArg Prod.fst h1,congrArg Prod.snd h1,h2⟩
theorem are_app {fs:List Fnd} {a b:List Tk} (h:Are fs (a++b)):∃ f g,fs = f++g∧Are f a∧Are g b:=by
  obtain ⟨f,g,h1,h2,h3⟩:=List.map_eq_append_iff.1 h
  exact ⟨f,g,h1,h2,h3⟩
theorem are_len {fs:List Fnd} {ts:List Tk} (h:Are fs ts):fs.length = ts.length:=by rw [←h,List.length_map]
theorem skip_is {f:Fnd} {s:ByteArray} {k:Int} (r:List Fnd) (h1:f.kind = k) (hk:k = 1∨k = 4) (h2:f.text = s):skipB s (f :: r) = true:=by
  unfold skipB
  exact decide_eq_true ⟨h2,by rw [h1];exact hk⟩
theorem skip_not {f:Fnd} {s t:ByteArray} (r:List Fnd) (h2:f.text = t) (h:t ≠ s):skipB s (f :: r) = false:=by
  unfold skipB
  exact decide_eq_false fun hh=>h (h2.symm.trans hh.1)
theorem want_is {E:Int} {f:Fnd} {s:ByteArray} {k:Int} (r:List Fnd) (h1:f.kind = k) (hk:k = 1∨k = 4) (h2:f.text = s):wantP E s (f :: r) = .ok () r:=by
  unfold wantP
  rw [skip_is r h1 hk h2]
  rfl
theorem next_is {E k:Int} {f:Fnd} {s:ByteArray} {check:ByteArray→Bool} (r:List Fnd) (h1:f.kind = k) (h2:f.text = s) (hc:check s = true):nextP E k check (f :: r) = .ok s r:=by
  show (if f.kind = k then (if check f.text then Got.ok f.text r else .bad 13 f.pos) else .bad 8 f.pos) = _
  rw [if_pos h1,h2,if_pos hc]
theorem name_is {E:Int} {f:Fnd} {s:ByteArray} (r:List Fnd) (h1:f.kind = 1) (h2:f.text = s) (hc:nameB s = true):nameP E (f :: r) = .ok s r:=next_is r h1 h2 hc
theorem num_is {E low:Int} {f:Fnd} {n:Int} (r:List Fnd) (h1:f.kind = 2) (h2:f.text = itoaB n) (h0:0≤n) (h9:n≤9999999) (hl:low≤n):numP E low (f :: r) = .ok n r:=by
  have hv:=num_int h0 (show n < 10000000 by omega)
  unfold numP
  rw [next_is r h1 h2 (show numB low (itoaB n) = true by unfold numB;rw [hv];exact decide_eq_true hl)]
  show Got.ok (atoiV (itoaB n).data.toList) r = _
  rw [hv]
section
variable {E:Int} {one:List Fnd→Got Ex}
/-- The further things of a list. -/
theorem more_are {word:ByteArray} (sk:Int) (hsk:sk = 1∨sk = 4) (op:Int):∀ (ks:List Ex) (n:Nat) (fs r:List Fnd),Are fs ((tokEs op ks).flatMap ((sk,word) :: ·))→ks.length≤n→skipB word r = false →
    (∀ k∈ks, ∀ f q,Are f (kidK op k.op (tokE k))→f.length < fs.length→(q = r∨∃ t q',q = t :: q'∧t.text = word)→one (f++q) = .ok k q) →
    moreP word one n (fs++r) = .ok ks r
  | [],n,fs,r,h,_,hr,_=>by
    rw [tokEs_nil] at h
    have:=are_nil h
    subst this
    rw [List.nil_append]
    cases n with
    | zero=>rfl
    | succ n=>show (if skipB word r then _ else _) = _;rw [hr];rfl
  | k :: ks,0,fs,r,_,hn,_,_=>by cases hn
  | k :: ks,n+1,fs,r,h,hn,hr,hk=>by
    rw [tokEs_cons,List.flatMap_cons] at h
    obtain ⟨f1,f2,rfl,h1,h2⟩:=are_app h
    obtain ⟨f,g,rfl,k1,k2,h3⟩:=are_cons h1
    have hs:skipB word ((f :: g++f2)++r) = true:=skip_is _ k1 hsk k2
    show (if skipB word ((f :: g++f2)++r) then _ else _) = _
    rw [if_pos hs]
    have hq:f2++r = r∨∃ t q',f2++r = t :: q'∧t.text = word:=by
      cases ks with
      | nil =>
        rw [tokEs_nil] at h2
        have:=are_nil h2
        subst this
        exact .inl rfl
      | cons k2 ks =>
        rw [tokEs_cons,List.flatMap_cons] at h2
        obtain ⟨f3,f4,rfl,h5,_⟩:=are_app h2
        obtain ⟨f5,g5,rfl,_,h6,_⟩:=are_cons h5
        exact .inr ⟨f5,g5++f4++r,rfl,h6⟩
    have ho:=hk k (List.mem_cons_self ..) g (f2++r) h3 (by simp only [List.length_append,List.length_cons];omega) hq
    show ((one (g++f2++r)).bind fun c r=>(moreP word one n r).bind fun cs r2=>.ok (c :: cs) r2) = _
    rw [List.append_assoc,ho]
    show ((moreP word one n (f2++r)).bind fun cs r2=>.ok (k :: cs) r2) = _
    rw [more_are sk hsk op ks n f2 r h2 (by simp at hn;omega) hr fun x hx f' q hf hl hq=>hk x (List.mem_cons_of_mem _ hx) f' q hf (by simp;omega) hq]
    rfl
/-- A list of several things. -/
theorem ser_are {word:ByteArray} (sk:Int) (hsk:sk = 1∨sk = 4) (op:Int) (k:Ex) (ks:List Ex) (fs r:List Fnd) (h:Are fs (joinK (sk,word) (tokEs op (k :: ks)))) (hr:skipB word r = false)
    (hk:∀ x∈k :: ks, ∀ f q,Are f (kidK op x.op (tokE x))→f.length≤fs.length→(q = r∨∃ t q',q = t :: q'∧t.text = word)→one (f++q) = .ok x q) (o:Int) :
    serP word o one (fs++r) = .ok (oneOf o k ks) r:=by
  rw [tokEs_cons] at h
  obtain ⟨f1,f2,rfl,h1,h2⟩:=are_app (show Are fs (kidK op k.op (tokE k)++(tokEs op ks).flatMap ((sk,word) :: ·)) from h)
  have hq:f2++r = r∨∃ t q',f2++r = t :: q'∧t.text = word:=by
    cases ks with
    | nil =>
      rw [tokEs_nil] at h2
      have:=are_nil h2
      subst this
      exact .inl rfl
    | cons k2 ks =>
      rw [tokEs_cons,List.flatMap_cons] at h2
      obtain ⟨f3,f4,rfl,h5,_⟩:=are_app h2
      obtain ⟨f5,g5,rfl,_,h6,_⟩:=are_cons h5
      exact .inr ⟨f5,g5++f4++r,rfl,h6⟩
  have hn:ks.length≤(f2++r).length:=by
    have:=are_len h2
    have h3:∀ ks:List Ex,ks.length≤((tokEs op ks).flatMap ((sk,word) :: ·)).length:=by
      intro ks
      induction ks with
      | nil=>exact Nat.zero_le _
      | cons x r ih=>rw [tokEs_cons,List.flatMap_cons,List.length_append,List.length_cons,List.length_cons];omega
    have:=h3 ks
    rw [List.length_append]
    omega
  unfold serP
  rw [List.append_assoc,hk k (List.mem_cons_self ..) f1 (f2++r) h1 (by simp) hq]
  show ((moreP word one (f2++r).length (f2++r)).bind fun cs r2=>.ok (oneOf o k cs) r2) = _
  rw [more_are sk hsk op ks _ f2 r h2 hn hr fun x hx f' q hf hl hq=>hk x (List.mem_cons_of_mem _ hx) f' q hf (by simp;omega) hq]
  rfl
/-- One thing alone. -/
theorem ser_one {word:ByteArray} {o:Int} {l r:List Fnd} {c:Ex} (h:one l = .ok c r) (hr:skipB word r = false):serP word o one l = .ok c r:=by
  unfold serP
  rw [h]
  show ((moreP word one r.length r).bind fun cs r2=>.ok (oneOf o c cs) r2) = _
  cases hn:r.length with
  | zero=>rfl
  | succ n =>
    show ((if skipB word r then _ else _:Got (List Ex)).bind fun cs r2=>.ok (oneOf o c cs) r2) = _
    rw [hr]
    rfl
end
/-- What follows a condition: no word that goes on with it. -/
def NxA (r:List Fnd):Prop:=skipB wPlus r = false
def NxC (r:List Fnd):Prop:=skipB wPlus r = false∧skipB wAnd r = false∧skipB wOr r = false
theorem nxC_of {t:Fnd} {q:List Fnd} {w:ByteArray} (h:t.text = w) (h1:w ≠ wPlus) (h2:w ≠ wAnd) (h3:w ≠ wOr):NxC (t :: q):=⟨skip_not q h h1,skip_not q h h2,skip_not q h h3⟩
/-- How a condition is read: alone, and in parentheses. -/
def ReadN (e:Ex):Prop:=e.op ≠ 3∧e.op ≠ 4→∀ (E:Int) (k:Nat) (fs r:List Fnd),Are fs (tokE e)→fs.length < k→NxA r→notP E k (fs++r) = .ok e r
def ReadC (e:Ex):Prop:=∀ (E:Int) (k:Nat) (fs r:List Fnd),Are fs (tokE e)→fs.length < k→NxC r→condP (notP E k) (fs++r) = .ok e r
theorem in_are {e:Ex} (h:ReadC e) (E:Int) (k:Nat) (fs r:List Fnd) (hf:Are fs ((4,wOpen) :: (tokE e++[(4,wShut)]))) (hk:fs.length < k+1):inP E (notP E k) (fs++r) = .ok e r:=by
  obtain ⟨f,g,rfl,h1,h2,h3⟩:=are_cons hf
  obtain ⟨g1,g2,rfl,h4,h5⟩:=are_app h3
  obtain ⟨c,q,rfl,h6,h7,h8⟩:=are_cons h5
  have:=are_nil h8
  subst this
  unfold inP
  rw [show (f :: (g1++[c]))++r = f :: (g1++(c :: r)) by simp,want_is _ h1 (.inr rfl) h2]
  show ((condP (notP E k) (g1++(c :: r))).bind fun c r2=>(wantP E wShut r2).bind fun _ r3=>.ok c r3) = _
  rw [h E k g1 (c :: r) h4 (by simp at hk;omega) (nxC_of h7 (by decide) (by decide) (by decide))]
  show ((wantP E wShut (c :: r)).bind fun _ r3=>.ok e r3) = _
  rw [want_is _ h6 (.inr rfl) h7]
  rfl
theorem kid_are {e:Ex} (hN:ReadN e) (hC:ReadC e) {op:Int} (ho:op≤4) (E:Int) (k:Nat) (fs r:List Fnd) (hf:Are fs (kidK op e.op (tokE e))) (hk:fs.length < k) (hr:NxA r):notP E k (fs++r) = .ok e r:=by
  unfold kidK at hf
  by_cases h:e.op = 3∨e.op = 4
  · rw [if_pos ⟨h,ho⟩] at hf
    cases k with
    | zero=>omega
    | succ k =>
      have h2:=in_are hC E k fs r hf hk
      obtain ⟨f,g,rfl,h3,h4,_⟩:=are_cons hf
      rw [notP_succ]
      show (if f.kind = 4∧f.text = wOpen then inP E (notP E k) ((f :: g)++r) else _) = _
      rw [if_pos ⟨h3,h4⟩,h2]
  · rw [if_neg fun hh=>h hh.1] at hf
    exact hN ⟨fun hh=>h (.inl hh),fun hh=>h (.inr hh)⟩ E k fs r hf hk hr
/-- The first word, reserved, and what it reads. -/
theorem not_word {E:Int} {k:Nat} {f:Fnd} {g:List Fnd} {w:ByteArray} (h1:f.kind = 1) (h2:f.text = w) (hw:resB w = true):notP E (k+1) (f :: g) = wordsP E (notP E k) f g:=by
  rw [notP_succ]
  show (if f.kind = 4∧f.text = wOpen then _ else if f.kind = 1∧resB f.text = true then wordsP E (notP E k) f g else _) = _
  rw [if_neg (fun h=>by have:=h.1;omega),if_pos ⟨h1,by rw [h2];exact hw⟩]
set_option maxHeartbeats 4000000 in
theorem node_read {e:Ex} (h1:nodeB e = true) (ih:∀ k∈e.kids,ReadN k∧ReadC k):ReadN e:=by
  obtain ⟨hop,hkids,hnm,hres,hv,hn,hx⟩:=node_parts h1
  rintro ⟨hne3,hne4⟩ E k fs r hf hk hr
  obtain ⟨op,name,value,n,extra,ks⟩:=e
  dsimp only [Ex.op,Ex.name,Ex.value,Ex.n,Ex.extra,Ex.kids] at *
  rw [tokE] at hf
  clear h1
  cases k with
  | zero=>omega
  | succ k =>
  obtain rfl | rfl | rfl | rfl | rfl | rfl | rfl | rfl | rfl | rfl:op = 1∨op = 2∨op = 5∨op = 6∨op = 7∨op = 8∨op = 9∨op = 10∨op = 11∨op = 12:=by omega
  all_goals simp only [Int.reduceEq,Int.reduceLE,if_true,if_false,or_self,or_true,or_false,List.length_eq_zero_iff] at hkids hnm hv hn hx
  all_goals simp only [nodeK,Int.reduceEq,if_true,if_false] at hf
  all_goals (have ez:∀ b:ByteArray,b.size = 0→b = e0:=fun b hb=>ByteArray.size_eq_zero_iff.1 hb)
  · have e1:=ez _ hnm;have e2:=ez _ hv;subst e1;subst e2;subst hn;subst hx;subst hkids
    obtain ⟨f,g,rfl,k1,k2,h3⟩:=are_cons hf
    have:=are_nil h3
    subst this
    rw [List.cons_append,not_word k1 k2 (by decide)]
    unfold wordsP
    rw [if_pos k2]
    rfl
  · have e1:=ez _ hnm;have e2:=ez _ hv;subst e1;subst e2;subst hn;subst hx
    obtain ⟨c,rfl⟩:=one_kid hkids
    obtain ⟨f,g,rfl,k1,k2,h3⟩:=are_cons hf
    rw [tokEs_cons] at h3
    rw [List.cons_append,not_word k1 k2 (by decide)]
    unfold wordsP
    rw [if_neg (by rw [k2];decide),if_pos k2,kid_are (ih c (List.mem_cons_self ..)).1 (ih c (List.mem_cons_self ..)).2 (by decide) E k g r h3 (by simp at hk;omega) hr]
    rfl
  · have e2:=ez _ hv;subst e2;subst hkids
    obtain ⟨f,g,rfl,k1,k2,h3⟩:=are_cons hf
    obtain ⟨f2,g2,rfl,k3,k4,h4⟩:=are_cons h3
    obtain ⟨f3,g3,rfl,k5,k6,h5⟩:=are_cons h4
    rw [List.cons_append,not_word k1 k2 (by decide)]
    unfold wordsP
    rw [if_neg (by rw [k2];decide),if_neg (by rw [k2];decide),if_pos k2]
    unfold limitP
    rw [List.cons_append,name_is _ k3 k4 hnm]
    show ((numP E 0 (f3 :: g3++r)).bind _) = _
    rw [List.cons_append,num_is _ k5 k6 hn.1 hn.2 hn.1]
    show (if skipB wPlus (g3++r) then (numP E 0 (g3++r).tail).bind fun x r3=>Got.ok (Ex.mk 5 name e0 n x []) r3 else Got.ok (Ex.mk 5 name e0 n 0 []) (g3++r)) = _
    split at h5
    · rename_i hp
      obtain ⟨f4,g4,rfl,k7,k8,h6⟩:=are_cons h5
      obtain ⟨f5,g5,rfl,k9,k10,h7⟩:=are_cons h6
      have:=are_nil h7
      subst this
      rw [List.cons_append,if_pos (skip_is _ k7 (.inl rfl) k8)]
      show ((numP E 0 (f5 :: r)).bind fun x r3=>Got.ok (Ex.mk 5 name e0 n x []) r3) = _
      rw [num_is _ k9 k10 hx.1 hx.2 hx.1]
      rfl
    · rename_i hp
      have:=are_nil h5
      subst this
      have:extra = 0:=by omega
      subst this
      rw [List.nil_append,if_neg (by rw [hr];decide)]
  · have e2:=ez _ hv;subst e2;subst hkids;subst hx
    obtain ⟨f,g,rfl,k1,k2,h3⟩:=are_cons hf
    obtain ⟨f2,g2,rfl,k3,k4,h4⟩:=are_cons h3
    obtain ⟨f3,g3,rfl,k5,k6,h5⟩:=are_cons h4
    have:=are_nil h5
    subst this
    rw [List.cons_append,not_word k1 k2 (by decide)]
    unfold wordsP
    rw [if_neg (by rw [k2];decide),if_neg (by rw [k2];decide),if_neg (by rw [k2];decide),if_pos k2]
    unfold overP
    rw [List.cons_append,name_is _ k3 k4 hnm]
    show ((numP E 0 (f3 :: r)).bind _) = _
    rw [num_is _ k5 k6 hn.1 hn.2 hn.1]
    rfl
  · subst hkids;subst hn;subst hx
    obtain ⟨f,g,rfl,k1,k2,h3⟩:=are_cons hf
    obtain ⟨f2,g2,rfl,k3,k4,h4⟩:=are_cons h3
    obtain ⟨f3,g3,rfl,k5,k6,h5⟩:=are_cons h4
    have:=are_nil h5
    subst this
    rw [notP_succ]
    show (if f.kind = 4∧f.text = wOpen then _ else if f.kind = 1∧resB f.text = true then _ else isP E (f :: f2 :: f3 :: r)) = _
    rw [if_neg (fun h=>by have:=h.1;rw [k1] at this;cases this),if_neg (fun h=>by have:=h.2;rw [k2] at this;exact absurd (this.symm.trans (hres rfl)) (by decide))]
    unfold isP
    rw [name_is _ k1 k2 hnm]
    show ((wantP E wEq (f2 :: f3 :: r)).bind _) = _
    rw [want_is _ k3 (.inr rfl) k4]
    show ((nextP E 3 valB (f3 :: r)).bind _) = _
    rw [next_is _ k5 k6 (show valB value = true from decide_eq_true ⟨by omega,hv.2⟩)]
    rfl
  · have e2:=ez _ hv;subst e2;subst hkids;subst hn;subst hx
    obtain ⟨f,g,rfl,k1,k2,h3⟩:=are_cons hf
    obtain ⟨f2,g2,rfl,k3,k4,h4⟩:=are_cons h3
    have:=are_nil h4
    subst this
    rw [List.cons_append,not_word k1 k2 (by decide)]
    unfold wordsP
    rw [if_neg (by rw [k2];decide),if_neg (by rw [k2];decide),if_neg (by rw [k2];decide),if_neg (by rw [k2];decide),if_pos k2]
    unfold hasP
    rw [List.cons_append,name_is _ k3 k4 hnm]
    rfl
  · subst hkids;subst hn;subst hx
    obtain ⟨f,g,rfl,k1,k2,h3⟩:=are_cons hf
    obtain ⟨f2,g2,rfl,k3,k4,h4⟩:=are_cons h3
    obtain ⟨f3,g3,rfl,k5,k6,h5⟩:=are_cons h4
    obtain ⟨f4,g4,rfl,k7,k8,h6⟩:=are_cons h5
    have:=are_nil h6
    subst this
    rw [List.cons_append,not_word k1 k2 (by decide)]
    unfold wordsP
    rw [if_neg (by rw [k2];decide),if_neg (by rw [k2];decide),if_neg (by rw [k2];decide),if_neg (by rw [k2];decide),if_neg (by rw [k2];decide),if_pos k2]
    unfold slotP
    rw [List.cons_append,name_is _ k3 k4 hnm]
    show ((wantP E wIs (f3 :: f4 :: r)).bind _) = _
    rw [want_is _ k5 (.inl rfl) k6]
    show ((nameP E (f4 :: r)).bind _) = _
    rw [name_is _ k7 k8 hv]
    rfl
  · have e2:=ez _ hv;subst e2;subst hn;subst hx
    obtain ⟨c,rfl⟩:=one_kid hkids
    obtain ⟨f,g,rfl,k1,k2,h3⟩:=are_cons hf
    obtain ⟨f2,g2,rfl,k3,k4,h4⟩:=are_cons h3
    rw [tokEs_cons] at h4
    rw [List.cons_append,not_word k1 k2 (by decide)]
    unfold wordsP
    rw [if_neg (by rw [k2];decide),if_neg (by rw [k2];decide),if_neg (by rw [k2];decide),if_neg (by rw [k2];decide),if_neg (by rw [k2];decide),if_neg (by rw [k2];decide),if_pos k2]
    unfold withinP
    rw [List.cons_append,name_is _ k3 k4 hnm]
    show ((inP E (notP E k) (g2++r)).bind _) = _
    rw [in_are (ih c (List.mem_cons_self ..)).2 E k g2 r (by unfold kidK at h4;rw [if_neg (fun h=>absurd h.2 (by decide))] at h4;exact h4) (by simp at hk;omega)]
    rfl
  · have e2:=ez _ hv;subst e2;subst hn;subst hx
    obtain ⟨c,rfl⟩:=one_kid hkids
    obtain ⟨f,g,rfl,k1,k2,h3⟩:=are_cons hf
    obtain ⟨f2,g2,rfl,k3,k4,h4⟩:=are_cons h3
    rw [tokEs_cons] at h4
    rw [List.cons_append,not_word k1 k2 (by decide)]
    unfold wordsP
    rw [if_neg (by rw [k2];decide),if_neg (by rw [k2];decide),if_neg (by rw [k2];decide),if_neg (by rw [k2];decide),if_neg (by rw [k2];decide),if_neg (by rw [k2];decide),if_neg (by rw [k2];decide),if_pos k2]
    unfold withinP
    rw [List.cons_append,name_is _ k3 k4 hnm]
    show ((inP E (notP E k) (g2++r)).bind _) = _
    rw [in_are (ih c (List.mem_cons_self ..)).2 E k g2 r (by unfold kidK at h4;rw [if_neg (fun h=>absurd h.2 (by decide))] at h4;exact h4) (by simp at hk;omega)]
    rfl
  · have e2:=ez _ hv;subst e2;subst hkids;subst hx
    obtain ⟨f,g,rfl,k1,k2,h3⟩:=are_cons hf
    obtain ⟨f2,g2,rfl,k3,k4,h4⟩:=are_cons h3
    obtain ⟨f3,g3,rfl,k5,k6,h5⟩:=are_cons h4
    obtain ⟨f4,g4,rfl,k7,k8,h6⟩:=are_cons h5
    have:=are_nil h6
    subst this
    rw [List.cons_append,not_word k1 k2 (by decide)]
    unfold wordsP
    rw [if_neg (by rw [k2];decide),if_neg (by rw [k2];decide),if_neg (by rw [k2];decide),if_neg (by rw [k2];decide),if_neg (by rw [k2];decide),if_neg (by rw [k2];decide),if_neg (by rw [k2];decide),if_neg (by rw [k2];decide),if_pos k2]
    unfold atP
    rw [List.cons_append,want_is _ k3 (.inl rfl) k4]
    show ((numP E 1 (f3 :: f4 :: r)).bind _) = _
    rw [num_is _ k5 k6 (by omega) hn.2 hn.1]
    show ((nameP E (f4 :: r)).bind _) = _
    rw [name_is _ k7 k8 hnm]
    rfl
theorem cond_read {e:Ex} (h1:nodeB e = true) (ih:∀ k∈e.kids,ReadN k∧ReadC k):ReadC e:=by
  have hN:=node_read h1 ih
  intro E k fs r hf hk ⟨r1,r2,r3⟩
  by_cases h3:e.op = 3
  · obtain ⟨hop,hkids,hnm,hres,hv,hn,hx⟩:=node_parts h1
    obtain ⟨op,name,value,n,extra,ks⟩:=e
    dsimp only [Ex.op,Ex.name,Ex.value,Ex.n,Ex.extra,Ex.kids] at *
    subst h3
    simp only [Int.reduceEq,Int.reduceLE,if_true,if_false,or_self,or_false] at hkids hnm hv hn hx
    have e1:name = e0:=ByteArray.size_eq_zero_iff.1 hnm
    have e2:value = e0:=ByteArray.size_eq_zero_iff.1 hv
    subst e1;subst e2;subst hn;subst hx
    obtain ⟨c,d,q,rfl⟩:=two_kids hkids
    rw [tokE] at hf
    refine ser_one ?_ r3
    refine ser_are 1 (.inl rfl) 3 c (d :: q) fs r (by simpa [nodeK] using hf) r2 (fun x hx f qq hff hl hq=>?_) 3
    refine kid_are (ih x hx).1 (ih x hx).2 (by decide) E k f qq hff (by omega) ?_
    rcases hq with rfl | ⟨t,q',rfl,ht⟩
    · exact r1
    · exact skip_not q' ht (by decide)
  · by_cases h4:e.op = 4
    · obtain ⟨hop,hkids,hnm,hres,hv,hn,hx⟩:=node_parts h1
      obtain ⟨op,name,value,n,extra,ks⟩:=e
      dsimp only [Ex.op,Ex.name,Ex.value,Ex.n,Ex.extra,Ex.kids] at *
      subst h4
      simp only [Int.reduceEq,Int.reduceLE,if_true,if_false,or_self,or_true] at hkids hnm hv hn hx
      have e1:name = e0:=ByteArray.size_eq_zero_iff.1 hnm
      have e2:value = e0:=ByteArray.size_eq_zero_iff.1 hv
      subst e1;subst e2;subst hn;subst hx
      obtain ⟨c,d,q,rfl⟩:=two_kids hkids
      rw [tokE] at hf
      refine ser_are 1 (.inl rfl) 4 c (d :: q) fs r (by simpa [nodeK] using hf) r3 (fun x hx f qq hff hl hq=>?_) 4
      refine ser_one (kid_are (ih x hx).1 (ih x hx).2 (by decide) E k f qq hff (by omega) ?_) ?_
      · rcases hq with rfl | ⟨t,q',rfl,ht⟩
        · exact r1
        · exact skip_not q' ht (by decide)
      · rcases hq with rfl | ⟨t,q',rfl,ht⟩
        · exact r2
        · exact skip_not q' ht (by decide)
    · exact ser_one (ser_one (hN ⟨h3,h4⟩ E k fs r hf hk r1) r2) r3
theorem all_read:∀ e:Ex,allB e = true→ReadN e∧ReadC e:=by
  refine Ex.ind fun e ih h=>?_
  rw [allB_eq,Bool.and_eq_true,allsB_all,List.all_eq_true] at h
  have hk:∀ k∈e.kids,ReadN k∧ReadC k:=fun k hm=>ih k hm (h.2 k hm)
  exact ⟨node_read h.1 hk,cond_read h.1 hk⟩
theorem rule_read {r:Ru} (h:ruleB r = true) (E:Int) {fs:List Fnd} (hf:Are fs (ruleK r)):ruleP E fs = .ok r []:=by
  obtain ⟨a,b,c⟩:=r
  unfold ruleB condB at h
  simp only [Bool.and_eq_true,decide_eq_true_eq] at h
  obtain ⟨h1,h2,_,h4⟩:=h
  obtain ⟨f1,g1,rfl,a1,b1,h5⟩:=are_cons hf
  obtain ⟨f2,g2,rfl,a2,b2,h5⟩:=are_cons h5
  obtain ⟨f3,g3,rfl,a3,b3,h5⟩:=are_cons h5
  obtain ⟨f4,g4,rfl,a4,b4,h5⟩:=are_cons h5
  obtain ⟨f5,g5,rfl,a5,b5,h5⟩:=are_cons h5
  obtain ⟨g,g6,rfl,h6,h7⟩:=are_app h5
  obtain ⟨f6,g7,rfl,a6,b6,h7⟩:=are_cons h7
  have:=are_nil h7
  subst this
  unfold ruleP
  rw [want_is _ a1 (.inl rfl) b1]
  show ((nameP E (f2 :: f3 :: f4 :: f5 :: (g++[f6]))).bind _) = _
  rw [name_is _ a2 b2 h1]
  show ((wantP E wFor (f3 :: f4 :: f5 :: (g++[f6]))).bind _) = _
  rw [want_is _ a3 (.inl rfl) b3]
  show ((nameP E (f4 :: f5 :: (g++[f6]))).bind _) = _
  rw [name_is _ a4 b4 h2]
  show ((wantP E wColon (f5 :: (g++[f6]))).bind _) = _
  rw [want_is _ a5 (.inr rfl) b5]
  show ((condP (notP E _) (g++[f6])).bind _) = _
  rw [(all_read c h4).2 E _ g [f6] h6 (by simp;omega) (nxC_of b6 (by decide) (by decide) (by decide))]
  show ((wantP E wSemi [f6]).bind _) = _
  rw [want_is _ a6 (.inr rfl) b6]
  rfl
end Go.Proofs.YtppoeiofdmlpeaaGreatDoor
namespace Go.Proofs.YtppoeiofdmlpeaaGreatDoor
open Go Go.RowKit
def sumK:List (List Tk)→Nat
  | []=>0
  | t :: ts=>t.length+sumK ts
theorem joinK_len (sep:Tk):∀ ts:List (List Tk),(joinK sep ts).length≤sumK ts+ts.length
  | []=>Nat.le_refl _
  | t :: r=>by
    have h:∀ r:List (List Tk),(r.flatMap (sep :: ·)).length = sumK r+r.length:=by
      intro r
      induction r with
      | nil=>rfl
      | cons a r ih=>rw [List.flatMap_cons,List.length_append,ih,List.length_cons,List.length_cons];show _ = a.length+sumK r+_;omega
    show (t++r.flatMap (sep :: ·)).length≤t.length+sumK r+_
    rw [List.length_append,h,List.length_cons]
    omega
theorem kidK_len (op kop:Int) (t:List Tk):(kidK op kop t).length≤t.length+2:=by
  unfold kidK
  split
  · simp
  · omega
theorem sumK_getD (ts:List (List Tk)):(ts.getD 0 []).length≤sumK ts:=by
  cases ts with
  | nil=>exact Nat.le_refl _
  | cons a r=>show a.length≤a.length+sumK r;omega
theorem tokEs_sum (op:Int):∀ ks:List Ex,(∀ k∈ks,(tokE k).length+3≤9*cnt k)→sumK (tokEs op ks)+(tokEs op ks).length≤9*cnts ks
  | [],_=>by rw [tokEs_nil];exact Nat.zero_le _
  | k :: ks,h=>by
    have h1:=h k (List.mem_cons_self ..)
    have h2:=tokEs_sum op ks fun x hx=>h x (List.mem_cons_of_mem _ hx)
    have h3:=kidK_len op k.op (tokE k)
    rw [tokEs_cons,cnts_cons,List.length_cons]
    show (kidK op k.op (tokE k)).length+sumK (tokEs op ks)+_≤_
    omega
theorem ite_len {p:Prop} [Decidable p] {a b:List Tk} {n:Nat} (ha:a.length≤n) (hb:b.length≤n):(if p then a else b).length≤n:=by
  by_cases h:p
  · rw [if_pos h];exact ha
  · rw [if_neg h];exact hb
theorem tokE_len:∀ e:Ex,(tokE e).length+3≤9*cnt e:=by
  refine Ex.ind fun e ih=>?_
  have h:=tokEs_sum e.op e.kids ih
  have hg:=sumK_getD (tokEs e.op e.kids)
  have h3:=joinK_len (1,wAnd) (tokEs e.op e.kids)
  have h4:=joinK_len (1,wOr) (tokEs e.op e.kids)
  rw [tokE_eq,cnt_eq]
  have hN:(nodeK e.op e.name e.value e.n e.extra (tokEs e.op e.kids)).length≤5+9*cnts e.kids:=by
    unfold nodeK
    have hx:(if 0 < e.extra then [((1:Int),wPlus),(2,itoaB e.extra)] else []).length≤2:=ite_len (Nat.le_refl _) (Nat.zero_le _)
    refine ite_len ?_ (ite_len ?_ (ite_len ?_ (ite_len ?_ (ite_len ?_ (ite_len ?_ (ite_len ?_ (ite_len ?_ (ite_len ?_ (ite_len ?_ (ite_len ?_ ?_))))))))))
    all_goals try simp only [List.length_cons,List.length_append,List.length_nil]
    all_goals omega
  omega
theorem parse_textT {r:Ru} (h:ruleB r = true) (hs:(ruleT r).size≤20000):parseU (ruleT r) = (r,0,0):=by
  have hc:cnt r.cond≤60:=by
    unfold ruleB condB at h
    simp only [Bool.and_eq_true,decide_eq_true_eq] at h
    exact h.2.2.1
  obtain ⟨fs,h1,h2⟩:=lex_whole (ruleT_lex h) hs (by
    have:=tokE_len r.cond
    unfold ruleK
    simp only [List.length_cons,List.length_append,List.length_nil]
    omega)
  unfold parseU
  rw [h1]
  show (match ruleP (ruleT r).size fs with | .bad e a=>(ru0,e,a) | .ok r _=>if 60 < cnt r.cond then (ru0,7,0) else (r,0,0)) = _
  rw [rule_read h _ h2]
  exact if_neg (by omega)
theorem textT_inj {r s:Ru} (h:ruleB r = true) (hs:ruleB s = true) (hl:(ruleT r).size≤20000) (e:ruleT r = ruleT s):r = s:=by
  have h1:=parse_textT h hl
  have h2:=parse_textT hs (by rw [←e];exact hl)
  rw [e,h2] at h1
  injection h1 with h1 _
  exact h1.symm
end Go.Proofs.YtppoeiofdmlpeaaGreatDoor
namespace Go.Proofs.YtppoeiofdmlpeaaGreatDoor
open Go Go.RowKit
mutual
/-- Two conditions are the same. -/
def sameE:Ex→Ex→Bool
  | .mk o a v n x ks,e=>decide (o = e.op∧a = e.name∧v = e.value∧n = e.n∧x = e.extra∧ks.length = e.kids.length) && sameL ks e.kids
def sameL:List Ex→List Ex→Bool
  | [],_=>true
  | k :: ks,ls=>(match ls with
    | []=>true
    | l :: ls=>sameE k l && sameL ks ls)
end
theorem sameE_eq (a b:Ex):sameE a b = (decide (a.op = b.op∧a.name = b.name∧a.value = b.value∧a.n = b.n∧a.extra = b.extra∧a.kids.length = b.kids.length) && sameL a.kids b.kids):=by
  cases a;rw [sameE];rfl
theorem sameL_nil (ls:List Ex):sameL [] ls = true:=by rw [sameL]
theorem sameL_cons (k l:Ex) (ks ls:List Ex):sameL (k :: ks) (l :: ls) = (sameE k l && sameL ks ls):=by rw [sameL]
theorem sameE_iff:∀ a b:Ex,sameE a b = true ↔ a = b:=by
  refine Ex.ind fun a ih b=>?_
  have hL:∀ ks ls:List Ex,(∀ k∈ks, ∀ l,sameE k l = true ↔ k = l)→ks.length = ls.length→(sameL ks ls = true ↔ ks = ls):=by
    intro ks
    induction ks with
    | nil=>intro ls _ hl;cases ls with | nil=>rw [sameL_nil];exact ⟨fun _=>rfl,fun _=>rfl⟩ | cons l ls=>cases hl
    | cons k ks ih =>
      intro ls hk hl
      cases ls with
      | nil=>cases hl
      | cons l ls =>
        rw [sameL_cons,Bool.and_eq_true,hk k (List.mem_cons_self ..) l,ih ls (fun x hx=>hk x (List.mem_cons_of_mem _ hx)) (by simpa using hl)]
        exact ⟨fun ⟨h1,h2⟩=>by rw [h1,h2],fun h=>by injection h with h1 h2;exact ⟨h1,h2⟩⟩
  rw [sameE_eq,Bool.and_eq_true,decide_eq_true_eq]
  obtain ⟨o,na,v,n,x,ks⟩:=a
  obtain ⟨o',na',v',n',x',ls⟩:=b
  dsimp only [Ex.op,Ex.name,Ex.value,Ex.n,Ex.extra,Ex.kids] at *
  constructor
  · rintro ⟨⟨rfl,rfl,rfl,rfl,rfl,h⟩,hs⟩
    rw [(hL ks ls ih h).1 hs]
  · intro h
    injection h with h1 h2 h3 h4 h5 h6
    subst h6
    exact ⟨⟨h1,h2,h3,h4,h5,rfl⟩,(hL ks ks ih rfl).2 rfl⟩
theorem bytes_ne {a b:ByteArray} (h:¬ a = b):¬ a.toList = b.toList:=by
  intro e
  apply h
  rw [_root_.Go.ByteArray.toList_eq,_root_.Go.ByteArray.toList_eq] at e
  exact ByteArray.ext (Array.toList_inj.1 e)
set_option maxRecDepth 100000 in
set_option maxHeartbeats 8000000 in
theorem same_rec:∀ (M:Nat) (a b:Ex) (kv lv:Value) (w:World),cnt a≤M→M≤100000→Lay w kv a.kids→Lay w lv b.kids →
    Calls Tryz.prog 30 #[.agg #[.int .i64 a.op,.string a.name,.string a.value,.int .i64 a.n,.int .i64 a.extra,kv],.agg #[.int .i64 b.op,.string b.name,.string b.value,.int .i64 b.n,.int .i64 b.extra,lv]] w fun r w'=>r = .returned (.bool (sameE a b))∧Below w.heap.size w w':=by
  intro M
  induction M with
  | zero=>intro a b kv lv w hc;have:=cnt_pos a;omega
  | succ M ih =>
    intro a b kv lv w hc hM hl hm
    have hE:=sameE_eq a b
    have hkid:∀ k,k∈a.kids→cnt k≤M:=fun k hk=>by have:=cnt_kid hk;omega
    have hlen:a.kids.length≤100000:=by
      have:=len_cnts a.kids
      have:=cnt_eq a
      omega
    obtain ⟨r,hr⟩:∃ r,sameE a b = r:=⟨_,rfl⟩
    rw [hr] at hE ⊢
    have hT:(a.op = b.op∧a.name = b.name∧a.value = b.value∧a.n = b.n∧a.extra = b.extra∧a.kids.length = b.kids.length)→r = sameL a.kids b.kids:=fun h=>by rw [hE,decide_eq_true h,Bool.true_and]
    have hF:¬ (a.op = b.op∧a.name = b.name∧a.value = b.value∧a.n = b.n∧a.extra = b.extra∧a.kids.length = b.kids.length)→r = false:=fun h=>by rw [hE,decide_eq_false h,Bool.false_and]
    clear hE hc hr
    obtain ⟨po,pa,pv,pn,px,ks⟩:=a
    obtain ⟨qo,qa,qv,qn,qx,ls⟩:=b
    dsimp only [Ex.op,Ex.name,Ex.value,Ex.n,Ex.extra,Ex.kids] at hT hF hl hm hkid hlen ⊢
    obtain ⟨A,c,rfl,hAc⟩:=hl.slice
    obtain ⟨B,d,rfl,hBd⟩:=hm.slice
    have HL:=Lib.hid hl
    have HM:=Lib.hid hm
    have HK:=Lib.hid hkid
    clear hl hm hkid
    have HB:=Lib.hid (show Below w.heap.size w ((w.alloc (.cells #[.int .i64 po,.string pa,.string pv,.int .i64 pn,.int .i64 px,.slice A ks.length c] 24)).alloc (.cells #[.int .i64 qo,.string qa,.string qv,.int .i64 qn,.int .i64 qx,.slice B ls.length d] 24)) from ((Below.refl _ _).alloc (Nat.le_refl _) _).alloc (by simp) _)
    by_cases hn:po = qo
    rotate_left
    · have hnb:(po == qo) = false:=by simpa using hn
      obtain rfl:=hF (fun h=>hn h.1)
      clear hT hF
      go_enter Tryz.func30,Tryz.ntmps30
      go_wp2_with fail
      go_ret
      exact ⟨rfl,HB.out⟩
    subst hn
    by_cases hn:pa = qa
    rotate_left
    · have hnl:=bytes_ne hn
      have hnb:(pa.toList == qa.toList) = false:=by simpa using hnl
      obtain rfl:=hF (fun h=>hn h.2.1)
      clear hT hF
      go_enter Tryz.func30,Tryz.ntmps30
      go_wp2_with fail
      go_ret
      exact ⟨rfl,HB.out⟩
    subst hn
    by_cases hn:pv = qv
    rotate_left
    · have hnl:=bytes_ne hn
      have hnb:(pv.toList == qv.toList) = false:=by simpa using hnl
      obtain rfl:=hF (fun h=>hn h.2.2.1)
      clear hT hF
      go_enter Tryz.func30,Tryz.ntmps30
      go_wp2_with fail
      go_ret
      exact ⟨rfl,HB.out⟩
    subst hn
    by_cases hn:pn = qn
    rotate_left
    · have hnb:(pn == qn) = false:=by simpa using hn
      obtain rfl:=hF (fun h=>hn h.2.2.2.1)
      clear hT hF
      go_enter Tryz.func30,Tryz.ntmps30
      go_wp2_with fail
      go_ret
      exact ⟨rfl,HB.out⟩
    subst hn
    by_cases hn:px = qx
    rotate_left
    · have hnb:(px == qx) = false:=by simpa using hn
      obtain rfl:=hF (fun h=>hn h.2.2.2.2.1)
      clear hT hF
      go_enter Tryz.func30,Tryz.ntmps30
      go_wp2_with fail
      go_ret
      exact ⟨rfl,HB.out⟩
    subst hn
    by_cases hn:ks.length = ls.length
    rotate_left
    · have hni:¬ (ks.length:Int) = (ls.length:Int):=by omega
      have hnb:((ks.length:Int) == (ls.length:Int)) = false:=by simpa using hni
      obtain rfl:=hF (fun h=>hn h.2.2.2.2.2)
      clear hT hF
      go_enter Tryz.func30,Tryz.ntmps30
      go_wp2_with fail
      go_ret
      exact ⟨rfl,HB.out⟩
    have hnl:ls.length = ks.length:=hn.symm
    have HR:=Lib.hid (hT ⟨rfl,rfl,rfl,rfl,rfl,hn⟩)
    clear hT hF
    rw [hnl]
    rw [hnl] at HB hBd
    have HNL:=Lib.hid hnl
    clear hnl hn
    have HX:=Lib.hid ((Has.new w 24 #[.int .i64 po,.string pa,.string pv,.int .i64 pn,.int .i64 px,.slice A ks.length c]).alloc (.cells #[.int .i64 po,.string pa,.string pv,.int .i64 pn,.int .i64 px,.slice B ks.length d] 24))
    have HY:=Lib.hid (Has.new (w.alloc (.cells #[.int .i64 po,.string pa,.string pv,.int .i64 pn,.int .i64 px,.slice A ks.length c] 24)) 24 #[.int .i64 po,.string pa,.string pv,.int .i64 pn,.int .i64 px,.slice B ks.length d])
    rw [World.size_alloc] at HY
    go_enter Tryz.func30,Tryz.ntmps30
    go_wp2_with fail
    have hz0:w.heap.size+1 < ((w.alloc (.cells #[.int .i64 po,.string pa,.string pv,.int .i64 pn,.int .i64 px,.slice A ks.length c] 24)).alloc (.cells #[.int .i64 po,.string pa,.string pv,.int .i64 pn,.int .i64 px,.slice B ks.length d] 24)).heap.size:=HY.out.lt
    have HLw:=Lib.hid (HL.out.later HB.out)
    have HMw:=Lib.hid (HM.out.later HB.out)
    generalize ((w.alloc (.cells #[.int .i64 po,.string pa,.string pv,.int .i64 pn,.int .i64 px,.slice A ks.length c] 24)).alloc (.cells #[.int .i64 po,.string pa,.string pv,.int .i64 pn,.int .i64 px,.slice B ks.length d] 24)) = w0 at *
    go_loopw [5] (fun i wr=>∃ k:Nat,i = .int .i64 k∧k≤ks.length∧Hid (sameL ks ls = sameL (ks.drop k) (ls.drop k))∧Hid (Below w0.heap.size w0 wr)) (fun i _=>ks.length - (intOf i).toNat)
    case atStart=>exact ⟨0,rfl,Nat.zero_le _,rfl,Below.refl _ _⟩
    case round =>
      obtain ⟨k,rfl,hk,HE,HW⟩:=hrel
      have HXr:=Lib.hid (HX.out.below HW.out (Nat.lt_of_succ_lt hz0))
      have HYr:=Lib.hid (HY.out.below HW.out hz0)
      obtain ⟨dx,fx⟩:=HXr.out.facts
      obtain ⟨dy,fy⟩:=HYr.out.facts
      by_cases hlt:k < ks.length
      · have hki:(k:Int) < (ks.length:Int):=by omega
        have hlt2:k < ls.length:=by rw [HNL.out];exact hlt
        obtain ⟨_,_,hkid⟩:=(HLw.out.later HW.out).kid
        have hmm:=HMw.out.later HW.out
        obtain ⟨_,_,hlid⟩:=hmm.kid
        obtain ⟨b1,o1,kv1,rfl,hcell,hkk⟩:=hkid k hlt
        obtain ⟨b2,o2,kv2,rfl,hdell,hll⟩:=hlid k hlt2
        have hc0:=hcell 0 (by decide)
        have hc1:=hcell 1 (by decide)
        have hc2:=hcell 2 (by decide)
        have hc3:=hcell 3 (by decide)
        have hc4:=hcell 4 (by decide)
        have hc5:=hcell 5 (by decide)
        have hd0:=hdell 0 (by decide)
        have hd1:=hdell 1 (by decide)
        have hd2:=hdell 2 (by decide)
        have hd3:=hdell 3 (by decide)
        have hd4:=hdell 4 (by decide)
        have hd5:=hdell 5 (by decide)
        simp only [exF,if_true,if_false,Nat.reduceEqDiff,Nat.add_one_ne_zero, ← Nat.add_assoc,Nat.add_zero] at hc0 hc1 hc2 hc3 hc4 hc5 hd0 hd1 hd2 hd3 hd4 hd5
        have HC:=Lib.hid (fun W (h1:Lay W kv1 (ks[k]).kids) (h2:Lay W kv2 (ls[k]).kids)=>ih ks[k] ls[k] kv1 kv2 W (HK.out _ (List.getElem_mem hlt)) (by omega) h1 h2)
        have HE2:=Lib.hid (show sameL ks ls = (sameE ks[k] ls[k] && sameL (ks.drop (k+1)) (ls.drop (k+1))) by rw [HE.out,List.drop_eq_getElem_cons hlt,List.drop_eq_getElem_cons hlt2,sameL_cons])
        have HKK:=Lib.hid hkk
        have HLL:=Lib.hid hll
        obtain ⟨A1,c1,rfl,_⟩:=hkk.slice
        obtain ⟨A2,c2,rfl,_⟩:=hll.slice
        have hs3:IntKind.i64.wrap ((k:Int)+1) = (k:Int)+1:=IntWalk.i64_in _ (by omega)
        clear hkid hlid hcell hdell hkk hll hmm
        generalize ks[k] = e1 at *
        generalize ls[k] = e2 at *
        obtain ⟨bs,hbs⟩:∃ x,sameE e1 e2 = x:=⟨_,rfl⟩
        rw [hbs] at HC HE2
        clear hbs
        go_wp2_with fail
        refine wp_region_held_drew (S:=fun W=>W.cell? ⟨w.heap.size,5,none⟩ = some (.slice (some ⟨b1,o1,none⟩) ks.length c)∧W.cell? ⟨w.heap.size+1,5,none⟩ = some (.slice (some ⟨b2,o2,none⟩) ks.length d)∧W.cell? ⟨b1,o1+k*6,none⟩ = some (.int .i64 e1.op)∧W.cell? ⟨b1,o1+k*6+1,none⟩ = some (.string e1.name)∧W.cell? ⟨b1,o1+k*6+2,none⟩ = some (.string e1.value)∧W.cell? ⟨b1,o1+k*6+3,none⟩ = some (.int .i64 e1.n)∧W.cell? ⟨b1,o1+k*6+4,none⟩ = some (.int .i64 e1.extra)∧W.cell? ⟨b1,o1+k*6+5,none⟩ = some (.slice A1 e1.kids.length c1)∧W.cell? ⟨b2,o2+k*6,none⟩ = some (.int .i64 e2.op)∧W.cell? ⟨b2,o2+k*6+1,none⟩ = some (.string e2.name)∧W.cell? ⟨b2,o2+k*6+2,none⟩ = some (.string e2.value)∧W.cell? ⟨b2,o2+k*6+3,none⟩ = some (.int .i64 e2.n)∧W.cell? ⟨b2,o2+k*6+4,none⟩ = some (.int .i64 e2.extra)∧W.cell? ⟨b2,o2+k*6+5,none⟩ = some (.slice A2 e2.kids.length c2)) (by kernel_rfl) (⟨HXr.out.drew.cell 5,HYr.out.drew.cell 5,hc0,hc1,hc2,hc3,hc4,hc5,hd0,hd1,hd2,hd3,hd4,hd5⟩) (fun hHeld=>?_)
        refine plI [(0,false),(1,false),(2,false),(3,false),(4,false),(5,false),(6,false),(7,false),(8,false),(9,false)] ?_
        repeat ((first | ((with_reducible show Plan ((_,true) :: _) _);refine plF ?_) | (refine plR (v:=?_) ?_ ?_;rotate_left;focus (intro W hSW;(try dsimp only at hSW);go_simp;all_goals (with_reducible rfl))));try simp only [Act.put,List.setIfInBounds_toArray,List.set_cons_zero,List.set_cons_succ])
        refine plE ?_
        refine wpAnyH_ready (rs:=[10]) (by kernel_rfl) (by simp) ?_
        refine AllReadyH.cons (o:=⟨_,_,_,_,_,_⟩) rfl (fun K hK=>?_) AllReadyH.nil
        go_simp
        go_at_call 30;refine (HC.out _ (HKK.out.later (Below.refl _ _).drew) (HLL.out.later (Below.refl _ _).drew)).mono ?_;rintro e w2 ⟨rfl,hb⟩;have HW2:=Lib.hid (HW.out.drew.trans (hb.mono HW.out.drew.size));have HS:=Lib.hid (⟨(HXr.out.drew.below hb HXr.out.drew.lt).cell 5,(HYr.out.drew.below hb HYr.out.drew.lt).cell 5,cell_later hb (hc0:wr.drew.cell? _ = _),cell_later hb (hc1:wr.drew.cell? _ = _),cell_later hb (hc2:wr.drew.cell? _ = _),cell_later hb (hc3:wr.drew.cell? _ = _),cell_later hb (hc4:wr.drew.cell? _ = _),cell_later hb (hc5:wr.drew.cell? _ = _),cell_later hb (hd0:wr.drew.cell? _ = _),cell_later hb (hd1:wr.drew.cell? _ = _),cell_later hb (hd2:wr.drew.cell? _ = _),cell_later hb (hd3:wr.drew.cell? _ = _),cell_later hb (hd4:wr.drew.cell? _ = _),cell_later hb (hd5:wr.drew.cell? _ = _)⟩:(fun W=>W.cell? ⟨w.heap.size,5,none⟩ = some (.slice (some ⟨b1,o1,none⟩) ks.length c)∧W.cell? ⟨w.heap.size+1,5,none⟩ = some (.slice (some ⟨b2,o2,none⟩) ks.length d)∧W.cell? ⟨b1,o1+k*6,none⟩ = some (.int .i64 e1.op)∧W.cell? ⟨b1,o1+k*6+1,none⟩ = some (.string e1.name)∧W.cell? ⟨b1,o1+k*6+2,none⟩ = some (.string e1.value)∧W.cell? ⟨b1,o1+k*6+3,none⟩ = some (.int .i64 e1.n)∧W.cell? ⟨b1,o1+k*6+4,none⟩ = some (.int .i64 e1.extra)∧W.cell? ⟨b1,o1+k*6+5,none⟩ = some (.slice A1 e1.kids.length c1)∧W.cell? ⟨b2,o2+k*6,none⟩ = some (.int .i64 e2.op)∧W.cell? ⟨b2,o2+k*6+1,none⟩ = some (.string e2.name)∧W.cell? ⟨b2,o2+k*6+2,none⟩ = some (.string e2.value)∧W.cell? ⟨b2,o2+k*6+3,none⟩ = some (.int .i64 e2.n)∧W.cell? ⟨b2,o2+k*6+4,none⟩ = some (.int .i64 e2.extra)∧W.cell? ⟨b2,o2+k*6+5,none⟩ = some (.slice A2 e2.kids.length c2)) w2);have HBB:=Lib.hid hb;clear hb
        refine hK.out _ _ (HS.out) (fun hHeld=>?_)
        clear hK K
        try simp only [Act.put,List.setIfInBounds_toArray,List.set_cons_zero,List.set_cons_succ]
        refine plI [(11,false)] ?_
        repeat ((first | ((with_reducible show Plan ((_,true) :: _) _);refine plF ?_) | (refine plR (v:=?_) ?_ ?_;rotate_left;focus (intro W hSW;(try dsimp only at hSW);go_simp;all_goals (with_reducible rfl))));try simp only [Act.put,List.setIfInBounds_toArray,List.set_cons_zero,List.set_cons_succ])
        refine plE ?_
        refine wpAnyH_done (by kernel_rfl) ?_ _
        clear hHeld HS
        cases bs with
        | true =>
          have HE3:=Lib.hid (HE2.out.trans (Bool.true_and _))
          clear HE2
          go_wp2_with fail
          go_roundw
          case rel=>exact ⟨k+1,by go_num,hlt,HE3,HW2⟩
          case measure=>simp [intOf];omega
        | false =>
          have HE3:=Lib.hid (HE2.out.trans (Bool.false_and _))
          clear HE2
          go_wp2_with fail
          go_ret
          exact ⟨ret_bool (HR.out.trans HE3.out).symm,HB.out.trans (HW2.out.mono HB.out.size)⟩
      · have hki:¬ (k:Int) < (ks.length:Int):=by omega
        have HE3:=Lib.hid (show sameL ks ls = true by rw [HE.out,List.drop_of_length_le (by omega),sameL_nil])
        go_wp2_with fail
        go_ret
        exact ⟨ret_bool (HR.out.trans HE3.out).symm,HB.out.trans (HW.out.mono HB.out.size)⟩
set_option maxRecDepth 100000 in
set_option maxHeartbeats 8000000 in
def sameU (r s:Ru):Bool:=decide (r.name = s.name) && (decide (r.kind = s.kind) && sameE r.cond s.cond)
theorem sameU_iff (r s:Ru):sameU r s = true ↔ r = s:=by
  obtain ⟨a,b,c⟩:=r
  obtain ⟨a',b',c'⟩:=s
  unfold sameU
  rw [Bool.and_eq_true,Bool.and_eq_true,decide_eq_true_eq,decide_eq_true_eq,sameE_iff]
  exact ⟨fun ⟨h1,h2,h3⟩=>by dsimp only at h1 h2 h3;rw [h1,h2,h3],fun h=>by injection h with h1 h2 h3;exact ⟨h1,h2,h3⟩⟩
set_option maxRecDepth 100000 in
set_option maxHeartbeats 8000000 in
theorem same_any (r s:Ru) (kv lv:Value) (w:World) (hc:cnt r.cond≤100000) (hl:Lay w kv r.cond.kids) (hm:Lay w lv s.cond.kids) :
    Calls Tryz.prog 13 #[.agg (ruA r kv),.agg (ruA s lv)] w fun e w'=>e = .returned (.bool (sameU r s))∧Below w.heap.size w w':=by
  have hb:Below w.heap.size w ((w.alloc (.cells (ruA r kv) 26)).alloc (.cells (ruA s lv) 26)):=((Below.refl _ _).alloc (Nat.le_refl _) _).alloc (by simp) _
  have HB:=Lib.hid hb
  have HC:=Lib.hid (same_rec 100000 r.cond s.cond kv lv _ hc (Nat.le_refl _) (hl.later hb) (hm.later hb))
  obtain ⟨A,c,rfl,_⟩:=hl.slice
  obtain ⟨B,d,rfl,_⟩:=hm.slice
  clear hl hm hb hc
  obtain ⟨ra,rk,rc⟩:=r
  obtain ⟨sa,sk,sc⟩:=s
  dsimp only [ruA] at *
  by_cases h1:ra = sa
  · subst h1
    by_cases h2:rk = sk
    · subst h2
      have HE:=Lib.hid (show sameU ⟨ra,rk,rc⟩ ⟨ra,rk,sc⟩ = sameE rc sc by unfold sameU;rw [decide_eq_true rfl,decide_eq_true rfl,Bool.true_and,Bool.true_and])
      generalize sameE rc sc = bs at *
      go_enter Tryz.func13,Tryz.ntmps13
      go_wp2_with (go_at_call 30;refine HC.out.mono ?_;rintro e w2 ⟨rfl,hb2⟩;have HW2:=Lib.hid (HB.out.trans (hb2.mono HB.out.size));clear hb2)
      go_ret
      exact ⟨ret_bool HE.out.symm,HW2.out⟩
    · have HE:=Lib.hid (show sameU ⟨ra,rk,rc⟩ ⟨ra,sk,sc⟩ = false by unfold sameU;rw [decide_eq_true rfl,decide_eq_false h2,Bool.true_and,Bool.false_and])
      have hnl:=bytes_ne h2
      have hnb:(rk.toList == sk.toList) = false:=by simpa using hnl
      go_enter Tryz.func13,Tryz.ntmps13
      go_wp2_with fail
      go_ret
      exact ⟨ret_bool HE.out.symm,HB.out⟩
  · have HE:=Lib.hid (show sameU ⟨ra,rk,rc⟩ ⟨sa,sk,sc⟩ = false by unfold sameU;rw [decide_eq_false h1,Bool.false_and])
    have hnl:=bytes_ne h1
    have hnb:(ra.toList == sa.toList) = false:=by simpa using hnl
    go_enter Tryz.func13,Tryz.ntmps13
    go_wp2_with fail
    go_ret
    exact ⟨ret_bool HE.out.symm,HB.out⟩
end Go.Proofs.YtppoeiofdmlpeaaGreatDoor
namespace Go.Proofs.YtppoeiofdmlpeaaGreatDoor
open Go Go.RowKit
def tsum:List Fnd→Nat
  | []=>0
  | t :: r=>t.text.size+tsum r
theorem tsum_app:∀ a b:List Fnd,tsum (a++b) = tsum a+tsum b
  | [],b=>by rw [List.nil_append];exact (Nat.zero_add _).symm
  | t :: a,b=>by
    rw [List.cons_append]
    show t.text.size+tsum (a++b) = t.text.size+tsum a+tsum b
    rw [tsum_app a b];omega
theorem tsum_suf {r l:List Fnd} (h:r <:+ l):tsum r≤tsum l:=by
  obtain ⟨p,rfl⟩:=h
  rw [tsum_app];omega
theorem runTo_all (p:Nat→Bool):∀ (n i j:Nat),i≤j→j < runTo p n i→p j = true
  | 0,i,j,h1,h2=>by
    have:runTo p 0 i = i:=rfl
    omega
  | n+1,i,j,h1,h2=>by
    rw [runTo_succ] at h2
    split at h2
    · rename_i hp
      rcases Nat.eq_or_lt_of_le h1 with rfl | h
      · exact hp
      · exact runTo_all p n (i+1) j h h2
    · omega
/-- Digits whose number is small. -/
theorem parse_small:∀ (l:List UInt8) (acc:Nat),(∀ c∈l,48≤c.toNat∧c.toNat≤57)→(acc+1)*10 ^ l.length≤1000000000000→∃ v,Lib.parseUint10 acc l = .ok v∧v+1≤(acc+1)*10 ^ l.length
  | [],acc,_,_=>⟨acc,rfl,by simp⟩
  | c :: r,acc,hd,hb=>by
    have hc:=hd c (List.mem_cons_self ..)
    rw [List.length_cons,Nat.pow_succ'] at hb ⊢
    have hp:0 < 10 ^ r.length:=Nat.pow_pos (by omega)
    have hm:(acc*10+(c.toNat - 48)+1)*10 ^ r.length≤(acc+1)*(10*10 ^ r.length):=by
      rw [←Nat.mul_assoc]
      exact Nat.mul_le_mul_right _ (by omega)
    have h1:(acc+1)*10≤1000000000000:=by
      have:(acc+1)*10*1≤(acc+1)*10*10 ^ r.length:=Nat.mul_le_mul_left _ hp
      rw [Nat.mul_assoc] at this
      rw [Nat.mul_assoc] at this
      omega
    obtain ⟨v,h2,h3⟩:=parse_small r (acc*10+(c.toNat - 48)) (fun x hx=>hd x (List.mem_cons_of_mem _ hx)) (by omega)
    exact ⟨v,by rw [parse_cons,if_pos hc,if_neg (by omega),if_neg (by omega)];exact h2,by omega⟩
theorem atoi_small {l:List UInt8} (h:∀ c∈l,48≤c.toNat∧c.toNat≤57) (h7:l.length≤7):atoiV l≤9999999:=by
  cases l with
  | nil=>show (0:Int)≤_;omega
  | cons c r =>
    have hc:=h c (List.mem_cons_self ..)
    have hp:10 ^ (c :: r).length≤10 ^ 7:=Nat.pow_le_pow_right (by omega) h7
    obtain ⟨v,h1,h2⟩:=parse_small (c :: r) 0 h (by omega)
    have e:Lib.atoiAll (c :: r) = .ok (v:Int):=by
      unfold Lib.atoiAll
      simp only
      rw [if_neg (by omega)]
      unfold Lib.parseMag
      rw [if_neg (by simp),h1]
      simp only
      rw [if_neg (by omega),if_neg (by omega),if_neg (by omega)]
    unfold atoiV
    rw [e]
    show (v:Int)≤_
    omega
theorem cut_size {s:ByteArray} {i j:Nat} (h:j≤s.size) (hi:i≤j):(cut s i j).size = j - i:=by
  unfold cut
  rw [ByteArray.size_extract]
  omega
theorem cut_get {s:ByteArray} {i j:Nat} {c:UInt8} (_h:j≤s.size) (hc:c∈(cut s i j).data.toList):∃ k,i≤k∧k < j∧byteAt s k = c.toNat:=by
  unfold cut at hc
  rw [ByteArray.data_extract,Array.toList_extract,List.extract_eq_take_drop] at hc
  obtain ⟨k,hk,rfl⟩:=List.getElem_of_mem hc
  rw [List.length_take,List.length_drop] at hk
  refine ⟨i+k,by omega,by omega,?_⟩
  rw [List.getElem_take,List.getElem_drop]
  unfold byteAt
  rw [List.getD_eq_getElem?_getD,List.getElem?_eq_getElem (by omega)]
  rfl
theorem digit_cls {c:Nat} (h:cls c = 4) (hc:c < 256):48≤c∧c≤57:=by
  have:=(by decide +kernel:∀ c:Fin 256,cls c.1 = 4→48≤c.1∧c.1≤57)
  exact this ⟨c,hc⟩ h
theorem wordEnd_le {s:ByteArray} {i:Nat} (h:i≤s.size):wordEnd s i≤s.size:=runTo_le _ (fun j hj=>by unfold wordP clsAt;rw [if_neg (by omega)];rfl) _ _ h
theorem digEnd_le {s:ByteArray} {i:Nat} (h:i≤s.size):digEnd s i≤s.size:=runTo_le _ (fun j hj=>by unfold digP clsAt;rw [if_neg (by omega)];rfl) _ _ h
theorem unqGo_size {t:ByteArray} : ∀ (n i:Nat) (acc l:List UInt8) (m:Nat),unqGo t n i acc = some (l,m)→m≤t.size∧l.length+i+1≤acc.length+m
  | 0,_,_,_,_,h=>by cases h
  | n+1,i,acc,l,m,h=>by
    rw [unqGo_succ] at h
    split at h
    · cases h
    split at h
    · injection h with h;injection h with h1 h2;subst h1;subst h2;exact ⟨by omega,by omega⟩
    split at h
    · cases h
    split at h
    · split at h
      · cases h
      · split at h
        · cases h
        · have:=unqGo_size n _ _ _ _ h
          rw [List.length_append] at this
          simp at this
          exact ⟨this.1,by omega⟩
    · have:=unqGo_size n _ _ _ _ h
      rw [List.length_append] at this
      simp at this
      exact ⟨this.1,by omega⟩
/-- What is known of each token. -/
def TokOk (B:Nat) (f:Fnd):Prop:=f.pos≤(B:Int)∧(f.err = 0→f.kind = 2→atoiV f.text.data.toList≤9999999)
set_option maxHeartbeats 1000000 in
theorem lexGo_facts (s:ByteArray):∀ (n i:Nat),(∀ f∈lexGo s n i,TokOk s.size f)∧tsum (lexGo s n i)≤s.size - i
  | 0,_=>⟨fun f h=>(by cases h),Nat.zero_le _⟩
  | n+1,i=>by
    have ih:=lexGo_facts s n
    rw [lexGo_succ]
    by_cases h0:s.size≤i
    · rw [if_pos h0];exact ⟨fun f h=>(by cases h),Nat.zero_le _⟩
    have hp:((i:Nat):Int)≤(s.size:Int):=by omega
    have hone:∀ f:Fnd,TokOk s.size f→f.text.size≤s.size - i→(∀ g∈[f],TokOk s.size g)∧tsum [f]≤s.size - i:=fun f h1 h2=>⟨fun g hg=>(by rw [List.mem_singleton] at hg;subst hg;exact h1),(by show f.text.size+0≤_;omega)⟩
    have hcons:∀ (f:Fnd) (j:Nat),TokOk s.size f→i+f.text.size≤j→j≤s.size→(∀ g∈f :: lexGo s n j,TokOk s.size g)∧tsum (f :: lexGo s n j)≤s.size - i:=fun f j h1 h2 h3 =>
      ⟨fun g hg=>(List.mem_cons.1 hg).elim (fun e=>e ▸ h1) ((ih j).1 g),(by have:=(ih j).2;show f.text.size+tsum (lexGo s n j)≤_;omega)⟩
    rw [if_neg h0]
    split
    · exact ⟨(ih _).1,by have:=(ih (i+1)).2;omega⟩
    split
    · have:=runTo_ge (hashP s) s.size i
      exact ⟨(ih _).1,by have h2:=(ih (hashEnd s i)).2;unfold hashEnd at *;omega⟩
    split
    · have h1:=runTo_ge (wordP s) s.size i
      have h2:=wordEnd_le (s:=s) (i:=i) (by omega)
      have h3:=cut_size (s:=s) (i:=i) h2 h1
      have h4:∀ e,TokOk s.size ⟨1,cut s i (wordEnd s i),i,e⟩:=fun e=>⟨hp,fun _ h=>absurd h (show ¬ (1:Int) = 2 by decide)⟩
      split
      · exact hone _ (h4 7) (by show (cut s i (wordEnd s i)).size≤_;unfold wordEnd at *;omega)
      · exact hcons _ _ (h4 0) (by show i+(cut s i (wordEnd s i)).size≤_;unfold wordEnd at *;omega) h2
    split
    · have h1:=runTo_ge (digP s) s.size i
      have h2:=digEnd_le (s:=s) (i:=i) (by omega)
      have h3:=cut_size (s:=s) (i:=i) h2 h1
      split
      · exact hone _ ⟨hp,fun h=>absurd h (show ¬ (11:Int) = 0 by decide)⟩ (by show (cut s i (digEnd s i)).size≤_;unfold digEnd at *;omega)
      · rename_i hn
        refine hcons _ _ ⟨hp,fun _ _=>?_⟩ (by show i+(cut s i (digEnd s i)).size≤_;unfold digEnd at *;omega) h2
        refine atoi_small (fun c hc=>?_) ?_
        · obtain ⟨k,k1,k2,k3⟩:=cut_get h2 hc
          have k4:=runTo_all (digP s) s.size i k k1 k2
          unfold digP clsAt at k4
          rw [if_pos (by omega),k3,beq_iff_eq] at k4
          exact digit_cls k4 (UInt8.toNat_lt c)
        · show (cut s i (digEnd s i)).size≤7
          rw [h3]
          exact Nat.le_of_not_lt fun h=>hn (.inl h)
    split
    · split
      · exact hone _ ⟨hp,fun h=>absurd h (show ¬ (10:Int) = 0 by decide)⟩ (Nat.zero_le _)
      · rename_i t m hu
        have h1:=unqGo_size _ _ _ _ _ hu
        have h2:=cut_size (s:=s) (i:=i) (Nat.le_refl s.size) (by omega)
        rw [h2] at h1
        exact hcons _ _ ⟨hp,fun _ h=>absurd h (show ¬ (3:Int) = 2 by decide)⟩ (by show i+t.toArray.size≤_;rw [List.size_toArray];simp at h1;omega) (by omega)
    split
    · have h3:=cut_size (s:=s) (i:=i) (j:=i+1) (by omega) (by omega)
      exact hcons _ _ ⟨hp,fun _ h=>absurd h (show ¬ (4:Int) = 2 by decide)⟩ (by show i+(cut s i (i+1)).size≤_;omega) (by omega)
    · exact hone _ ⟨hp,fun h=>absurd h (show ¬ (10:Int) = 0 by decide)⟩ (Nat.zero_le _)
theorem takeF_ok:∀ (fs out:List Fnd),(takeF fs out).2.1 = 0→(takeF fs out).1 = out++fs∧∀ f∈fs,f.err = 0
  | [],out,_=>⟨by rw [List.append_nil];rfl,fun f h=>(by cases h)⟩
  | f :: r,out,h=>by
    unfold takeF at h ⊢
    split at h
    · rename_i h1;exact absurd h h1
    · rename_i h1
      rw [if_neg h1]
      split at h
      · exact absurd h (show ¬ (7:Int) = 0 by decide)
      · rename_i h2
        rw [if_neg h2]
        obtain ⟨g1,g2⟩:=takeF_ok r (out++[f]) h
        refine ⟨by rw [g1];simp,fun x hx=>?_⟩
        rcases List.mem_cons.1 hx with rfl | hx
        · exact Decidable.not_not.1 h1
        · exact g2 x hx
theorem takeF_bad (B:Int):∀ (fs out:List Fnd),(∀ f∈fs,f.pos≤B)→(takeF fs out).2.1 ≠ 0→(takeF fs out).2.2≤B
  | [],out,_,h=>absurd rfl h
  | f :: r,out,hp,h=>by
    unfold takeF at h ⊢
    split
    · exact hp f (List.mem_cons_self ..)
    · split
      · exact hp f (List.mem_cons_self ..)
      · rename_i h1 h2
        rw [if_neg h1,if_neg h2] at h
        exact takeF_bad B r _ (fun x hx=>hp x (List.mem_cons_of_mem _ hx)) h
/-- Tokens as the parser finds them. -/
def Toks (B:Int) (l:List Fnd):Prop:=∀ t∈l,t.pos≤B∧(t.kind = 2→atoiV t.text.data.toList≤9999999)
theorem lexL_toks {s:ByteArray} (h:(lexL s).2.1 = 0):Toks s.size (lexL s).1∧tsum (lexL s).1≤s.size:=by
  obtain ⟨h1,h2⟩:=lexGo_facts s (s.size+1) 0
  unfold lexL at *
  split at h
  · exact absurd h (show ¬ (7:Int) = 0 by decide)
  · rename_i hs
    rw [if_neg hs]
    obtain ⟨g1,g2⟩:=takeF_ok _ _ h
    rw [g1,List.nil_append]
    exact ⟨fun t ht=>⟨(h1 t ht).1,(h1 t ht).2 (g2 t ht)⟩,by have:tsum (lexF s)≤s.size - 0:=h2;omega⟩
theorem lexL_bad {s:ByteArray} (h:(lexL s).2.1 ≠ 0):(lexL s).2.2≤s.size:=by
  unfold lexL at *
  split
  · show (-1:Int)≤_;omega
  · rename_i hs
    rw [if_neg hs] at h
    exact takeF_bad s.size _ _ (fun f hf=>((lexGo_facts s (s.size+1) 0).1 f hf).1) h
end Go.Proofs.YtppoeiofdmlpeaaGreatDoor
namespace Go.Proofs.YtppoeiofdmlpeaaGreatDoor
open Go Go.RowKit
def letB (c:Nat):Bool:=decide (97≤c∧c≤122∨65≤c∧c≤90)
def digB (c:Nat):Bool:=decide (48≤c∧c≤57)
def wrdB (c:Nat):Bool:=letB c || (digB c || decide (c = 95))
theorem cls_is (c:Nat):(cls c = 3 ↔ letB c = true)∧(cls c = 4 ↔ digB c = true)∧(cls c = 5 ↔ c = 95):=by
  unfold cls cls0 letB digB
  simp only [decide_eq_true_iff]
  repeat' split
  all_goals omega
theorem okAt_let (c:Nat):okAt 0 c = letB c:=by
  have h:=(cls_is c).1
  rw [Bool.eq_iff_iff, ← h];simp [okAt]
theorem okAt_wrd {i:Nat} (h0:i ≠ 0) (c:Nat):okAt i c = wrdB c:=by
  obtain ⟨h1,h2,h3⟩:=cls_is c
  rw [Bool.eq_iff_iff];unfold wrdB
  simp only [okAt,Bool.or_eq_true,Bool.and_eq_true,beq_iff_eq,bne_iff_ne,decide_eq_true_iff,h1,h2,h3]
  constructor
  · rintro (h | ⟨_,h⟩)
    · exact .inl h
    · exact .inr h
  · rintro (h | h)
    · exact .inl h
    · exact .inr ⟨h0,h⟩
theorem okAt_no {i c:Nat} (h:wrdB c = false):okAt i c = false:=by
  by_cases h0:i = 0
  · subst h0;rw [okAt_let];unfold wrdB at h;rw [Bool.or_eq_false_iff] at h;exact h.1
  · rw [okAt_wrd h0,h]
theorem nameB_ref {s:ByteArray} (h:∀ j,j < s.size→wrdB (byteAt s j) = true):nameB s = (decide (s.size ≠ 0) && (decide (s.size≤24) && letB (byteAt s 0))):=by
  unfold nameB
  rw [Bool.eq_iff_iff]
  simp only [decide_eq_true_eq,Bool.and_eq_true]
  constructor
  · intro ⟨h1,h2,h3⟩;exact ⟨h1,h2,by rw [←okAt_let];exact h3 0 (by omega)⟩
  · intro ⟨h1,h2,h3⟩
    refine ⟨h1,h2,fun i hi=>?_⟩
    by_cases h0:i = 0
    · subst h0;rw [okAt_let,h3]
    · rw [okAt_wrd h0];exact h i hi
set_option maxHeartbeats 1000000 in
theorem let_any (c:Nat) (w:World):Calls Tryz.prog 58 #[.int .u8 c] w fun e w'=>e = .returned (.bool (letB c))∧w' = w:=by
  go_enter Tryz.func58,Tryz.ntmps58
  go_wp2_with fail
  all_goals
    go_ret
    refine ⟨ret_bool ?_,rfl⟩
    unfold letB
    rw [Bool.eq_iff_iff]
    simp only [Bool.or_eq_true,decide_eq_true_eq,eq_self,true_iff,Bool.false_eq_true,false_iff]
    omega
set_option maxHeartbeats 1000000 in
theorem dig_any (c:Nat) (w:World):Calls Tryz.prog 77 #[.int .u8 c] w fun e w'=>e = .returned (.bool (digB c))∧w' = w:=by
  go_enter Tryz.func77,Tryz.ntmps77
  go_wp2_with fail
  all_goals
    go_ret
    refine ⟨ret_bool ?_,rfl⟩
    unfold digB
    rw [Bool.eq_iff_iff]
    simp only [decide_eq_true_eq,Bool.false_eq_true,false_iff]
    omega
set_option maxHeartbeats 1000000 in
theorem wrd_any (c:Nat) (w:World):Calls Tryz.prog 57 #[.int .u8 c] w fun e w'=>e = .returned (.bool (wrdB c))∧w' = w:=by
  unfold wrdB
  cases hl:letB c
  · have HL:=Lib.hid hl
    cases hd:digB c
    · have HD:=Lib.hid hd
      clear hl hd
      go_enter Tryz.func57,Tryz.ntmps57
      go_wp2_with (first | (go_at_call 58;refine (let_any c _).mono ?_;rintro e w1 ⟨rfl,rfl⟩;rw [HL.out]) | (go_at_call 77;refine (dig_any c _).mono ?_;rintro e w2 ⟨rfl,rfl⟩;rw [HD.out]))
      go_ret
      refine ⟨ret_bool ?_,rfl⟩
      rw [Bool.eq_iff_iff]
      simp only [Bool.or_eq_true,decide_eq_true_eq,beq_iff_eq,Bool.false_eq_true,false_or]
      omega
    · have HD:=Lib.hid hd
      clear hl hd
      go_enter Tryz.func57,Tryz.ntmps57
      go_wp2_with (first | (go_at_call 58;refine (let_any c _).mono ?_;rintro e w1 ⟨rfl,rfl⟩;rw [HL.out]) | (go_at_call 77;refine (dig_any c _).mono ?_;rintro e w2 ⟨rfl,rfl⟩;rw [HD.out]))
      go_ret
      exact ⟨rfl,rfl⟩
  · have HL:=Lib.hid hl
    clear hl
    go_enter Tryz.func57,Tryz.ntmps57
    go_wp2_with (go_at_call 58;refine (let_any c _).mono ?_;rintro e w1 ⟨rfl,rfl⟩;rw [HL.out])
    go_ret
    exact ⟨rfl,rfl⟩
set_option maxHeartbeats 2000000 in
theorem refName_any (s:ByteArray) (w:World) (hs:s.size≤maxLen) :
    Calls Tryz.prog 33 #[.string s] w fun e w'=>e = .returned (.bool (nameB s))∧w' = w:=by
  unfold maxLen at hs
  go_enter Tryz.func33,Tryz.ntmps33
  go_wp2_with fail
  go_loopw [3] (fun i wr=>∃ k:Nat,k≤s.size∧i = .int .i64 k∧Hid (∀ j,j < k→wrdB (byteAt s j) = true)∧wr = w) (fun i _=>s.size - (intOf i).toNat)
  case atStart=>exact ⟨0,Nat.zero_le _,rfl,fun j hj=>absurd hj (Nat.not_lt_zero _),rfl⟩
  case round =>
    obtain ⟨k,hk,rfl,hrel,rfl⟩:=hrel
    by_cases hlt:k < s.size
    · have hby:=byteAt_eq s k hlt
      have yes:wrdB (byteAt s k) = true→Hid (∀ j,j < k+1→wrdB (byteAt s j) = true):=fun h j hj=>by
        rcases Nat.lt_or_ge j k with h1 | h1
        · exact hrel.out j h1
        · obtain rfl:j = k:=by omega
          exact h
      have no:wrdB (byteAt s k) = false→nameB s = false:=fun h=>nameB_no hlt (okAt_no h)
      rw [hby] at yes no
      have YES:=Lib.hid yes
      have NO:=Lib.hid no
      clear yes no hby
      cases hw:wrdB s[k].toNat
      · have HW:=Lib.hid hw
        clear hw
        go_wp2_with (go_at_call 57;refine (wrd_any _ _).mono ?_;rintro e w1 ⟨rfl,rfl⟩;rw [HW.out])
        go_ret
        exact ⟨ret_bool (by rw [NO.out HW.out]),rfl⟩
      · have HW:=Lib.hid hw
        clear hw
        go_wp2_with (go_at_call 57;refine (wrd_any _ _).mono ?_;rintro e w1 ⟨rfl,rfl⟩;rw [HW.out])
        go_roundw
        case rel=>exact ⟨k+1,by omega,by go_num,YES.out HW.out,trivial⟩
        case measure=>simp [intOf];omega
    · obtain rfl:k = s.size:=by omega
      have hall:=nameB_ref hrel.out
      clear hrel
      by_cases h0:s.size = 0
      · have HN:=Lib.hid (show nameB s = false by rw [hall];simp [h0])
        clear hall
        go_wp2_with fail
        go_ret
        exact ⟨ret_bool (by rw [HN.out]),rfl⟩
      · by_cases h24:s.size≤24
        · have hby:=byteAt_eq s 0 (by omega)
          have HN:=Lib.hid (show nameB s = letB (s[0]'(by omega)).toNat by rw [hall,hby];simp [h0,h24])
          clear hall hby
          go_wp2_with (go_at_call 58;refine (let_any _ _).mono ?_;rintro e w1 ⟨rfl,rfl⟩;rw [←HN.out])
          go_ret
          exact ⟨rfl,rfl⟩
        · have HN:=Lib.hid (show nameB s = false by rw [hall];simp [h24])
          clear hall
          go_wp2_with fail
          go_ret
          exact ⟨ret_bool (by rw [HN.out]),rfl⟩
end Go.Proofs.YtppoeiofdmlpeaaGreatDoor
namespace Go.Proofs.YtppoeiofdmlpeaaGreatDoor
open Go Go.RowKit
theorem dig_cut (d:Nat) (h:d < 10):(⟨#[48,49,50,51,52,53,54,55,56,57]⟩:ByteArray).extract d (d+1) = ⟨#[UInt8.ofNat (48+d)]⟩:=by
  rcases (by omega:d = 0∨d = 1∨d = 2∨d = 3∨d = 4∨d = 5∨d = 6∨d = 7∨d = 8∨d = 9) with rfl | rfl | rfl | rfl | rfl | rfl | rfl | rfl | rfl | rfl <;> decide
theorem dec_step (m:Nat) (t:List UInt8) (h:10≤m):Lib.decDigits m++t = Lib.decDigits (m / 10)++(UInt8.ofNat (48+m % 10) :: t):=by
  rw [Lib.decDigits,dif_neg (by omega),List.append_assoc];rfl
theorem dec_last (m:Nat) (h:m < 10):Lib.decDigits m = [UInt8.ofNat (48+m % 10)]:=by
  rw [Lib.decDigits,dif_pos h,Nat.mod_eq_of_lt h]
theorem byte_app (b:UInt8) (t:List UInt8):(⟨#[b]⟩:ByteArray)++⟨t.toArray⟩ = ⟨(b :: t).toArray⟩:=by
  apply ByteArray.ext
  rw [ByteArray.data_append]
  simp
/-- What is still to be written, and what has been. -/
def DigS (n m:Nat) (t:List UInt8):Prop:=m < 18446744073709551616∧((m = 0∧t = Lib.decDigits n)∨(0 < m∧Lib.decDigits m++t = Lib.decDigits n))
theorem digS_len {n m:Nat} {t:List UInt8} (hn:n < 18446744073709551616) (h:DigS n m t):t.length≤20:=by
  have h1:=Lib.nDigits_le20 n hn
  rw [←Lib.decDigits_length] at h1
  obtain ⟨_,⟨_,rfl⟩ | ⟨_,h2⟩⟩:=h
  · exact h1
  · rw [←h2,List.length_append] at h1;omega
theorem digS_start {n:Nat} (hn:n < 18446744073709551616):DigS n (n / 10) [UInt8.ofNat (48+n % 10)]:=by
  refine ⟨by omega,?_⟩
  by_cases h:n < 10
  · exact .inl ⟨by omega,(dec_last n h).symm⟩
  · exact .inr ⟨by omega,by have:=dec_step n [] (by omega);simpa using this.symm⟩
theorem digS_step {n m:Nat} {t:List UInt8} (h:DigS n m t) (h0:0 < m):DigS n (m / 10) (UInt8.ofNat (48+m % 10) :: t):=by
  obtain ⟨h1,h2 | ⟨_,h3⟩⟩:=h
  · omega
  · refine ⟨by omega,?_⟩
    by_cases h:m < 10
    · exact .inl ⟨by omega,by rw [←h3,dec_last m h];rfl⟩
    · exact .inr ⟨by omega,by rw [←h3,dec_step m t (by omega)]⟩
set_option maxRecDepth 100000 in
set_option maxHeartbeats 2000000 in
theorem refDigits_any (n:Nat) (hn:n < 18446744073709551616) (w:World) :
    Calls Tryz.prog 67 #[.int .u64 n] w fun e w'=>e = .returned (.string ⟨(Lib.decDigits n).toArray⟩)∧w = w':=by
  go_enter Tryz.func67,Tryz.ntmps67
  go_wp2_with fail
  go_loop [0,3] (fun x s=>∃ (m:Nat) (t:List UInt8),x = .int .u64 (m:Int)∧s = .string ⟨t.toArray⟩∧Hid (DigS n m t)) (fun x _=>(intOf x).toNat)
  case atStart=>exact ⟨n / 10,_,(by rw [Int.natCast_ediv];rfl),(by rw [dig_cut _ (Nat.mod_lt _ (by decide))]),digS_start hn⟩
  case round =>
    obtain ⟨m,t,rfl,rfl,HD⟩:=hrel
    by_cases h0:0 < m
    · have h0i:(0:Int) < (m:Int):=by omega
      have hcut:=dig_cut (m % 10) (Nat.mod_lt _ (by decide))
      have hw:IntKind.u64.wrap ((m:Int) / 10) = ((m / 10:Nat):Int):=by have:=HD.out.1;rw [IntKind.wrap_u64];omega
      have htl:t.length≤20:=digS_len hn HD.out
      have hsz9:¬ 9223372036854775807 < 1+t.length:=by omega
      have HTL:=Lib.hid htl
      clear htl
      have HS:=Lib.hid (digS_step HD.out h0)
      go_wp2_with fail
      go_round
      case rel=>exact ⟨m / 10,UInt8.ofNat (48+m % 10) :: t,by rw [Int.natCast_ediv];rfl,by rw [byte_app,UInt8.ofNat_add];rfl,HS.out⟩
      case measure=>simp [intOf];omega
    · obtain rfl:m = 0:=by omega
      have HT:Hid (t = Lib.decDigits n):=by
        obtain ⟨_,⟨_,h⟩ | ⟨h,_⟩⟩:=HD.out
        · exact h
        · omega
      have e:=HT.out
      subst e
      clear HT HD
      go_wp2_with fail
      go_ret
      exact ⟨rfl,rfl⟩
set_option maxRecDepth 100000 in
set_option maxHeartbeats 2000000 in
theorem refDecimal_any (n:Int) (h0 : -9223372036854775808≤n) (h1:n≤9223372036854775807) (w:World) :
    Calls Tryz.prog 40 #[.int .i64 n] w fun e w'=>e = .returned (.string (itoaB n))∧w = w':=by
  by_cases hn:n < 0
  · obtain ⟨m,hm⟩:∃ m:Nat,n = -(m:Int):=⟨n.natAbs,by omega⟩
    have hm0:1≤m:=by omega
    have hml:m < 18446744073709551616:=by omega
    have HD:=Lib.hid (refDigits_any m hml w)
    have hw1:IntKind.i64.wrap (n+1) = n+1:=by rw [IntKind.wrap_i64];omega
    have hw2:IntKind.i64.wrap (-(n+1)) = ((m - 1:Nat):Int):=by rw [IntKind.wrap_i64];omega
    have hw3:IntKind.u64.wrap ((m - 1:Nat):Int) = ((m - 1:Nat):Int):=by rw [IntKind.wrap_u64];omega
    have hw4:IntKind.u64.wrap (((m - 1:Nat):Int)+1) = (m:Int):=by rw [IntKind.wrap_u64];omega
    have HE:Hid ((⟨#[45]⟩:ByteArray)++⟨(Lib.decDigits m).toArray⟩ = itoaB n):=by
      show _ = _
      rw [byte_app,hm]
      unfold itoaB
      rw [Lib.itoa_neg m hm0]
    have hsz:¬ 9223372036854775807 < 1+(Lib.decDigits m).length:=by
      have:=Lib.nDigits_le20 m hml
      rw [←Lib.decDigits_length] at this
      omega
    clear hm
    generalize m - 1 = k at *
    go_enter Tryz.func40,Tryz.ntmps40
    go_wp2_with (go_at_call 67;refine HD.out.mono ?_;rintro e w1 ⟨rfl,rfl⟩)
    go_ret
    exact ⟨congrArg (fun x=>Ending.returned (Value.string x)) HE.out,rfl⟩
  · obtain ⟨m,rfl⟩:∃ m:Nat,n = (m:Int):=⟨n.natAbs,by omega⟩
    have hml:m < 18446744073709551616:=by omega
    have HD:=Lib.hid (refDigits_any m hml w)
    have hw:IntKind.u64.wrap (m:Int) = (m:Int):=by rw [IntKind.wrap_u64];omega
    have HE:Hid ((⟨(Lib.decDigits m).toArray⟩:ByteArray) = itoaB (m:Int)):=by
      show _ = _
      unfold itoaB
      rw [Lib.itoa_nonneg m]
    go_enter Tryz.func40,Tryz.ntmps40
    go_wp2_with (go_at_call 67;refine HD.out.mono ?_;rintro e w1 ⟨rfl,rfl⟩)
    go_ret
    exact ⟨congrArg (fun x=>Ending.returned (Value.string x)) HE.out,rfl⟩
end Go.Proofs.YtppoeiofdmlpeaaGreatDoor
