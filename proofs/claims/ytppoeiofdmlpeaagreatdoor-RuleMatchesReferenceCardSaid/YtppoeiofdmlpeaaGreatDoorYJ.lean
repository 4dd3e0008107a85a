/- What a chain of readings comes to, from whatever state. No condition. The reference's parser: what stays while a condition is read, and the calls from a known state. No condition. -/
import Derived.Test.YtppoeiofdmlpeaaGreatDoorYH
import Derived.Test.YtppoeiofdmlpeaaGreatDoorYI
namespace Go.Proofs.YtppoeiofdmlpeaaGreatDoor
open Go Go.RowKit
/-- A reading goes from one state to another, with a value. -/
def Stp {α:Type} (s:Got Unit) (f:List Fnd→Got α) (s':Got Unit) (x:α):Prop:=(s.go f).end = s'∧(s.go f).Fit x
theorem Stp.pure {α:Type} (s:Got Unit) (x:α):Stp s (fun l=>.ok x l) s x:=by
  cases s with
  | bad e a=>exact ⟨rfl,fun y r h=>(by cases h)⟩
  | ok u l=>exact ⟨rfl,fun y r h=>(by injection h with h _;exact h.symm)⟩
theorem Stp.bind {α β:Type} {s s1 s2:Got Unit} {f:List Fnd→Got α} {g:α→List Fnd→Got β} {x:α} {z:β} (h1:Stp s f s1 x) (h2:Stp s1 (g x) s2 z):Stp s (fun l=>(f l).bind g) s2 z:=by
  obtain ⟨rfl,hf⟩:=h1
  cases s with
  | bad e a=>exact ⟨h2.1,fun y r h=>(by cases h)⟩
  | ok u l =>
    have hf:(f l).Fit x:=hf
    have h2:Stp (f l).end (g x) s2 z:=h2
    show ((f l).bind g).end = s2∧((f l).bind g).Fit z
    cases hq:f l with
    | bad e a =>
      rw [hq] at h2
      exact ⟨h2.1,fun y r h=>(by cases h)⟩
    | ok y r =>
      obtain rfl:=hf y r hq
      rw [hq] at h2
      exact h2
theorem Stp.map {α β:Type} {s s1:Got Unit} {f:List Fnd→Got α} {x:α} (h1:Stp s f s1 x) (F:α→β):Stp s (fun l=>(f l).bind fun y r=>.ok (F y) r) s1 (F x) :=
  Stp.bind (g:=fun y r=>.ok (F y) r) h1 (Stp.pure s1 (F x))
theorem Stp.eq {α:Type} {s s':Got Unit} {f g:List Fnd→Got α} {x:α} (h:Stp s f s' x) (he:s.go g = s.go f):Stp s g s' x:=by
  unfold Stp
  rw [he]
  exact h
theorem Stp.skip {E:Int} {word:ByteArray} {s s':Got Unit} (h:(s.go (wantP E word)).end = s'):Stp s (wantP E word) s' ():=⟨h,fun _ _ _=>rfl⟩
/-- From whatever is behind the head. -/
theorem Stp.tail {α:Type} {t:Fnd} {r:List Fnd} {f g:List Fnd→Got α} {s':Got Unit} {x:α} (h:Stp (.ok () r) f s' x) (he:g (t :: r) = f r):Stp (.ok () (t :: r)) g s' x:=by
  show (g (t :: r)).end = s'∧(g (t :: r)).Fit x
  rw [he]
  exact h
/-- A choice by the next word. -/
theorem Stp.yes {α:Type} {word:ByteArray} {s s':Got Unit} {f g:List Fnd→Got α} {x:α} (hw:staB word s = true) (h:Stp (staT word s) f s' x):Stp s (fun l=>if skipB word l then f l.tail else g l) s' x:=by
  obtain ⟨t,r,rfl,_,_,he⟩:=staB_yes hw
  rw [he] at h
  have hw:skipB word (t :: r) = true:=hw
  refine Stp.tail h ?_
  show (if skipB word (t :: r) = true then f r else _) = _
  rw [if_pos hw]
theorem Stp.no {α:Type} {word:ByteArray} {s s':Got Unit} {f g:List Fnd→Got α} {x:α} (hw:staB word s = false) (h:Stp s g s' x):Stp s (fun l=>if skipB word l then f l.tail else g l) s' x:=by
  cases s with
  | bad e a=>exact ⟨h.1,fun y r h=>(by cases h)⟩
  | ok u l =>
    have hw:skipB word l = false:=hw
    refine h.eq ?_
    show (if skipB word l = true then _ else _) = _
    rw [if_neg (by rw [hw];decide)]
    rfl
/-- Where the tokens are a text's, a name is a token of its kind. -/
theorem Stp.name {E:Int} {s s':Got Unit} {x:ByteArray} (hG:∀ u l,s = .ok u l→∀ t∈l,TokG t) (h:Stp s (tokP E 1) s' x):Stp s (nameP E) s' x:=by
  cases s with
  | bad e a=>exact ⟨h.1,fun y r h=>(by cases h)⟩
  | ok u l =>
    refine h.eq ?_
    show nameP E l = tokP E 1 l
    exact name_tok (hG u l rfl)
theorem Stp.bad {α:Type} {s:Got Unit} {f:List Fnd→Got α} {e a:Int} (h:s.go f = .bad e a) (x:α):Stp s f (.bad e a) x:=by
  unfold Stp
  rw [h]
  exact ⟨rfl,fun y r h=>(by cases h)⟩
theorem next3_bad {E:Int} {s:Got Unit} {e a:Int} (h:s.go (tokP E 3) = .bad e a):s.go (nextP E 3 valB) = .bad e a:=by
  cases s with
  | bad e' a'=>exact h
  | ok u l =>
    cases l with
    | nil=>exact h
    | cons t l =>
      have h:(if t.kind = 3 then (if true = true then Got.ok t.text l else .bad 13 t.pos) else .bad 8 t.pos:Got ByteArray) = .bad e a:=h
      by_cases hk:t.kind = 3
      · rw [if_pos hk,if_pos rfl] at h
        cases h
      · rw [if_neg hk] at h
        show (if t.kind = 3 then _ else _:Got ByteArray) = _
        rw [if_neg hk]
        exact h
theorem next3_ok {E:Int} {t:Fnd} {r:List Fnd} (hk:t.kind = 3):nextP E 3 valB (t :: r) = if valB t.text = true then .ok t.text r else .bad 13 t.pos:=by
  show (if t.kind = 3 then (if valB t.text = true then Got.ok t.text r else .bad 13 t.pos) else .bad 8 t.pos) = _
  rw [if_pos hk]
theorem stp3_ok {E:Int} {u:Fnd} {r:List Fnd} (hk:u.kind = 3) (hv:valB u.text = true):Stp (.ok () (u :: r)) (nextP E 3 valB) (.ok () r) u.text:=by
  have h:Got.go (.ok () (u :: r)) (nextP E 3 valB) = .ok u.text r:=(next3_ok (E:=E) (r:=r) hk).trans (if_pos hv)
  unfold Stp
  rw [h]
  exact ⟨rfl,fun y r h=>by injection h with h _;exact h.symm⟩
theorem stp3_no {E:Int} {u:Fnd} {r:List Fnd} (hk:u.kind = 3) (hv:¬ valB u.text = true) (x:ByteArray):Stp (.ok () (u :: r)) (nextP E 3 valB) (.bad 13 u.pos) x :=
  Stp.bad (show Got.go (.ok () (u :: r)) (nextP E 3 valB) = .bad 13 u.pos from (next3_ok (E:=E) (r:=r) hk).trans (if_neg hv)) x
theorem stp_is {E:Int} {one:List Fnd→Got Ex} {t:Fnd} {r:List Fnd} {s1 s2 s3:Got Unit} (hn:notP1 E one (t :: r) = isP E (t :: r)) (hG:∀ u∈t :: r,TokG u) {a v:ByteArray} (h1:Stp (.ok () (t :: r)) (tokP E 1) s1 a) (h2:(s1.go (wantP E wEq)).end = s2) (h3:Stp s2 (nextP E 3 valB) s3 v):Stp (.ok () (t :: r)) (notP1 E one) s3 (.mk 7 a v 0 0 []) :=
  Stp.eq ((h1.name (fun _ _ e=>by injection e with _ e;subst e;exact hG)).bind ((Stp.skip h2).bind (h3.map fun v=>Ex.mk 7 a v 0 0 []))) hn
section
variable {g:Nat} {E:Int} {A:Option Addr} {c:Nat} {L:List Fnd}
theorem Rs.tokG {w:World} {s:Got Unit} (h:Rs g E A c L w s):∀ u l,s = .ok u l→∀ t∈l,TokG t:=fun u l e t ht=>by
  subst e
  obtain ⟨i,at',_,hT,_,rfl⟩:=h.obj
  exact (hT.2.2.2.1 t (List.mem_of_mem_drop ht)).2
end
section
variable {E:Int} {one:List Fnd→Got Ex} {t:Fnd} {r:List Fnd} {s1 s2 s3 s4 s5:Got Unit}
theorem stp_not (hG:TokG t) (h:staB wNot (.ok () (t :: r)) = true) {c:Ex} (h1:Stp (.ok () r) one s1 c):Stp (.ok () (t :: r)) (notP1 E one) s1 (.mk 2 e0 e0 0 0 [c]) :=
  (h1.map fun c=>Ex.mk 2 e0 e0 0 0 [c]).tail (n1_not hG h)
theorem stp_in {s:Got Unit} (h0:(s.go (wantP E wOpen)).end = s1) {c:Ex} (h1:Stp s1 (condP one) s2 c) (h2:(s2.go (wantP E wShut)).end = s3):Stp s (inP E one) s3 c :=
  (Stp.skip h0).bind (h1.bind ((Stp.skip h2).map fun _=>c))
theorem stp_open (hG:TokG t) (h:staB wOpen (.ok () (t :: r)) = true) {c:Ex} (h1:Stp (.ok () r) (condP one) s1 c) (h2:(s1.go (wantP E wShut)).end = s2):Stp (.ok () (t :: r)) (notP1 E one) s2 c :=
  (stp_in (E:=E) (s:=.ok () (t :: r)) (s1:=.ok () r) (by rw [want_go,if_pos h];obtain ⟨_,_,e,_,_,he⟩:=staB_yes h;rw [he];injection e with _ e;injection e with _ e;rw [e];rfl) h1 h2).eq (n1_open hG h)
theorem stp_true (hG:TokG t) (h:staB wTrue (.ok () (t :: r)) = true):Stp (.ok () (t :: r)) (notP1 E one) (.ok () r) (.mk 1 e0 e0 0 0 []) :=
  (Stp.pure (.ok () r) (Ex.mk 1 e0 e0 0 0 [])).tail (n1_true hG h)
theorem stp_limit_plus (hG:TokG t) (hr:∀ u∈r,TokG u) (h:staB wLimit (.ok () (t :: r)) = true) {a:ByteArray} {n x:Int} (h1:Stp (.ok () r) (tokP E 1) s1 a) (h2:Stp s1 (numP E 0) s2 n) (hp:staB wPlus s2 = true) (h3:Stp (staT wPlus s2) (numP E 0) s3 x):Stp (.ok () (t :: r)) (notP1 E one) s3 (.mk 5 a e0 n x []) :=
  ((h1.name (fun _ _ e=>by injection e with _ e;subst e;exact hr)).bind (h2.bind (Stp.yes (g:=fun l=>.ok (Ex.mk 5 a e0 n 0 []) l) hp (h3.map fun x=>Ex.mk 5 a e0 n x [])))).tail (n1_limit hG h)
theorem stp_limit (hG:TokG t) (hr:∀ u∈r,TokG u) (h:staB wLimit (.ok () (t :: r)) = true) {a:ByteArray} {n:Int} (h1:Stp (.ok () r) (tokP E 1) s1 a) (h2:Stp s1 (numP E 0) s2 n) (hp:staB wPlus s2 = false):Stp (.ok () (t :: r)) (notP1 E one) s2 (.mk 5 a e0 n 0 []) :=
  ((h1.name (fun _ _ e=>by injection e with _ e;subst e;exact hr)).bind (h2.bind (Stp.no (f:=fun l=>(numP E 0 l).bind fun x r=>.ok (Ex.mk 5 a e0 n x []) r) hp (Stp.pure s2 (Ex.mk 5 a e0 n 0 []))))).tail (n1_limit hG h)
theorem stp_over (hG:TokG t) (hr:∀ u∈r,TokG u) (h:staB wOver (.ok () (t :: r)) = true) {a:ByteArray} {n:Int} (h1:Stp (.ok () r) (tokP E 1) s1 a) (h2:Stp s1 (numP E 0) s2 n):Stp (.ok () (t :: r)) (notP1 E one) s2 (.mk 6 a e0 n 0 []) :=
  ((h1.name (fun _ _ e=>by injection e with _ e;subst e;exact hr)).bind (h2.map fun n=>Ex.mk 6 a e0 n 0 [])).tail (n1_over hG h)
theorem stp_has (hG:TokG t) (hr:∀ u∈r,TokG u) (h:staB wHas (.ok () (t :: r)) = true) {a:ByteArray} (h1:Stp (.ok () r) (tokP E 1) s1 a):Stp (.ok () (t :: r)) (notP1 E one) s1 (.mk 8 a e0 0 0 []) :=
  ((h1.name (fun _ _ e=>by injection e with _ e;subst e;exact hr)).map fun a=>Ex.mk 8 a e0 0 0 []).tail (n1_has hG h)
theorem stp_slot (hG:TokG t) (hr:∀ u∈r,TokG u) (h:staB wSlot (.ok () (t :: r)) = true) {a v:ByteArray} (h1:Stp (.ok () r) (tokP E 1) s1 a) (h2:(s1.go (wantP E wIs)).end = s2) (hG2:∀ u l,s2 = .ok u l→∀ t∈l,TokG t) (h3:Stp s2 (tokP E 1) s3 v):Stp (.ok () (t :: r)) (notP1 E one) s3 (.mk 9 a v 0 0 []) :=
  ((h1.name (fun _ _ e=>by injection e with _ e;subst e;exact hr)).bind ((Stp.skip h2).bind ((h3.name hG2).map fun v=>Ex.mk 9 a v 0 0 []))).tail (n1_slot hG h)
theorem stp_within (op:Int) (hn:notP1 E one (t :: r) = withinP E op one r) (hr:∀ u∈r,TokG u) {a:ByteArray} {c:Ex} (h1:Stp (.ok () r) (tokP E 1) s1 a) (h2:(s1.go (wantP E wOpen)).end = s2) (h3:Stp s2 (condP one) s3 c) (h4:(s3.go (wantP E wShut)).end = s4):Stp (.ok () (t :: r)) (notP1 E one) s4 (.mk op a e0 0 0 [c]) :=
  ((h1.name (fun _ _ e=>by injection e with _ e;subst e;exact hr)).bind ((stp_in h2 h3 h4).map fun c=>Ex.mk op a e0 0 0 [c])).tail hn
theorem stp_at (hG:TokG t) (h:staB wAt (.ok () (t :: r)) = true) {a:ByteArray} {n:Int} (h1:((Got.ok () r).go (wantP E wLeast)).end = s1) (h2:Stp s1 (numP E 1) s2 n) (hG2:∀ u l,s2 = .ok u l→∀ t∈l,TokG t) (h3:Stp s2 (tokP E 1) s3 a):Stp (.ok () (t :: r)) (notP1 E one) s3 (.mk 12 a e0 n 0 []) :=
  ((Stp.skip h1).bind (h2.bind ((h3.name hG2).map fun a=>Ex.mk 12 a e0 n 0 []))).tail (n1_at hG h)
end
end Go.Proofs.YtppoeiofdmlpeaaGreatDoor
namespace Go.Proofs.YtppoeiofdmlpeaaGreatDoor
open Go Go.RowKit
theorem rlay_one {S:Nat→Prop} {W:World} {B:Nat} {c:Ex} {kv:Value} (hh:Has W B 24 #[.int .i64 c.op,.string c.name,.string c.value,.int .i64 c.n,.int .i64 c.extra,kv]) (hS:S B) (hk:LayS S W kv c.kids):LayS S W (.slice (some ⟨B,0,none⟩) 1 1) [c] :=
  .mk (some ⟨B,0,none⟩) 1 [c] (fun _=>kv) (Nat.le_refl _) (.inr ⟨B,0,rfl,hS,fun i hi j hj=>by
    obtain rfl:i = 0:=by have h1:i < 1:=hi;omega
    show W.cell? ⟨B,0+(0*6+j),none⟩ = some (exF c kv j)
    rw [show 0+(0*6+j) = j by omega,hh.cell j]
    rcases j with _ | _ | _ | _ | _ | _ | j
    all_goals first | rfl | omega⟩) fun i hi=>by
    obtain rfl:i = 0:=by have h1:i < 1:=hi;omega
    exact hk
theorem Fuel.mono {k m:Nat} {s:Got Unit} (h:Fuel k s) (hk:k≤m):Fuel m s:=by
  cases s with
  | bad e a=>trivial
  | ok u l=>exact Nat.le_trans h hk
theorem Fuel.go {α:Type} {k:Nat} {s s':Got Unit} {f:List Fnd→Got α} (h:Fuel k s) (hf:∀ l y r,f l = .ok y r→r.length≤l.length) (hs:(s.go f).end = s'):Fuel k s':=by
  subst hs
  cases s with
  | bad e a=>trivial
  | ok u l =>
    show Fuel k (f l).end
    cases hq:f l with
    | bad e a=>trivial
    | ok y r=>exact Nat.le_trans (hf l y r hq) h
theorem tok_sh {E kind:Int} (l:List Fnd) (y:ByteArray) (r:List Fnd) (h:tokP E kind l = .ok y r):r.length≤l.length:=by
  obtain ⟨t,e,_,_⟩:=tok_ok (s:=.ok () l) h
  injection e with _ e
  rw [e,List.length_cons]
  omega
theorem want_sh {E:Int} {word:ByteArray} (l:List Fnd) (y:Unit) (r:List Fnd) (h:wantP E word l = .ok y r):r.length≤l.length:=by
  unfold wantP at h
  split at h
  · injection h with _ h
    rw [←h,List.length_tail]
    omega
  · cases l <;> cases h
section
variable {g:Nat} {E:Int} {A:Option Addr} {c:Nat} {L:List Fnd}
/-- What stays since the beginning w: where the parser stands, and the result's block as it was. -/
structure Fr (g:Nat) (E:Int) (A:Option Addr) (c:Nat) (L:List Fnd) (w W:World) (s:Got Unit):Prop where
  rs:Rs g E A c L W s
  aw:Aw g g w W
  res:Has W w.heap.size 24 #[.int .i64 0,.string ⟨#[]⟩,.string ⟨#[]⟩,.int .i64 0,.int .i64 0,.slice none 0 0]
  hg:g < w.heap.size
theorem Fr.start {w:World} {s:Got Unit} (h:Rs g E A c L w s):Fr g E A c L w (w.alloc (.cells #[.int .i64 0,.string ⟨#[]⟩,.string ⟨#[]⟩,.int .i64 0,.int .i64 0,.slice none 0 0] 24)) s :=
  ⟨h.below ((Below.refl _ _).alloc (Nat.le_refl _) _),(Aw.refl _ _ _).alloc _,Has.new w _ _,h.lt⟩
theorem Fr.call {w W W':World} {s s':Got Unit} (h:Fr g E A c L w W s) (ha:Aw g g W W') (hr:Rs g E A c L W' s'):Fr g E A c L w W' s' :=
  ⟨hr,h.aw.trans ha,h.res.aw ha (by have:=h.hg;omega) (by have:=h.hg;omega),h.hg⟩
theorem Fr.alloc {w W:World} {s:Got Unit} (h:Fr g E A c L w W s) (o:Obj):Fr g E A c L w (W.alloc o) s :=
  ⟨h.rs.below ((Below.refl _ _).alloc (Nat.le_refl _) _),h.aw.alloc _,h.res.alloc _,h.hg⟩
theorem Fr.set {w W:World} {s:Got Unit} (h:Fr g E A c L w W s) {b i:Nat} {v:Value} (hb:w.heap.size < b):Fr g E A c L w (W.setCell ⟨b,i,none⟩ v) s :=
  ⟨h.rs.on fun k hk=>heap_setCell_other _ ⟨b,i,none⟩ k _ (by intro e;have e:k = b:=e;have:=h.hg;omega),h.aw.set b i (.inr (.inr (Nat.le_of_lt hb))) v,h.res.far _ (by intro e;have e:w.heap.size = b:=e;omega) _,h.hg⟩
/-- The index moved by one. -/
theorem Fr.inc {w W:World} {t:Fnd} {r:List Fnd} (h:Fr g E A c L w W (.ok () (t :: r))):∃ i:Nat,i < L.length∧L.length≤5000∧(∃ at':Int,Has W g 56 #[.slice A L.length c,.int .i64 i,.int .i64 E,.int .i64 0,.int .i64 at'])∧Fr g E A c L w (W.setCell ⟨g,1,none⟩ (.int .i64 ((i:Int)+1))) (.ok () r):=by
  obtain ⟨b,o,i,at',_,hbg,h1,ht,hi,_,h5,_,hr,_⟩:=h.rs.tok
  refine ⟨i,hi,h5,⟨at',h1⟩,Rs.mk (i:=i+1) ht (fun b hb=>heap_setCell_other _ ⟨g,1,none⟩ b _ (by intro e;have e:b = g:=e;omega)) (h1.put 1 (.int .i64 ((i:Int)+1))) hi ⟨rfl,hr⟩,h.aw.set g 1 (.inl rfl) _,h.res.far _ (by intro e;have e:w.heap.size = g:=e;have:=h.hg;omega) _,h.hg⟩
/-- The index moved back. -/
theorem Fr.back {w W:World} {u:Fnd} {r:List Fnd} (h:Fr g E A c L w W (.ok () r)) (i0:Nat) (h0:u :: r = L.drop i0) (hi:i0+(r.length+1) = L.length):(∃ at':Int,Has W g 56 #[.slice A L.length c,.int .i64 (i0+1:Nat),.int .i64 E,.int .i64 0,.int .i64 at'])∧Fr g E A c L w (W.setCell ⟨g,1,none⟩ (.int .i64 (i0:Int))) (.ok () (u :: r)):=by
  obtain ⟨i,at',h1,ht,hl,_⟩:=h.rs.obj
  obtain rfl:i = i0+1:=by omega
  exact ⟨⟨at',h1⟩,Rs.mk (i:=i0) ht (fun b hb=>heap_setCell_other _ ⟨g,1,none⟩ b _ (by intro e;have e:b = g:=e;omega)) (h1.put 1 (.int .i64 (i0:Int))) (by omega) ⟨rfl,h0⟩,h.aw.set g 1 (.inl rfl) _,h.res.far _ (by intro e;have e:w.heap.size = g:=e;have:=h.hg;omega) _,h.hg⟩
theorem Fr.drewN {w W:World} {s:Got Unit} (h:Fr g E A c L w W s) (n:Nat):Fr g E A c L w (W.drewN n) s :=
  ⟨h.rs.below (below_drewN (Below.refl _ _) _),h.aw.drewN _,h.res.drewN _,h.hg⟩
theorem Fr.drew {w W:World} {s:Got Unit} (h:Fr g E A c L w W s):Fr g E A c L w W.drew s :=
  ⟨h.rs.on fun _ _=>rfl,h.aw.drew,h.res.drew,h.hg⟩
theorem Fr.lt {w W:World} {s:Got Unit} (h:Fr g E A c L w W s):w.heap.size < W.heap.size:=h.res.lt
/-- The end: the result stored. -/
theorem Fr.fin {w W:World} {s s':Got Unit} {f:List Fnd→Got Ex} (x:Ex) {kv:Value} (h:Fr g E A c L w W s') (hst:Stp s f s' x) (hk:LayS (fun b=>w.heap.size+1≤b) W kv x.kids) :
    Rx g E A c L f s w (.returned (.agg #[.int .i64 x.op,.string x.name,.string x.value,.int .i64 x.n,.int .i64 x.extra,kv])) (six W w.heap.size (.int .i64 x.op) (.string x.name) (.string x.value) (.int .i64 x.n) (.int .i64 x.extra) kv) :=
  ⟨_,x,rfl,⟨kv,rfl,six_lay hk (fun b hb=>⟨by omega,by omega⟩) _ _ _ _ _ _⟩,six_aw h.aw (.inr (.inr (Nat.le_refl _))) _ _ _ _ _ _,
   by rw [hst.1];exact h.rs.on fun b hb=>six_old W w.heap.size _ _ _ _ _ _ (by have:=h.hg;omega),hst.2⟩
theorem tok_st (kind:Int) {s s':Got Unit} (hs:(s.go (tokP E kind)).end = s') (W:World) (h:Rs g E A c L W s) :
    Calls Tryz.prog 27 #[.pointer (some ⟨g,0,none⟩),.int .i64 kind] W fun r w'=>∃ v,r = .returned (.string v)∧Aw g g W w'∧Rs g E A c L w' s'∧Stp s (tokP E kind) s' v :=
  (rtoken_any kind s W h).mono (by rintro r w' ⟨v,h1,h2,h3,h4,_⟩;exact ⟨v,h1,h2,hs ▸ h3,hs,h4⟩)
theorem num_st (low:Int) {s s':Got Unit} (hs:(s.go (numP E low)).end = s') (W:World) (h:Rs g E A c L W s) :
    Calls Tryz.prog 79 #[.pointer (some ⟨g,0,none⟩),.int .i64 low] W fun r w'=>∃ n,r = .returned (.int .i64 n)∧Aw g g W w'∧Rs g E A c L w' s'∧Stp s (numP E low) s' n :=
  (rnumber_any low s W h).mono (by rintro r w' ⟨v,h1,h2,h3,h4⟩;exact ⟨v,h1,h2,hs ▸ h3,hs,h4⟩)
theorem skip_st (word:ByteArray) {s s':Got Unit} (hs:(s.go (wantP E word)).end = s') (W:World) (h:Rs g E A c L W s) :
    Calls Tryz.prog 26 #[.pointer (some ⟨g,0,none⟩),.string word] W fun r w'=>r = .returned (.tuple #[])∧Aw g g W w'∧Rs g E A c L w' s' :=
  (rskip_any word s W h).mono (by
    rintro r w' ⟨h1,h2,h3⟩
    refine ⟨h1,h2,?_⟩
    rw [←hs]
    cases s with
    | bad e a=>exact h3
    | ok u l =>
      have h3:Rs g E A c L w' (wantP E word l):=h3
      show Rs g E A c L w' (wantP E word l).end
      cases hq:wantP E word l with
      | bad e a=>rw [hq] at h3;exact h3
      | ok y r=>rw [hq] at h3;exact h3)
theorem took_st (word:ByteArray) (b:Bool) {s s':Got Unit} (hb:staB word s = b) (hs:staT word s = s') (W:World) (h:Rs g E A c L W s) :
    Calls Tryz.prog 50 #[.pointer (some ⟨g,0,none⟩),.string word] W fun r w'=>r = .returned (.bool b)∧Aw g g W w'∧Rs g E A c L w' s' :=
  (rtook_any word s W h).mono (by rintro r w' ⟨h1,h2,h3⟩;exact ⟨hb ▸ h1,h2,hs ▸ h3⟩)
theorem took_no (s:Got Unit) (word:ByteArray) (W:World) (h:Rs g E A c L W s) (hb:staB word s = false) :
    Calls Tryz.prog 50 #[.pointer (some ⟨g,0,none⟩),.string word] W fun r w'=>r = .returned (.bool false)∧Aw g g W w'∧Rs g E A c L w' s :=
  took_st word false hb (staT_no hb) W h
theorem is_st (s:Got Unit) (b:Bool) (word:ByteArray) (W:World) (h:Rs g E A c L W s) (hb:staB word s = b) :
    Calls Tryz.prog 52 #[.pointer (some ⟨g,0,none⟩),.string word] W fun r w'=>r = .returned (.bool b)∧Aw g g W w'∧Rs g E A c L w' s :=
  (ris_any word s W h).mono (by rintro r w' ⟨h1,h2⟩;exact ⟨hb ▸ h1,.of_below h2,h.below h2⟩)
set_option maxRecDepth 100000 in
set_option maxHeartbeats 8000000 in
theorem rlev2_any (f:List Fnd→Got Ex) (s:Got Unit) (w:World) (h:Rs g E A c L w s)
    (hone:∀ (W:World),Rs g E A c L W s→Calls Tryz.prog 51 #[.pointer (some ⟨g,0,none⟩)] W (Rx g E A c L f s W)) :
    Calls Tryz.prog 28 #[.pointer (some ⟨g,0,none⟩),.int .i64 2] w (Rx g E A c L f s w):=by
  have HF:=Lib.hid (Fr.start h)
  have HZZ:=Lib.hid (show (w.alloc (.cells #[.int .i64 0,.string ⟨#[]⟩,.string ⟨#[]⟩,.int .i64 0,.int .i64 0,.slice none 0 0] 24)).heap.size = w.heap.size+1 from World.size_alloc _ _)
  go_enter Tryz.func28,Tryz.ntmps28
  go_wp2_with (go_at_call 51;refine (hone _ HF.out.rs).mono ?_;rintro r w1 ⟨v,x,rfl,⟨kv,rfl,hv⟩,ha,hr,hfit⟩;replace HF:=Lib.hid (HF.out.call ha hr);have HV:=Lib.hid hv;obtain ⟨Ak,ck,rfl,_⟩:=hv.slice;have HT:=Lib.hid hfit;obtain ⟨d0,f0⟩:=HF.out.res.facts;clear ha hr hv hfit)
  have HSix:=Lib.hid (six_has HF.out.res (.int .i64 x.op) (.string x.name) (.string x.value) (.int .i64 x.n) (.int .i64 x.extra) (.slice Ak x.kids.length ck))
  have HFin:=Lib.hid (HF.out.fin (f:=f) (s:=s) x ⟨rfl,HT.out⟩ (HV.out.mono fun b hb _=>(by rw [HZZ.out] at hb;exact hb)))
  show bodyPost _ _ _ _ _ (six w1 w.heap.size (.int .i64 x.op) (.string x.name) (.string x.value) (.int .i64 x.n) (.int .i64 x.extra) (.slice Ak x.kids.length ck))
  generalize six w1 w.heap.size (.int .i64 x.op) (.string x.name) (.string x.value) (.int .i64 x.n) (.int .i64 x.extra) (.slice Ak x.kids.length ck) = W6 at *
  obtain ⟨d6,f6⟩:=HSix.out.facts
  refine bodyPost_ret (v:=.agg #[.int .i64 x.op,.string x.name,.string x.value,.int .i64 x.n,.int .i64 x.extra,.slice Ak x.kids.length ck]) (by simp [results,Tryz.results28,go_sem,d6]) rfl ?_
  exact HFin.out
end
end Go.Proofs.YtppoeiofdmlpeaaGreatDoor
