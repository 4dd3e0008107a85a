/- bogieref10.own, Valid: what one go over the properties, over the parts has looked at. No condition. bogieref10.At, amount, held. No condition but sizes. bogieref10.own: the fields of a part that are about itself. No condition but sizes. -/
import Derived.Test.YtpikcofbhkbifaaGreatU05
import Derived.Test.YtpikcofbhkbifaaGreatU25
import Derived.Test.YtpikcofbhkbifaaGreatZRA
import Derived.Test.YtpikcofbhkbifaaGreatZRB
namespace Go.Proofs.YtpikcofbhkbifaaGreat
open Go Go.RowKit
/-- The place of the first part with a name; -1 if there is none. -/
def atP (l:List Pa) (x:ByteArray):Int:=if (pfind l x).isSome then (l.findIdx fun p=>decide (p.name = x):Nat) else -1
theorem atP_at {l:List Pa} {x:ByteArray} {k:Nat} (hk:k < l.length) (h:∀ q∈l.take k,q.name ≠ x) (he:(l.getD k noPa).name = x):atP l x = k:=by
  have hf:pfind l x = some (l.getD k noPa):=find_at Pa.name hk h he
  unfold atP
  rw [hf]
  have hg:l.getD k noPa = l[k]:=by rw [List.getD_eq_getElem?_getD,List.getElem?_eq_getElem hk];rfl
  rw [hg] at he
  have:l.findIdx (fun p=>decide (p.name = x)) = k:=by
    rw [List.findIdx_eq hk]
    refine ⟨by simpa using he,fun j hj=>?_⟩
    have:=h l[j] (List.mem_take_iff_getElem.2 ⟨j,by omega,rfl⟩)
    simpa using this
  rw [this];rfl
theorem atP_no {l:List Pa} {x:ByteArray} (h:pfind l x = none):atP l x = -1:=by
  unfold atP;rw [h];rfl
theorem atP_yes {l:List Pa} {x:ByteArray} {p:Pa} (h:pfind l x = some p):∃ k,k < l.length∧atP l x = (k:Int)∧l.getD k noPa = p:=by
  unfold pfind at h
  rw [List.find?_eq_some_iff_getElem] at h
  obtain ⟨h1,k,hk,he,hj⟩:=h
  have hg:l.getD k noPa = p:=by rw [List.getD_eq_getElem?_getD,List.getElem?_eq_getElem hk, ← he];rfl
  refine ⟨k,hk,atP_at hk (fun q hq=>?_) (by rw [hg];simpa using h1),hg⟩
  obtain ⟨j,hj2,rfl⟩:=List.mem_take_iff_getElem.1 hq
  have:=hj j (by omega)
  simpa using this
/-- What the go over the properties has seen to be right. -/
def propsTo (ps:List Pr) (k:Nat):Prop:=(∀ x∈ps.take k,propOk x = true)∧sortTo (ps.map Pr.key) (k - 1) = true
theorem propsTo_zero (ps:List Pr):propsTo ps 0:=⟨fun x hx=>by simp at hx,rfl⟩
theorem propsTo_step {ps:List Pr} {k:Nat} (h:propsTo ps k) (hk:k < ps.length) (h1:propOk (ps.getD k noPr) = true) (h2:k = 0∨ltS (ps.getD (k - 1) noPr).key (ps.getD k noPr).key = true):propsTo ps (k+1):=by
  refine ⟨fun x hx=>?_,?_⟩
  · rw [take_getD ps k noPr hk,List.mem_append,List.mem_singleton] at hx
    rcases hx with hx | rfl
    · exact h.1 x hx
    · exact h1
  · rcases h2 with rfl | h2
    · rfl
    · obtain _ | k:=k
      · rfl
      · show sortTo _ (k+1) = true
        refine sortTo_step h.2 ?_
        rw [Nat.add_sub_cancel] at h2
        rw [map_getD Pr.key ps k noPr (by omega),map_getD Pr.key ps (k+1) noPr hk];exact h2
theorem propsTo_end {c:List Kd} {p:Pa} (h0:right0 c p = true) (h:propsTo p.props p.props.length):rightB c p = (amountB p.kl p.kh && (amountB p.cl p.ch && amountB p.dl p.dh)):=by
  obtain ⟨h1,h2⟩:=h
  rw [List.take_length] at h1
  rw [right_end h0 h1]
  have:sortedB (p.props.map Pr.key) = true:=by unfold sortedB;rw [List.length_map];exact h2
  rw [this];rfl
theorem props_sort {c:List Kd} {p:Pa} {k:Nat} (hk:k < p.props.length) (h0:k ≠ 0) (h:ltS (p.props.getD (k - 1) noPr).key (p.props.getD k noPr).key = false):rightB c p = false:=by
  obtain _ | k:=k
  · cases h0 rfl
  rw [Nat.add_sub_cancel] at h
  have:sortedB (p.props.map Pr.key) = false:=sortTo_bad (n:=k) (by rw [List.length_map];exact hk) (by rw [map_getD Pr.key p.props k noPr (by omega),map_getD Pr.key p.props (k+1) noPr hk];exact h)
  unfold rightB;rw [this];simp
/-- What the go over the parts has seen to be right. -/
def partsTo (c:List Kd) (l:List Pa) (k:Nat):Prop:=okTo c l k = true∧sortTo (l.map Pa.name) (k - 1) = true
theorem partsTo_zero (c:List Kd) (l:List Pa):partsTo c l 0:=⟨rfl,rfl⟩
theorem partsTo_step {c:List Kd} {l:List Pa} {k:Nat} (h:partsTo c l k) (hk:k < l.length) (hp:partOk c l (l.getD k noPa) = true) (hs:(l.getD k noPa).into = eS∨¬ seatOf (l.getD k noPa)∈seats (l.take k)) (h2:k = 0∨ltS (l.getD (k - 1) noPa).name (l.getD k noPa).name = true):partsTo c l (k+1):=by
  refine ⟨okTo_step h.1 hk hp hs,?_⟩
  rcases h2 with rfl | h2
  · rfl
  · obtain _ | k:=k
    · rfl
    · show sortTo _ (k+1) = true
      refine sortTo_step h.2 ?_
      rw [Nat.add_sub_cancel] at h2
      rw [map_getD Pa.name l k noPa (by omega),map_getD Pa.name l (k+1) noPa hk];exact h2
theorem partsTo_end {c:List Kd} {l:List Pa} (h1:catB c = true) (h2:l.length≤20000) (h:partsTo c l l.length):validB c l = true :=
  valid_good h1 h2 (by unfold sortedB;rw [List.length_map];exact h.2) h.1
theorem parts_sort {c:List Kd} {l:List Pa} {k:Nat} (hk:k < l.length) (h0:k ≠ 0) (h:ltS (l.getD (k - 1) noPa).name (l.getD k noPa).name = false):validB c l = false:=by
  obtain _ | k:=k
  · cases h0 rfl
  rw [Nat.add_sub_cancel] at h
  exact valid_head (.inr (.inr (sortTo_bad (n:=k) (by rw [List.length_map];exact hk) (by rw [map_getD Pa.name l k noPa (by omega),map_getD Pa.name l (k+1) noPa hk];exact h))))
/-- Is a seat taken among the first parts? -/
theorem seat_mem {l:List Pa} {k:Nat} {p:Pa} (hi:¬ p.into = eS):seatOf p∈seats (l.take k) ↔ ∃ q∈l.take k,q.into = p.into∧q.slot = p.slot:=by
  unfold seats
  rw [List.mem_map]
  constructor
  · rintro ⟨q,hq,he⟩
    injection he with e1 e2
    exact ⟨q,(List.mem_filter.1 hq).1,e1,e2⟩
  · rintro ⟨q,hq,e1,e2⟩
    exact ⟨q,List.mem_filter.2 ⟨hq,by rw [e1];simpa using hi⟩,by unfold seatOf;rw [e1,e2]⟩
theorem seat_no {l:List Pa} {k:Nat} {p:Pa} (hi:¬ p.into = eS) (h:∀ q∈l.take k,¬ (q.into = p.into∧q.slot = p.slot)):¬ seatOf p∈seats (l.take k):=fun hm=>by
  obtain ⟨q,hq,h1⟩:=(seat_mem hi).1 hm
  exact h q hq h1
theorem seat_at {l:List Pa} {k n:Nat} {p:Pa} (hi:¬ p.into = eS) (hn:n < k) (hk:k≤l.length) (h:(l.getD n noPa).into = p.into∧(l.getD n noPa).slot = p.slot):seatOf p∈seats (l.take k):=by
  refine (seat_mem hi).2 ⟨_,?_,h⟩
  rw [List.mem_take_iff_getElem]
  exact ⟨n,by omega,by rw [List.getD_eq_getElem?_getD,List.getElem?_eq_getElem (by omega)];rfl⟩
theorem seen_step {l:List Pa} {k n:Nat} {p:Pa} (hn:n < k) (hk:k≤l.length) (h:∀ q∈l.take n,¬ (q.into = p.into∧q.slot = p.slot)) (h1:¬ ((l.getD n noPa).into = p.into∧(l.getD n noPa).slot = p.slot)):∀ q∈l.take (n+1),¬ (q.into = p.into∧q.slot = p.slot):=by
  intro q hq
  rw [take_getD l n noPa (by omega),List.mem_append,List.mem_singleton] at hq
  rcases hq with hq | rfl
  · exact h q hq
  · exact h1
/-- The parts of being right, as the reference asks them. -/
theorem partOk_right {c:List Kd} {l:List Pa} {p:Pa} (h:rightB c p = false∨(decide (p.into = eS) == decide (p.slot = eS)) = false):partOk c l p = false:=by
  unfold partOk
  rcases h with h | h
  · rw [h];rfl
  · rw [h];simp
theorem partOk_free {c:List Kd} {l:List Pa} {p:Pa} (h1:rightB c p = true) (h2:(decide (p.into = eS) == decide (p.slot = eS)) = true) (h3:p.into = eS):partOk c l p = true:=by
  unfold partOk;rw [h1,h2,decide_eq_true h3];rfl
theorem partOk_in {c:List Kd} {l:List Pa} {p:Pa} (h1:rightB c p = true) (h2:(decide (p.into = eS) == decide (p.slot = eS)) = true) (h3:¬ p.into = eS):partOk c l p = placeOk c l p:=by
  unfold partOk;rw [h1,h2,decide_eq_false h3];rfl
theorem place_none {c:List Kd} {l:List Pa} {p:Pa} (h:pfind l p.into = none):placeOk c l p = false:=by
  unfold placeOk;rw [h]
theorem place_some {c:List Kd} {l:List Pa} {p q:Pa} (h:pfind l p.into = some q):placeOk c l p = (!p.gone && (!q.gone && takesB c q.kind p.slot p.kind)):=by
  unfold placeOk;rw [h]
end Go.Proofs.YtpikcofbhkbifaaGreat
namespace Go.Proofs.YtpikcofbhkbifaaGreat
open Go Go.RowKit
set_option maxRecDepth 100000 in
set_option maxHeartbeats 2000000 in
theorem refAt_any (w0:World) (v:Value) (l:List Pa) (x:ByteArray) (w:World) (hb0:Below w0.heap.size w0 w) (hv:Sta w0 v l) (hl:l.length≤100000) :
    Calls Tryz.prog 52 #[.agg #[v],.string x] w fun e w'=>e = .returned (.int .i64 (atP l x))∧Below w.heap.size w w':=by
  obtain ⟨A,cc,rfl,hn⟩:=Rd.form hv
  have h1:=Has.new w 27 #[.slice A l.length cc]
  have hb:Below w.heap.size w (w.alloc (.cells #[.slice A l.length cc] 27)):=(Below.refl _ _).alloc (Nat.le_refl _) _
  have HV:=Lib.hid hv
  have HB0:=Lib.hid hb0
  have HC1:=Lib.hid h1
  have HB1:=Lib.hid hb
  clear hv hb0 h1 hb
  go_enter Tryz.func52,Tryz.ntmps52
  go_wp2_with fail
  go_loopw [5] (fun i wr=>∃ k:Nat,k≤l.length∧i = .int .i64 k∧Hid (∀ q∈l.take k,q.name ≠ x)∧Hid (Has wr w.heap.size 27 #[.slice A l.length cc])∧Hid (Below w.heap.size w wr)) (fun i _=>l.length - (intOf i).toNat)
  case atStart=>exact ⟨0,Nat.zero_le _,rfl,fun q hq=>by simp at hq,HC1.out,HB1.out⟩
  case round =>
    obtain ⟨k,hk,rfl,HT,HC,HB⟩:=hrel
    clear HC1 HB1
    obtain ⟨x1,y1⟩:=HC.out.facts
    by_cases hlt:k < l.length
    · obtain ⟨b,o,c',cs,he,_,⟨sv,rfl,hsv⟩,_,hrg⟩:=Rd.get HV.out hlt noPa
      injection he with e1 e2 e3
      subst e1;subst e3
      have hrg':=range_later hrg (HB0.out.trans (HB.out.mono HB0.out.size))
      have HAT:=Lib.hid (fun he=>atP_at hlt HT.out he)
      have HNX:=Lib.hid (fun he=>take_next hlt HT.out he)
      have hki:(k:Int) < (l.length:Int):=by omega
      have r0:wr.cell? ⟨b,o+k*14,none⟩ = some (.string (l.getD k noPa).name):=hrg' 0 _ rfl
      clear hrg hsv hrg'
      generalize (l.getD k noPa).name = name at *
      cases he:(name.toList == x.toList)
      · have hne:name ≠ x:=by rw [beq_bytes] at he;exact of_decide_eq_false he
        have HN:=Lib.hid (HNX.out hne)
        clear hne
        go_wp2_with fail
        go_roundw
        case rel=>exact ⟨k+1,by omega,by go_num,HN.out,HC.out,HB.out⟩
        case measure=>simp [intOf];omega
      · have heq:name = x:=by rw [beq_bytes] at he;exact of_decide_eq_true he
        have HE:=Lib.hid (HAT.out heq)
        clear heq
        go_wp2_with fail
        go_ret
        exact ⟨ret_int (by rw [HE.out]),HB.out⟩
    · obtain rfl:k = l.length:=by omega
      have HE:=Lib.hid (atP_no (pfind_all HT.out))
      go_wp2_with fail
      go_ret
      exact ⟨ret_int (by rw [HE.out]),HB.out⟩
set_option maxRecDepth 100000 in
theorem amount10_any (a b:Int) (w:World) :
    Calls Tryz.prog 88 #[.agg #[.int .i64 a,.int .i64 b]] w fun e w'=>e = .returned (.bool (amountB a b))∧Below w.heap.size w w':=by
  unfold amountB
  by_cases h1:0≤a
  · by_cases h2:a≤b
    · go_enter Tryz.func88,Tryz.ntmps88
      go_wp2
      go_ret
      exact ⟨ret_bool (by simp [h1,h2]),by go_grown⟩
    · go_enter Tryz.func88,Tryz.ntmps88
      go_wp2
      go_ret
      exact ⟨ret_bool (by simp;omega),by go_grown⟩
  · go_enter Tryz.func88,Tryz.ntmps88
    go_wp2
    go_ret
    exact ⟨ret_bool (by simp;omega),by go_grown⟩
/-- Is a part held in one, in a slot or in any? -/
def heldB (l:List Pa) (into slot:ByteArray):Bool:=l.any fun q=>decide (q.into = into) && (decide (slot = eS) || decide (q.slot = slot))
theorem heldB_at {l:List Pa} {into slot:ByteArray} {k:Nat} (hk:k < l.length) (h:(decide ((l.getD k noPa).into = into) && (decide (slot = eS) || decide ((l.getD k noPa).slot = slot))) = true):heldB l into slot = true:=by
  unfold heldB;rw [List.any_eq_true]
  exact ⟨_,getD_mem l k noPa hk,h⟩
theorem heldB_all {l:List Pa} {into slot:ByteArray} (h:∀ q∈l.take l.length,(decide (q.into = into) && (decide (slot = eS) || decide (q.slot = slot))) = false):heldB l into slot = false:=by
  rw [List.take_length] at h
  unfold heldB;rw [List.any_eq_false]
  intro q hq;rw [h q hq];exact Bool.false_ne_true
theorem heldB_next {l:List Pa} {into slot:ByteArray} {k:Nat} (hk:k < l.length) (h:∀ q∈l.take k,(decide (q.into = into) && (decide (slot = eS) || decide (q.slot = slot))) = false) (he:(decide ((l.getD k noPa).into = into) && (decide (slot = eS) || decide ((l.getD k noPa).slot = slot))) = false):∀ q∈l.take (k+1),(decide (q.into = into) && (decide (slot = eS) || decide (q.slot = slot))) = false:=by
  intro q hq
  rw [take_getD l k noPa hk,List.mem_append,List.mem_singleton] at hq
  rcases hq with hq | rfl
  · exact h q hq
  · exact he
theorem heldB_slot {l:List Pa} {into slot:ByteArray} (h:slot ≠ eS):heldB l into slot = heldAt l into slot:=by
  unfold heldB heldAt;rw [decide_eq_false h];simp only [Bool.false_or]
theorem heldB_any (l:List Pa) (into:ByteArray):heldB l into eS = heldIn l into:=by
  unfold heldB heldIn;simp
set_option maxRecDepth 100000 in
set_option maxHeartbeats 4000000 in
theorem refHeld_any (w0:World) (v:Value) (l:List Pa) (into slot:ByteArray) (w:World) (hb0:Below w0.heap.size w0 w) (hv:Sta w0 v l) (hl:l.length≤100000) :
    Calls Tryz.prog 80 #[.agg #[v],.string into,.string slot] w fun e w'=>e = .returned (.bool (heldB l into slot))∧Below w.heap.size w w':=by
  obtain ⟨A,cc,rfl,hn⟩:=Rd.form hv
  have h1:=Has.new w 27 #[.slice A l.length cc]
  have hb:Below w.heap.size w (w.alloc (.cells #[.slice A l.length cc] 27)):=(Below.refl _ _).alloc (Nat.le_refl _) _
  have HV:=Lib.hid hv
  have HB0:=Lib.hid hb0
  have HC1:=Lib.hid h1
  have HB1:=Lib.hid hb
  clear hv hb0 h1 hb
  rcases (show slot.toList.isEmpty = true∨slot.toList.isEmpty = false by cases slot.toList.isEmpty <;> simp) with hse | hse
  all_goals
    have hsd:decide (slot = eS) = slot.toList.isEmpty:=(emp_iff slot).symm
    rw [hse] at hsd
    have HSD:=Lib.hid hsd
    clear hsd
    go_enter Tryz.func80,Tryz.ntmps80
    go_wp2_with fail
    go_loopw [7] (fun i wr=>∃ k:Nat,k≤l.length∧i = .int .i64 k∧Hid (∀ q∈l.take k,(decide (q.into = into) && (decide (slot = eS) || decide (q.slot = slot))) = false)∧Hid (Has wr w.heap.size 27 #[.slice A l.length cc])∧Hid (Below w.heap.size w wr)) (fun i _=>l.length - (intOf i).toNat)
    case atStart=>exact ⟨0,Nat.zero_le _,rfl,fun q hq=>by simp at hq,HC1.out,HB1.out⟩
    case round =>
      obtain ⟨k,hk,rfl,HT,HC,HB⟩:=hrel
      clear HC1 HB1
      obtain ⟨x1,y1⟩:=HC.out.facts
      by_cases hlt:k < l.length
      · obtain ⟨b,o,c',cs,he,_,⟨sv,rfl,hsv⟩,_,hrg⟩:=Rd.get HV.out hlt noPa
        injection he with e1 e2 e3
        subst e1;subst e3
        have hrg':=range_later hrg (HB0.out.trans (HB.out.mono HB0.out.size))
        have HAT:=Lib.hid (fun he=>heldB_at (into:=into) (slot:=slot) hlt he)
        have HNX:=Lib.hid (fun he=>heldB_next hlt HT.out he)
        have hki:(k:Int) < (l.length:Int):=by omega
        have r2:wr.cell? ⟨b,o+k*14+2,none⟩ = some (.string (l.getD k noPa).into):=hrg' 2 _ rfl
        have r3:wr.cell? ⟨b,o+k*14+3,none⟩ = some (.string (l.getD k noPa).slot):=hrg' 3 _ rfl
        clear hrg hsv hrg'
        generalize (l.getD k noPa).into = p2 at *
        generalize (l.getD k noPa).slot = p3 at *
        cases h2:(p2.toList == into.toList)
        · have HN:=Lib.hid (HNX.out (by rw [←beq_bytes,h2,Bool.false_and]))
          go_wp2_with fail
          go_roundw
          case rel=>exact ⟨k+1,by omega,by go_num,HN.out,HC.out,HB.out⟩
          case measure=>simp [intOf];omega
        · first
          | (have HN:=Lib.hid (HAT.out (by rw [←beq_bytes,h2,HSD.out,Bool.true_and,Bool.true_or]))
             go_wp2_with fail
             go_ret
             exact ⟨ret_bool (by rw [HN.out]),HB.out⟩)
          | (cases h3:(p3.toList == slot.toList)
             · have HN:=Lib.hid (HNX.out (by rw [←beq_bytes,h2,HSD.out, ← beq_bytes,h3];rfl))
               go_wp2_with fail
               go_roundw
               case rel=>exact ⟨k+1,by omega,by go_num,HN.out,HC.out,HB.out⟩
               case measure=>simp [intOf];omega
             · have HN:=Lib.hid (HAT.out (by rw [←beq_bytes,h2,HSD.out, ← beq_bytes,h3];rfl))
               go_wp2_with fail
               go_ret
               exact ⟨ret_bool (by rw [HN.out]),HB.out⟩)
      · obtain rfl:k = l.length:=by omega
        have HE:=Lib.hid (heldB_all HT.out)
        go_wp2_with fail
        go_ret
        exact ⟨ret_bool (by rw [HE.out]),HB.out⟩
end Go.Proofs.YtpikcofbhkbifaaGreat
namespace Go.Proofs.YtpikcofbhkbifaaGreat
open Go Go.RowKit
set_option maxRecDepth 100000 in
set_option maxHeartbeats 20000000 in
theorem own_any (w0:World) (cv:Value) (c:List Kd) (name kind into slot:ByteArray) (made since:Int) (gone:Bool) (props:List Pr) (A:Option Addr) (m:Nat) (kl kh cl ch dl dh:Int) (w:World) (hb0:Below w0.heap.size w0 w) (hv:Cat w0 cv c) (hl:c.length≤100000) (hp:Rd 2 PrR w0 (.slice A props.length m) props)
    (s1:name.size≤maxLen) (s5:props.length≤100000) (s6:∀ x∈props,x.short) :
    Calls Tryz.prog 51 #[.agg #[cv],.agg #[.string name,.string kind,.string into,.string slot,.int .i64 made,.int .i64 since,.bool gone,.slice A props.length m,.int .i64 kl,.int .i64 kh,.int .i64 cl,.int .i64 ch,.int .i64 dl,.int .i64 dh]] w fun e w'=>e = .returned (.bool (rightB c ⟨name,kind,into,slot,made,since,gone,props,kl,kh,cl,ch,dl,dh⟩))∧Below w.heap.size w w':=by
  obtain ⟨A',cc,rfl,hn⟩:=hv.form
  have HF:=Lib.hid (fun W (h:Below w0.heap.size w0 W)=>refFind_any w0 _ c kind W h hv hl)
  have hbb:Below w.heap.size w ((w.alloc (.cells #[.slice A' c.length cc] 24)).alloc (.cells #[.string name,.string kind,.string into,.string slot,.int .i64 made,.int .i64 since,.bool gone,.slice A props.length m,.int .i64 kl,.int .i64 kh,.int .i64 cl,.int .i64 ch,.int .i64 dl,.int .i64 dh] 47)):=((Below.refl _ _).alloc (Nat.le_refl _) _).alloc (by simp) _
  have hP:=Has.new (w.alloc (.cells #[.slice A' c.length cc] 24)) 47 #[.string name,.string kind,.string into,.string slot,.int .i64 made,.int .i64 since,.bool gone,.slice A props.length m,.int .i64 kl,.int .i64 kh,.int .i64 cl,.int .i64 ch,.int .i64 dl,.int .i64 dh]
  simp only [World.size_alloc] at hP
  have HB:=Lib.hid (hb0.trans (hbb.mono hb0.size))
  have HBb:=Lib.hid hbb
  have HP:=Lib.hid hP
  have HX:=Lib.hid hp
  have HS6:=Lib.hid s6
  have HB0:=Lib.hid hb0
  have HB0s:=hb0.size
  clear hv hbb hP hp s6 hb0
  have hr0:right0 c ⟨name,kind,into,slot,made,since,gone,props,kl,kh,cl,ch,dl,dh⟩ = ((kfind c kind).isSome && nameB name && (decide (0≤made) && (decide (made≤since) && decide (since≤40000))) && decide (props.length≤60)):=rfl
  generalize (kfind c kind).isSome = kb at *
  generalize (kfind c kind).getD noKd = fk at *
  obtain ⟨fn,fv,fs⟩:=fk
  have HNO:=Lib.hid (fun h=>right_no (c:=c) (p:=⟨name,kind,into,slot,made,since,gone,props,kl,kh,cl,ch,dl,dh⟩) h)
  have HR0:=Lib.hid hr0
  clear hr0
  cases kb
  · go_enter Tryz.func51,Tryz.ntmps51
    go_wp2_with (go_at_call 78;refine (HF.out _ HB.out).mono ?_;rintro e w1 ⟨A1,m1,rfl,hr1,hb1⟩;have z1:=hb1.size;have hq:=((HP.out.below hb1 (by simp)).alloc (.cells #[.string fn,.bool fv,.slice A1 fs.length m1] 79));obtain ⟨p1,p2⟩:=hq.facts;have HQ:=Lib.hid hq;have HBx:=Lib.hid ((HBb.out.trans (hb1.mono (by simp;omega))).alloc (by simp at z1;omega) (.cells #[.string fn,.bool fv,.slice A1 fs.length m1] 79));clear hb1 hq hr1)
    go_ret
    exact ⟨ret_bool (HNO.out (by rw [HR0.out];rfl)).symm,HBx.out⟩
  · cases hnm:nameB name
    · have HN:=Lib.hid hnm
      clear hnm
      go_enter Tryz.func51,Tryz.ntmps51
      go_wp2_with (first | (go_at_call 78;refine (HF.out _ HB.out).mono ?_;rintro e w1 ⟨A1,m1,rfl,hr1,hb1⟩;have z1:=hb1.size;have hq:=((HP.out.below hb1 (by simp)).alloc (.cells #[.string fn,.bool fv,.slice A1 fs.length m1] 79));obtain ⟨p1,p2⟩:=hq.facts;have HQ:=Lib.hid hq;have HBx:=Lib.hid ((HBb.out.trans (hb1.mono (by simp;omega))).alloc (by simp at z1;omega) (.cells #[.string fn,.bool fv,.slice A1 fs.length m1] 79));clear hb1 hq hr1) | (go_at_call 76;refine (refName_any name _ s1).mono ?_;rintro e w2 ⟨rfl,rfl⟩;rw [HN.out]))
      go_ret
      exact ⟨ret_bool (HNO.out (by rw [HR0.out,HN.out];rfl)).symm,HBx.out⟩
    · have HN:=Lib.hid hnm
      clear hnm
      rw [HN.out] at HR0
      by_cases n1:made < 0
      · go_enter Tryz.func51,Tryz.ntmps51
        go_wp2_with (first | (go_at_call 78;refine (HF.out _ HB.out).mono ?_;rintro e w1 ⟨A1,m1,rfl,hr1,hb1⟩;have z1:=hb1.size;have hq:=((HP.out.below hb1 (by simp)).alloc (.cells #[.string fn,.bool fv,.slice A1 fs.length m1] 79));obtain ⟨p1,p2⟩:=hq.facts;have HQ:=Lib.hid hq;have HBx:=Lib.hid ((HBb.out.trans (hb1.mono (by simp;omega))).alloc (by simp at z1;omega) (.cells #[.string fn,.bool fv,.slice A1 fs.length m1] 79));clear hb1 hq hr1) | (go_at_call 76;refine (refName_any name _ s1).mono ?_;rintro e w2 ⟨rfl,rfl⟩;rw [HN.out]))
        go_ret
        exact ⟨ret_bool (HNO.out (by rw [HR0.out];simp;omega)).symm,HBx.out⟩
      · by_cases n2:since < made
        · go_enter Tryz.func51,Tryz.ntmps51
          go_wp2_with (first | (go_at_call 78;refine (HF.out _ HB.out).mono ?_;rintro e w1 ⟨A1,m1,rfl,hr1,hb1⟩;have z1:=hb1.size;have hq:=((HP.out.below hb1 (by simp)).alloc (.cells #[.string fn,.bool fv,.slice A1 fs.length m1] 79));obtain ⟨p1,p2⟩:=hq.facts;have HQ:=Lib.hid hq;have HBx:=Lib.hid ((HBb.out.trans (hb1.mono (by simp;omega))).alloc (by simp at z1;omega) (.cells #[.string fn,.bool fv,.slice A1 fs.length m1] 79));clear hb1 hq hr1) | (go_at_call 76;refine (refName_any name _ s1).mono ?_;rintro e w2 ⟨rfl,rfl⟩;rw [HN.out]))
          go_ret
          exact ⟨ret_bool (HNO.out (by rw [HR0.out];simp;omega)).symm,HBx.out⟩
        · by_cases n3:40000 < since
          · go_enter Tryz.func51,Tryz.ntmps51
            go_wp2_with (first | (go_at_call 78;refine (HF.out _ HB.out).mono ?_;rintro e w1 ⟨A1,m1,rfl,hr1,hb1⟩;have z1:=hb1.size;have hq:=((HP.out.below hb1 (by simp)).alloc (.cells #[.string fn,.bool fv,.slice A1 fs.length m1] 79));obtain ⟨p1,p2⟩:=hq.facts;have HQ:=Lib.hid hq;have HBx:=Lib.hid ((HBb.out.trans (hb1.mono (by simp;omega))).alloc (by simp at z1;omega) (.cells #[.string fn,.bool fv,.slice A1 fs.length m1] 79));clear hb1 hq hr1) | (go_at_call 76;refine (refName_any name _ s1).mono ?_;rintro e w2 ⟨rfl,rfl⟩;rw [HN.out]))
            go_ret
            exact ⟨ret_bool (HNO.out (by rw [HR0.out];simp;omega)).symm,HBx.out⟩
          · by_cases n4:60 < props.length
            · have n4':(60:Int) < (props.length:Int):=by omega
              go_enter Tryz.func51,Tryz.ntmps51
              go_wp2_with (first | (go_at_call 78;refine (HF.out _ HB.out).mono ?_;rintro e w1 ⟨A1,m1,rfl,hr1,hb1⟩;have z1:=hb1.size;have hq:=((HP.out.below hb1 (by simp)).alloc (.cells #[.string fn,.bool fv,.slice A1 fs.length m1] 79));obtain ⟨p1,p2⟩:=hq.facts;have HQ:=Lib.hid hq;have HBx:=Lib.hid ((HBb.out.trans (hb1.mono (by simp;omega))).alloc (by simp at z1;omega) (.cells #[.string fn,.bool fv,.slice A1 fs.length m1] 79));clear hb1 hq hr1) | (go_at_call 76;refine (refName_any name _ s1).mono ?_;rintro e w2 ⟨rfl,rfl⟩;rw [HN.out]))
              go_ret
              exact ⟨ret_bool (HNO.out (by rw [HR0.out];simp;omega)).symm,HBx.out⟩
            · have n4':¬ (60:Int) < (props.length:Int):=by omega
              have HR1:=Lib.hid (show right0 c ⟨name,kind,into,slot,made,since,gone,props,kl,kh,cl,ch,dl,dh⟩ = true by rw [HR0.out];simp;omega)
              go_enter Tryz.func51,Tryz.ntmps51
              go_wp2_with (first | (go_at_call 78;refine (HF.out _ HB.out).mono ?_;rintro e w1 ⟨A1,m1,rfl,hr1,hb1⟩;have z1:=hb1.size;have hq:=((HP.out.below hb1 (by simp)).alloc (.cells #[.string fn,.bool fv,.slice A1 fs.length m1] 79));obtain ⟨p1,p2⟩:=hq.facts;have HQ:=Lib.hid hq;have HBx:=Lib.hid ((HBb.out.trans (hb1.mono (by simp;omega))).alloc (by simp at z1;omega) (.cells #[.string fn,.bool fv,.slice A1 fs.length m1] 79));clear hb1 hq hr1) | (go_at_call 76;refine (refName_any name _ s1).mono ?_;rintro e w2 ⟨rfl,rfl⟩;rw [HN.out]))
              have HPA:=Lib.hid HP.out
              go_loopw [7] (fun i wr=>∃ k:Nat,k≤props.length∧i = .int .i64 k∧Hid (propsTo props k)∧Hid (Has wr (w.heap.size+1) 47 #[.string name,.string kind,.string into,.string slot,.int .i64 made,.int .i64 since,.bool gone,.slice A props.length m,.int .i64 kl,.int .i64 kh,.int .i64 cl,.int .i64 ch,.int .i64 dl,.int .i64 dh])∧Hid (Below w.heap.size w wr)∧w.heap.size+1 < wr.heap.size) (fun i _=>props.length - (intOf i).toNat)
              case atStart=>exact ⟨0,Nat.zero_le _,rfl,propsTo_zero _,HQ.out,HBx.out,HQ.out.lt⟩
              case round =>
                obtain ⟨k,hk,rfl,HT,HPc,HBr,hz⟩:=hrel
                by_cases hlt:k < props.length
                · obtain ⟨b,o,c',cs,he,_,hcs,_,hrg⟩:=HX.out.get hlt noPr
                  injection he with e1 e2 e3
                  subst e1;subst e3
                  unfold PrR at hcs
                  subst hcs
                  have HBc:=Lib.hid (HB0.out.trans (HBr.out.mono HB0s))
                  have hrg':=range_later hrg HBc.out
                  have hsh:=HS6.out _ (getD_mem props k noPr hlt)
                  have hbad:=Lib.hid (fun h=>right_prop (c:=c) (p:=⟨name,kind,into,slot,made,since,gone,props,kl,kh,cl,ch,dl,dh⟩) hlt h)
                  have hsrt:=Lib.hid (fun h0 h=>props_sort (c:=c) (p:=⟨name,kind,into,slot,made,since,gone,props,kl,kh,cl,ch,dl,dh⟩) hlt h0 h)
                  have hstep:=Lib.hid (fun h1 h2=>propsTo_step HT.out hlt h1 h2)
                  have hprev:0 < k→wr.cell? ⟨b,o+(k - 1)*2,none⟩ = some (.string (props.getD (k - 1) noPr).key):=fun h0=>by
                    obtain ⟨b',o',c'',cs',he,_,hcs',_,hrgp⟩:=HX.out.get (show k - 1 < props.length by omega) noPr
                    injection he with e1 e2' e3
                    injection e1 with e1
                    injection e1 with e1 e1'
                    subst e1;subst e1';subst e3
                    unfold PrR at hcs'
                    subst hcs'
                    exact range_later hrgp HBc.out 0 _ rfl
                  clear hrg
                  change Hid (propOk (props.getD k noPr) = false→_) at hbad
                  change Hid (k ≠ 0→ltS (props.getD (k - 1) noPr).key (props.getD k noPr).key = false→_) at hsrt
                  generalize props.getD k noPr = x at *
                  generalize (props.getD (k - 1) noPr).key = pk at *
                  obtain ⟨xk,xv⟩:=x
                  replace hrg':wr.rangeAt b (o+k*2) [.string xk,.string xv]:=hrg'
                  obtain ⟨h1,h2⟩:=hsh
                  dsimp only at h1 h2 hsrt hbad hstep
                  have hpo:propOk ⟨xk,xv⟩ = (nameB xk && (!xv.toList.isEmpty && decide ((xv.size:Int)≤200))):=rfl
                  rw [isEmpty_size] at hpo
                  have HPO:=Lib.hid hpo
                  clear hpo
                  have HPR:=Lib.hid hprev
                  clear hprev
                  have hPn:=HPc.out.alloc (.cells #[.string xk,.string xv] 52)
                  have HPn:=Lib.hid hPn
                  have HBn:=Lib.hid (HBr.out.alloc HBr.out.size (.cells #[.string xk,.string xv] 52))
                  have hXn:=Has.new wr 52 #[.string xk,.string xv]
                  obtain ⟨x0,y0⟩:=HPc.out.facts
                  have HXn:=Lib.hid hXn
                  clear hPn hXn
                  have HNC0:=Lib.hid (fun W=>refName_any xk W h1)
                  cases hnm:nameB xk
                  · have HNM:=Lib.hid hnm
                    rw [hnm] at HNC0
                    have HNC:=HNC0
                    clear hnm HNC0
                    go_wp2_with ((with_reducible show wpList _ _ _ (Oper.mk (some 58) _ _ _ _ _ :: _) _ _);refine wpList_load_mid rfl 52 _ rfl b (o+k*2) rfl _ _ hrg' Tryz.underlying52 rfl rfl ?_)
                    have hS0:(fun W=>W.cell? ⟨wr.heap.size,0,none⟩ = some (.string xk)∧W.cell? ⟨wr.heap.size,1,none⟩ = some (.string xv)∧W.cell? ⟨w.heap.size+1,7,none⟩ = some (.slice (some ⟨b,o,none⟩) props.length m)) (wr.alloc (.cells #[.string xk,.string xv] 52)).drew:=⟨HXn.out.facts.1 0,HXn.out.facts.1 1,HPn.out.facts.1 7⟩
                    refine wp_region_held_drew (S:=fun W=>W.cell? ⟨wr.heap.size,0,none⟩ = some (.string xk)∧W.cell? ⟨wr.heap.size,1,none⟩ = some (.string xv)∧W.cell? ⟨w.heap.size+1,7,none⟩ = some (.slice (some ⟨b,o,none⟩) props.length m)) (by kernel_rfl) (hS0) (fun hHeld=>?_)
                    refine plI [(0,false),(1,false)] ?_
                    repeat ((first | refine plF ?_ | (refine plR (v:=?_) ?_ ?_;rotate_left;focus (intro W hSW;(try dsimp only at hSW);go_simp;all_goals (with_reducible rfl))));try simp only [Act.put,List.setIfInBounds_toArray,List.set_cons_zero,List.set_cons_succ])
                    refine plE ?_
                    refine wpAnyH_ready (rs:=[2]) (by kernel_rfl) (by simp) ?_
                    refine AllReadyH.cons (o:=⟨_,_,_,_,_,_⟩) rfl (fun K hK=>?_) AllReadyH.nil
                    go_simp
                    go_at_call 76;refine (HNC.out _).mono ?_;rintro e wn ⟨rfl,rfl⟩
                    refine hK.out _ _ (hS0) (fun hHeld=>?_)
                    clear hK K
                    try simp only [Act.put,List.setIfInBounds_toArray,List.set_cons_zero,List.set_cons_succ]
                    refine plI [(3,false),(4,false),(5,true),(6,true),(7,true),(8,true),(9,false),(10,false),(11,true),(12,true),(13,true),(14,true),(15,false),(16,false),(17,true),(18,true),(19,true),(20,true),(21,true),(22,true),(23,true),(24,true),(25,true),(26,true),(27,true),(28,true),(29,true),(30,true),(31,false)] ?_
                    repeat ((first | refine plF ?_ | (refine plR (v:=?_) ?_ ?_;rotate_left;focus (intro W hSW;(try dsimp only at hSW);go_simp;all_goals (with_reducible rfl))));try simp only [Act.put,List.setIfInBounds_toArray,List.set_cons_zero,List.set_cons_succ])
                    refine plE ?_
                    refine wpAnyH_done (by kernel_rfl) ?_ _
                    clear hHeld hS0
                    go_wp2_with fail
                    go_ret
                    exact ⟨ret_bool (hbad.out (by rw [HPO.out,HNM.out];rfl)).symm,HBn.out.drew⟩
                  · have HNM:=Lib.hid hnm
                    rw [hnm] at HNC0
                    have HNC:=HNC0
                    clear hnm HNC0
                    by_cases n5:(xv.size:Int) < 1
                    · go_wp2_with ((with_reducible show wpList _ _ _ (Oper.mk (some 58) _ _ _ _ _ :: _) _ _);refine wpList_load_mid rfl 52 _ rfl b (o+k*2) rfl _ _ hrg' Tryz.underlying52 rfl rfl ?_)
                      have hS0:(fun W=>W.cell? ⟨wr.heap.size,0,none⟩ = some (.string xk)∧W.cell? ⟨wr.heap.size,1,none⟩ = some (.string xv)∧W.cell? ⟨w.heap.size+1,7,none⟩ = some (.slice (some ⟨b,o,none⟩) props.length m)) (wr.alloc (.cells #[.string xk,.string xv] 52)).drew:=⟨HXn.out.facts.1 0,HXn.out.facts.1 1,HPn.out.facts.1 7⟩
                      refine wp_region_held_drew (S:=fun W=>W.cell? ⟨wr.heap.size,0,none⟩ = some (.string xk)∧W.cell? ⟨wr.heap.size,1,none⟩ = some (.string xv)∧W.cell? ⟨w.heap.size+1,7,none⟩ = some (.slice (some ⟨b,o,none⟩) props.length m)) (by kernel_rfl) (hS0) (fun hHeld=>?_)
                      refine plI [(0,false),(1,false)] ?_
                      repeat ((first | refine plF ?_ | (refine plR (v:=?_) ?_ ?_;rotate_left;focus (intro W hSW;(try dsimp only at hSW);go_simp;all_goals (with_reducible rfl))));try simp only [Act.put,List.setIfInBounds_toArray,List.set_cons_zero,List.set_cons_succ])
                      refine plE ?_
                      refine wpAnyH_ready (rs:=[2]) (by kernel_rfl) (by simp) ?_
                      refine AllReadyH.cons (o:=⟨_,_,_,_,_,_⟩) rfl (fun K hK=>?_) AllReadyH.nil
                      go_simp
                      go_at_call 76;refine (HNC.out _).mono ?_;rintro e wn ⟨rfl,rfl⟩
                      refine hK.out _ _ (hS0) (fun hHeld=>?_)
                      clear hK K
                      try simp only [Act.put,List.setIfInBounds_toArray,List.set_cons_zero,List.set_cons_succ]
                      refine plI [(3,false),(4,false),(5,false),(6,false),(7,false),(8,false),(9,false),(10,false),(11,true),(12,true),(13,true),(14,true),(15,false),(16,false),(17,true),(18,true),(19,true),(20,true),(21,true),(22,true),(23,true),(24,true),(25,true),(26,true),(27,true),(28,true),(29,true),(30,true),(31,false)] ?_
                      repeat ((first | refine plF ?_ | (refine plR (v:=?_) ?_ ?_;rotate_left;focus (intro W hSW;(try dsimp only at hSW);go_simp;all_goals (with_reducible rfl))));try simp only [Act.put,List.setIfInBounds_toArray,List.set_cons_zero,List.set_cons_succ])
                      refine plE ?_
                      refine wpAnyH_done (by kernel_rfl) ?_ _
                      clear hHeld hS0
                      go_wp2_with fail
                      go_ret
                      exact ⟨ret_bool (hbad.out (by rw [HPO.out,decide_eq_true (show xv.size = 0 by omega)];simp)).symm,HBn.out.drew⟩
                    · have n5a:1≤xv.size:=by omega
                      have n5b:decide ((xv.size:Int) < 1) = false:=by rw [decide_eq_false_iff_not];omega
                      by_cases n6:(200:Int) < (xv.size:Int)
                      · go_wp2_with ((with_reducible show wpList _ _ _ (Oper.mk (some 58) _ _ _ _ _ :: _) _ _);refine wpList_load_mid rfl 52 _ rfl b (o+k*2) rfl _ _ hrg' Tryz.underlying52 rfl rfl ?_)
                        have hS0:(fun W=>W.cell? ⟨wr.heap.size,0,none⟩ = some (.string xk)∧W.cell? ⟨wr.heap.size,1,none⟩ = some (.string xv)∧W.cell? ⟨w.heap.size+1,7,none⟩ = some (.slice (some ⟨b,o,none⟩) props.length m)) (wr.alloc (.cells #[.string xk,.string xv] 52)).drew:=⟨HXn.out.facts.1 0,HXn.out.facts.1 1,HPn.out.facts.1 7⟩
                        refine wp_region_held_drew (S:=fun W=>W.cell? ⟨wr.heap.size,0,none⟩ = some (.string xk)∧W.cell? ⟨wr.heap.size,1,none⟩ = some (.string xv)∧W.cell? ⟨w.heap.size+1,7,none⟩ = some (.slice (some ⟨b,o,none⟩) props.length m)) (by kernel_rfl) (hS0) (fun hHeld=>?_)
                        refine plI [(0,false),(1,false)] ?_
                        repeat ((first | refine plF ?_ | (refine plR (v:=?_) ?_ ?_;rotate_left;focus (intro W hSW;(try dsimp only at hSW);go_simp;all_goals (with_reducible rfl))));try simp only [Act.put,List.setIfInBounds_toArray,List.set_cons_zero,List.set_cons_succ])
                        refine plE ?_
                        refine wpAnyH_ready (rs:=[2]) (by kernel_rfl) (by simp) ?_
                        refine AllReadyH.cons (o:=⟨_,_,_,_,_,_⟩) rfl (fun K hK=>?_) AllReadyH.nil
                        go_simp
                        go_at_call 76;refine (HNC.out _).mono ?_;rintro e wn ⟨rfl,rfl⟩
                        refine hK.out _ _ (hS0) (fun hHeld=>?_)
                        clear hK K
                        try simp only [Act.put,List.setIfInBounds_toArray,List.set_cons_zero,List.set_cons_succ]
                        refine plI [(3,false),(4,false),(5,false),(6,false),(7,false),(8,false),(9,false),(10,false),(11,false),(12,false),(13,false),(14,false),(15,false),(16,false),(17,true),(18,true),(19,true),(20,true),(21,true),(22,true),(23,true),(24,true),(25,true),(26,true),(27,true),(28,true),(29,true),(30,true),(31,false)] ?_
                        repeat ((first | refine plF ?_ | (refine plR (v:=?_) ?_ ?_;rotate_left;focus (intro W hSW;(try dsimp only at hSW);go_simp;all_goals (with_reducible rfl))));try simp only [Act.put,List.setIfInBounds_toArray,List.set_cons_zero,List.set_cons_succ])
                        refine plE ?_
                        refine wpAnyH_done (by kernel_rfl) ?_ _
                        clear hHeld hS0
                        go_wp2_with fail
                        go_ret
                        exact ⟨ret_bool (hbad.out (by rw [HPO.out,decide_eq_false (show ¬ (xv.size:Int)≤200 by omega)];simp)).symm,HBn.out.drew⟩
                      · have HOK:=Lib.hid (show propOk ⟨xk,xv⟩ = true by rw [HPO.out,HNM.out,decide_eq_true (show (xv.size:Int)≤200 by omega),decide_eq_false (show ¬ xv.size = 0 by omega)];rfl)
                        have n6b:decide ((200:Int) < (xv.size:Int)) = false:=by rw [decide_eq_false_iff_not];omega
                        by_cases n7:0 < k
                        · have hprev:=HPR.out n7
                          have hsub:IntKind.i64.wrap ((k:Int) - 1) = ((k - 1:Nat):Int):=by rw [IntKind.wrap_i64];omega
                          have hkl:k - 1 < props.length:=by omega
                          generalize k - 1 = n at *
                          cases n8:Op.bytesLess pk.toList xk.toList
                          · have HL:=Lib.hid n8
                            go_wp2_with ((with_reducible show wpList _ _ _ (Oper.mk (some 58) _ _ _ _ _ :: _) _ _);refine wpList_load_mid rfl 52 _ rfl b (o+k*2) rfl _ _ hrg' Tryz.underlying52 rfl rfl ?_)
                            have hS0:(fun W=>W.cell? ⟨wr.heap.size,0,none⟩ = some (.string xk)∧W.cell? ⟨wr.heap.size,1,none⟩ = some (.string xv)∧W.cell? ⟨w.heap.size+1,7,none⟩ = some (.slice (some ⟨b,o,none⟩) props.length m)∧W.cell? ⟨b,o+n*2,none⟩ = some (.string pk)) (wr.alloc (.cells #[.string xk,.string xv] 52)).drew:=⟨HXn.out.facts.1 0,HXn.out.facts.1 1,HPn.out.facts.1 7,cell_later (((Below.refl _ _).alloc (Nat.le_refl _) _).drew) hprev⟩
                            refine wp_region_held_drew (S:=fun W=>W.cell? ⟨wr.heap.size,0,none⟩ = some (.string xk)∧W.cell? ⟨wr.heap.size,1,none⟩ = some (.string xv)∧W.cell? ⟨w.heap.size+1,7,none⟩ = some (.slice (some ⟨b,o,none⟩) props.length m)∧W.cell? ⟨b,o+n*2,none⟩ = some (.string pk)) (by kernel_rfl) (hS0) (fun hHeld=>?_)
                            refine plI [(0,false),(1,false)] ?_
                            repeat ((first | refine plF ?_ | (refine plR (v:=?_) ?_ ?_;rotate_left;focus (intro W hSW;(try dsimp only at hSW);go_simp;all_goals (with_reducible rfl))));try simp only [Act.put,List.setIfInBounds_toArray,List.set_cons_zero,List.set_cons_succ])
                            refine plE ?_
                            refine wpAnyH_ready (rs:=[2]) (by kernel_rfl) (by simp) ?_
                            refine AllReadyH.cons (o:=⟨_,_,_,_,_,_⟩) rfl (fun K hK=>?_) AllReadyH.nil
                            go_simp
                            go_at_call 76;refine (HNC.out _).mono ?_;rintro e wn ⟨rfl,rfl⟩
                            refine hK.out _ _ (hS0) (fun hHeld=>?_)
                            clear hK K
                            try simp only [Act.put,List.setIfInBounds_toArray,List.set_cons_zero,List.set_cons_succ]
                            refine plI [(3,false),(4,false),(5,false),(6,false),(7,false),(8,false),(9,false),(10,false),(11,false),(12,false),(13,false),(14,false),(15,false),(16,false),(17,false),(18,false),(19,false),(20,false),(21,false),(22,false),(23,false),(24,false),(25,false),(26,false),(27,false),(28,false),(29,false),(30,false),(31,false)] ?_
                            repeat ((first | refine plF ?_ | (refine plR (v:=?_) ?_ ?_;rotate_left;focus (intro W hSW;(try dsimp only at hSW);go_simp;all_goals (with_reducible rfl))));try simp only [Act.put,List.setIfInBounds_toArray,List.set_cons_zero,List.set_cons_succ])
                            refine plE ?_
                            refine wpAnyH_done (by kernel_rfl) ?_ _
                            clear hHeld hS0
                            go_wp2_with fail
                            go_ret
                            exact ⟨ret_bool (hsrt.out (by omega) HL.out).symm,HBn.out.drew⟩
                          · have HL:=Lib.hid n8
                            go_wp2_with ((with_reducible show wpList _ _ _ (Oper.mk (some 58) _ _ _ _ _ :: _) _ _);refine wpList_load_mid rfl 52 _ rfl b (o+k*2) rfl _ _ hrg' Tryz.underlying52 rfl rfl ?_)
                            have hS0:(fun W=>W.cell? ⟨wr.heap.size,0,none⟩ = some (.string xk)∧W.cell? ⟨wr.heap.size,1,none⟩ = some (.string xv)∧W.cell? ⟨w.heap.size+1,7,none⟩ = some (.slice (some ⟨b,o,none⟩) props.length m)∧W.cell? ⟨b,o+n*2,none⟩ = some (.string pk)) (wr.alloc (.cells #[.string xk,.string xv] 52)).drew:=⟨HXn.out.facts.1 0,HXn.out.facts.1 1,HPn.out.facts.1 7,cell_later (((Below.refl _ _).alloc (Nat.le_refl _) _).drew) hprev⟩
                            refine wp_region_held_drew (S:=fun W=>W.cell? ⟨wr.heap.size,0,none⟩ = some (.string xk)∧W.cell? ⟨wr.heap.size,1,none⟩ = some (.string xv)∧W.cell? ⟨w.heap.size+1,7,none⟩ = some (.slice (some ⟨b,o,none⟩) props.length m)∧W.cell? ⟨b,o+n*2,none⟩ = some (.string pk)) (by kernel_rfl) (hS0) (fun hHeld=>?_)
                            refine plI [(0,false),(1,false)] ?_
                            repeat ((first | refine plF ?_ | (refine plR (v:=?_) ?_ ?_;rotate_left;focus (intro W hSW;(try dsimp only at hSW);go_simp;all_goals (with_reducible rfl))));try simp only [Act.put,List.setIfInBounds_toArray,List.set_cons_zero,List.set_cons_succ])
                            refine plE ?_
                            refine wpAnyH_ready (rs:=[2]) (by kernel_rfl) (by simp) ?_
                            refine AllReadyH.cons (o:=⟨_,_,_,_,_,_⟩) rfl (fun K hK=>?_) AllReadyH.nil
                            go_simp
                            go_at_call 76;refine (HNC.out _).mono ?_;rintro e wn ⟨rfl,rfl⟩
                            refine hK.out _ _ (hS0) (fun hHeld=>?_)
                            clear hK K
                            try simp only [Act.put,List.setIfInBounds_toArray,List.set_cons_zero,List.set_cons_succ]
                            refine plI [(3,false),(4,false),(5,false),(6,false),(7,false),(8,false),(9,false),(10,false),(11,false),(12,false),(13,false),(14,false),(15,false),(16,false),(17,false),(18,false),(19,false),(20,false),(21,false),(22,false),(23,false),(24,false),(25,false),(26,false),(27,false),(28,false),(29,false),(30,false),(31,false)] ?_
                            repeat ((first | refine plF ?_ | (refine plR (v:=?_) ?_ ?_;rotate_left;focus (intro W hSW;(try dsimp only at hSW);go_simp;all_goals (with_reducible rfl))));try simp only [Act.put,List.setIfInBounds_toArray,List.set_cons_zero,List.set_cons_succ])
                            refine plE ?_
                            refine wpAnyH_done (by kernel_rfl) ?_ _
                            clear hHeld hS0
                            go_wp2_with fail
                            go_roundw
                            case rel=>exact ⟨k+1,by omega,by go_num,hstep.out (HOK.out) (.inr HL.out),HPn.out.drew,HBn.out.drew,by simp;omega⟩
                            case measure=>simp [intOf];omega
                        · have HK0:Hid (k = 0):=by show k = 0;omega
                          have n7b:decide ((0:Int) < (k:Int)) = false:=by rw [decide_eq_false_iff_not];omega
                          go_wp2_with ((with_reducible show wpList _ _ _ (Oper.mk (some 58) _ _ _ _ _ :: _) _ _);refine wpList_load_mid rfl 52 _ rfl b (o+k*2) rfl _ _ hrg' Tryz.underlying52 rfl rfl ?_)
                          have hS0:(fun W=>W.cell? ⟨wr.heap.size,0,none⟩ = some (.string xk)∧W.cell? ⟨wr.heap.size,1,none⟩ = some (.string xv)∧W.cell? ⟨w.heap.size+1,7,none⟩ = some (.slice (some ⟨b,o,none⟩) props.length m)) (wr.alloc (.cells #[.string xk,.string xv] 52)).drew:=⟨HXn.out.facts.1 0,HXn.out.facts.1 1,HPn.out.facts.1 7⟩
                          refine wp_region_held_drew (S:=fun W=>W.cell? ⟨wr.heap.size,0,none⟩ = some (.string xk)∧W.cell? ⟨wr.heap.size,1,none⟩ = some (.string xv)∧W.cell? ⟨w.heap.size+1,7,none⟩ = some (.slice (some ⟨b,o,none⟩) props.length m)) (by kernel_rfl) (hS0) (fun hHeld=>?_)
                          refine plI [(0,false),(1,false)] ?_
                          repeat ((first | refine plF ?_ | (refine plR (v:=?_) ?_ ?_;rotate_left;focus (intro W hSW;(try dsimp only at hSW);go_simp;all_goals (with_reducible rfl))));try simp only [Act.put,List.setIfInBounds_toArray,List.set_cons_zero,List.set_cons_succ])
                          refine plE ?_
                          refine wpAnyH_ready (rs:=[2]) (by kernel_rfl) (by simp) ?_
                          refine AllReadyH.cons (o:=⟨_,_,_,_,_,_⟩) rfl (fun K hK=>?_) AllReadyH.nil
                          go_simp
                          go_at_call 76;refine (HNC.out _).mono ?_;rintro e wn ⟨rfl,rfl⟩
                          refine hK.out _ _ (hS0) (fun hHeld=>?_)
                          clear hK K
                          try simp only [Act.put,List.setIfInBounds_toArray,List.set_cons_zero,List.set_cons_succ]
                          refine plI [(3,false),(4,false),(5,false),(6,false),(7,false),(8,false),(9,false),(10,false),(11,false),(12,false),(13,false),(14,false),(15,false),(16,false),(17,false),(18,false),(19,false),(20,true),(21,true),(22,true),(23,true),(24,true),(25,true),(26,true),(27,true),(28,true),(29,true),(30,false),(31,false)] ?_
                          repeat ((first | refine plF ?_ | (refine plR (v:=?_) ?_ ?_;rotate_left;focus (intro W hSW;(try dsimp only at hSW);go_simp;all_goals (with_reducible rfl))));try simp only [Act.put,List.setIfInBounds_toArray,List.set_cons_zero,List.set_cons_succ])
                          refine plE ?_
                          refine wpAnyH_done (by kernel_rfl) ?_ _
                          clear hHeld hS0
                          go_wp2_with fail
                          go_roundw
                          case rel=>exact ⟨k+1,by omega,by go_num,hstep.out (HOK.out) (.inl HK0.out),HPn.out.drew,HBn.out.drew,by simp;omega⟩
                          case measure=>simp [intOf];omega
                · obtain rfl:k = props.length:=by omega
                  have hend:=Lib.hid (propsTo_end (c:=c) (p:=⟨name,kind,into,slot,made,since,gone,props,kl,kh,cl,ch,dl,dh⟩) HR1.out HT.out)
                  change Hid (_ = (amountB kl kh && (amountB cl ch && amountB dl dh))) at hend
                  obtain ⟨p5,p6⟩:=HPc.out.facts
                  have HCur:=HPc
                  have HBcur:=HBr
                  have HZ:=Lib.hid hz
                  cases ha1:amountB kl kh
                  · have HA1:=Lib.hid ha1
                    clear ha1
                    go_wp2_with (go_at_call 88;refine (amount10_any _ _ _).mono ?_;rintro e w5 ⟨rfl,hb5⟩;rw [HA1.out];have q5:=HCur.out.below hb5 HZ.out;obtain ⟨p9,p10⟩:=q5.facts;have z5:=hb5.size;have HCur:=Lib.hid q5;have HBcur:=Lib.hid (HBcur.out.trans (hb5.mono HBcur.out.size));have HZ:=Lib.hid (show w.heap.size+1 < w5.heap.size by have:=HZ.out;omega);clear hb5 q5)
                    go_ret
                    exact ⟨ret_bool (by rw [hend.out,HA1.out];rfl),HBcur.out⟩
                  · have HA1:=Lib.hid ha1
                    clear ha1
                    cases ha2:amountB cl ch
                    · have HA2:=Lib.hid ha2
                      clear ha2
                      go_wp2_with (go_at_call 88;refine (amount10_any _ _ _).mono ?_;rintro e w5 ⟨rfl,hb5⟩;(first | rw [HA1.out] | rw [HA2.out]);have q5:=HCur.out.below hb5 HZ.out;obtain ⟨p9,p10⟩:=q5.facts;have z5:=hb5.size;have HCur:=Lib.hid q5;have HBcur:=Lib.hid (HBcur.out.trans (hb5.mono HBcur.out.size));have HZ:=Lib.hid (show w.heap.size+1 < w5.heap.size by have:=HZ.out;omega);clear hb5 q5)
                      go_ret
                      exact ⟨ret_bool (by rw [hend.out,HA1.out,HA2.out];rfl),HBcur.out⟩
                    · have HA2:=Lib.hid ha2
                      clear ha2
                      go_wp2_with (go_at_call 88;refine (amount10_any _ _ _).mono ?_;rintro e w5 ⟨rfl,hb5⟩;(first | rw [HA1.out] | rw [HA2.out] | skip);have q5:=HCur.out.below hb5 HZ.out;obtain ⟨p9,p10⟩:=q5.facts;have z5:=hb5.size;have HCur:=Lib.hid q5;have HBcur:=Lib.hid (HBcur.out.trans (hb5.mono HBcur.out.size));have HZ:=Lib.hid (show w.heap.size+1 < w5.heap.size by have:=HZ.out;omega);clear hb5 q5)
                      go_ret
                      exact ⟨ret_bool (by rw [hend.out,HA1.out,HA2.out];rfl),HBcur.out⟩
end Go.Proofs.YtpikcofbhkbifaaGreat
