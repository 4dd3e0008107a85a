/- bogieref10.Note: a property laid among others by its key. No condition but that the others are in order. bogieref10.with: a state with a part laid by its name. No condition but that the parts are in order. -/
import Derived.Deep.RegionHeld3
import Derived.Test.YtpikcofbhkbifaaGreatU07
import Derived.Test.YtpikcofbhkbifaaGreatU08
import Derived.Test.YtpikcofbhkbifaaGreatU24
import Derived.Test.YtpikcofbhkbifaaGreatU27
import Derived.Test.YtpikcofbhkbifaaGreatZRA
import Derived.Test.YtpikcofbhkbifaaGreatZRC
namespace Go.Proofs.YtpikcofbhkbifaaGreat
open Go Go.RowKit
section
variable {α:Type} {C:Nat} {R:World→List Value→α→Prop}
theorem RL.app {w:World} {css:List (List Value)} {l:List α} (h:RL C R w css l) {cs:List Value} {x:α} (hx:R w cs x) (hc:cs.length = C):RL C R w (css++[cs]) (l++[x]):=by
  have h1:=h.ins l.length (Nat.le_refl _) hx hc
  rw [List.take_length,List.drop_length, ← h.len,List.take_length,List.drop_length] at h1
  exact h1
/-- An owned row that reads as things of the world w0. -/
def Out (C:Nat) (R:World→List Value→α→Prop) (w0 w:World) (base t:Nat) (v:Value) (l:List α):Prop:=∃ css,RL C R w0 css l∧w.ownsRow base t C v l.length css.flatten
theorem Out.nil (w0 w:World) (base t:Nat):Out C R w0 w base t (.slice none 0 0) []:=⟨[],⟨rfl,fun i cs a h=>by simp at h⟩,World.ownsRow_nil _ _ _ _⟩
theorem Out.rd {w0 w:World} {base t:Nat} {v:Value} {l:List α} (hR:Stays R) (hb:Below w0.heap.size w0 w) (h:Out C R w0 w base t v l):Rd C R w v l:=by
  obtain ⟨css,hr,hl,⟨rfl,h0⟩ | ⟨g,cap,cur,rfl,_,hh,hc,hm,hs,ht⟩⟩:=h
  · obtain rfl:l = []:=List.eq_nil_of_length_eq_zero h0
    exact Rd.nil _ _
  · refine hr.rd (F:=cur.toList.drop (l.length*C)) hR hb rfl hc (t:=t) ?_
    rw [←ht,List.take_append_drop];exact hh
theorem Out.more {w0 w:World} {base t:Nat} {v:Value} {l:List α} {css:List (List Value)} (hr:RL C R w0 css l) {cs:List Value} {x:α} (hx:R w0 cs x) (hc:cs.length = C) (h:w.ownsRow base t C v (l.length+1) (css.flatten++cs)):Out C R w0 w base t v (l++[x]) :=
  ⟨css++[cs],hr.app hx hc,by rw [List.length_append,List.flatten_append];simpa using h⟩
end
theorem prR_mk (w:World) (a b:ByteArray):PrR w [.string a,.string b] ⟨a,b⟩:=rfl
theorem new_src (w:World) (cs:List Value) (t:TypeId):∀ j u,cs[j]? = some u→(w.alloc (.cells cs.toArray t)).cell? ((⟨w.heap.size,0,none⟩:Addr).add j) = some u:=fun j u h=>by
  have h1:=(Has.new w t cs.toArray).facts.1 j
  rw [Addr.add_mid,Nat.zero_add]
  rw [h1];simpa using h
theorem two_one (a b:ByteArray):∀ u∈([.string a,.string b]:List Value),u.oneCell' = true:=fun u h=>by
  simp only [List.mem_cons,List.not_mem_nil,or_false] at h
  rcases h with rfl | rfl <;> rfl
set_option maxRecDepth 100000 in
set_option maxHeartbeats 8000000 in
theorem note_any (v:Value) (l:List Pr) (key val:ByteArray) (w:World) (hv:Rd 2 PrR w v l) (hl:l.length≤99999) (hs:OrdK Pr.key l) :
    Calls Tryz.prog 81 #[v,.string key,.string val] w fun e w'=>∃ v',e = .returned v'∧Out 2 PrR w w' w.heap.size 52 v' (putG Pr.key l ⟨key,val⟩)∧Below w.heap.size w w':=by
  obtain ⟨A,cc,rfl,hn⟩:=Rd.form hv
  obtain ⟨ix,hi,hz0,hq1,hq2⟩:=info_parts infoX
  have hI:=Lib.hid hi
  have hZ:=Lib.hid hz0
  have HV:=Lib.hid hv
  have HS:=Lib.hid hs
  clear hv hs hi hz0
  go_enter Tryz.func81,Tryz.ntmps81
  go_wp2_with fail
  go_loopw [7,8,9] (fun out dn i wr=>∃ (k:Nat) (d:Bool) (o:List Pr),k≤l.length∧i = .int .i64 k∧dn = .bool d∧Hid (Laid Pr.key l ⟨key,val⟩ k d o)∧Hid (Out 2 PrR w wr w.heap.size 52 out o)∧Hid (Below w.heap.size w wr)) (fun _ _ i _=>l.length - (intOf i).toNat)
  case atStart=>exact ⟨0,false,[],Nat.zero_le _,rfl,rfl,laid_zero _ _ _,Out.nil _ _ _ _,Below.refl _ _⟩
  case round =>
    obtain ⟨k,d,o,hk,rfl,rfl,HL,HO,HB⟩:=hrel
    have hol:o.length≤l.length+1:=by have:=laid_le HL.out;omega
    obtain ⟨css,hrl,hown⟩:=id HO.out
    have HRL:=Lib.hid hrl
    have HOWN:=Lib.hid hown
    have hzr:=HB.out.size
    clear hrl hown
    by_cases hlt:k < l.length
    · obtain ⟨b,of,c',cs,he,_,hcs,_,hrg⟩:=HV.out.get hlt noPr
      injection he with e1 e2 e3
      subst e1;subst e3
      unfold PrR at hcs
      subst hcs
      have HRG:=Lib.hid hrg
      have hki:(k:Int) < (l.length:Int):=by omega
      have HNX:=Lib.hid (fun h=>laid_next (d0:=noPr) HS.out (o:=o) (x:=⟨key,val⟩) h hlt)
      have HLS:=Lib.hid (fun h hh=>laid_less (key:=Pr.key) (d0:=noPr) (o:=o) (x:=⟨key,val⟩) h hlt hh)
      have HHR:=Lib.hid (fun h hh=>laid_here (key:=Pr.key) (d0:=noPr) (o:=o) (x:=⟨key,val⟩) h hlt hh)
      clear hrg
      generalize l.getD k noPr = q at *
      obtain ⟨qk,qv⟩:=q
      dsimp only at HNX HLS HHR HRG
      have hrg':=range_later HRG.out HB.out
      have r0:wr.cell? ⟨b,of+k*2,none⟩ = some (.string qk):=hrg' 0 _ rfl
      cases d
      · cases n8:Op.bytesLess qk.toList key.toList
        · have HHE:=Lib.hid (HHR.out HL.out n8)
          cases n9:(qk.toList == key.toList)
          · have hne2:(qk.toList != key.toList) = true:=by rw [bne,n9];rfl
            have HNE:=Lib.hid (show qk ≠ key by rw [beq_bytes] at n9;exact of_decide_eq_false n9)
            obtain ⟨o2,hO2⟩:∃ o2,o2 = o++[(⟨key,val⟩:Pr)]:=⟨_,rfl⟩
            have hol2:o2.length≤l.length+2:=by rw [hO2];simp;omega
            have HO2:=Lib.hid hO2
            clear hO2
            go_wp2_with (first | ((with_reducible show wpList _ _ _ (Oper.mk (some 32) _ _ _ _ _ :: _) _ _);refine wpList_app rfl (.tmp 27) (.tmp 31) 43 rfl w.heap.size 52 ix (.agg #[.string ⟨#[]⟩,.string ⟨#[]⟩]) 2 32 Tryz.underlying43 hI.out hZ.out hq1 hq2 rfl (by decide) _ o.length css.flatten rfl (HOWN.out.alloc _) (some ⟨wr.heap.size,0,none⟩) 1 1 [.string key,.string val] rfl rfl (.inr ⟨_,rfl,new_src wr [.string key,.string val] 52⟩) (two_one _ _) (by unfold maxLen;omega) (by omega) (by simp;omega) ?_;intro v5 w5 hown5 hg5;have HB5:=Lib.hid ((HB.out.alloc HB.out.size _).grown hg5 (HB.out.alloc HB.out.size _).size (fun j hj=>((HOWN.out.alloc (.cells #[.string key,.string val] 52)).lt j hj).1));have HO5:=Lib.hid hown5;have z5:=HB5.out.size;clear hown5 hg5;obtain ⟨css2,hrl2,hown2⟩:=Out.more HRL.out (prR_mk w key val) rfl HO5.out;rw [←HO2.out] at hrl2 hown2;have HRL2:=Lib.hid hrl2;have HOWN2:=Lib.hid hown2;clear hrl2 hown2;have hrg5:=range_later HRG.out HB5.out;have r5:w5.cell? ⟨b,of+k*2,none⟩ = some (.string qk):=hrg5 0 _ rfl) | ((with_reducible show wpList _ _ _ (Oper.mk (some 44) _ _ _ _ _ :: _) _ _);refine wpList_load_mid rfl 52 _ rfl b (of+k*2) rfl _ _ hrg5 Tryz.underlying52 rfl rfl ?_) | ((with_reducible show wpList _ _ _ (Oper.mk (some 46) _ _ _ _ _ :: _) _ _);refine wpList_app rfl (.tmp 40) (.tmp 45) 43 rfl w.heap.size 52 ix (.agg #[.string ⟨#[]⟩,.string ⟨#[]⟩]) 2 32 Tryz.underlying43 hI.out hZ.out hq1 hq2 rfl (by decide) _ o2.length css2.flatten rfl (HOWN2.out.alloc _) (some ⟨w5.heap.size,0,none⟩) 1 1 [.string qk,.string qv] rfl rfl (.inr ⟨_,rfl,new_src w5 [.string qk,.string qv] 52⟩) (two_one _ _) (by unfold maxLen;omega) (by omega) (by simp;omega) ?_;intro v6 w6 hown6 hg6;have HB6:=Lib.hid ((HB5.out.alloc HB5.out.size _).grown hg6 (HB5.out.alloc HB5.out.size _).size (fun j hj=>((HOWN2.out.alloc (.cells #[.string qk,.string qv] 52)).lt j hj).1));have HO6:=Lib.hid hown6;have z6:=HB6.out.size;clear hown6 hg6))
            go_roundw
            case rel=>exact ⟨k+1,true,o2++[(⟨qk,qv⟩:Pr)],by omega,by go_num,rfl,(by rw [HO2.out];exact HHE.out.2 HNE.out),Out.more HRL2.out (prR_mk w qk qv) rfl HO6.out,HB6.out⟩
            case measure=>simp [intOf];omega
          · have hne2:(qk.toList != key.toList) = false:=by rw [bne,n9];rfl
            have HEQ:=Lib.hid (show qk = key by rw [beq_bytes] at n9;exact of_decide_eq_true n9)
            go_wp2_with (((with_reducible show wpList _ _ _ (Oper.mk (some 32) _ _ _ _ _ :: _) _ _);refine wpList_app rfl (.tmp 27) (.tmp 31) 43 rfl w.heap.size 52 ix (.agg #[.string ⟨#[]⟩,.string ⟨#[]⟩]) 2 32 Tryz.underlying43 hI.out hZ.out hq1 hq2 rfl (by decide) _ o.length css.flatten rfl (HOWN.out.alloc _) (some ⟨wr.heap.size,0,none⟩) 1 1 [.string key,.string val] rfl rfl (.inr ⟨_,rfl,new_src wr [.string key,.string val] 52⟩) (two_one _ _) (by unfold maxLen;omega) (by omega) (by simp;omega) ?_;intro v5 w5 hown5 hg5;have HB5:=Lib.hid ((HB.out.alloc HB.out.size _).grown hg5 (HB.out.alloc HB.out.size _).size (fun j hj=>((HOWN.out.alloc (.cells #[.string key,.string val] 52)).lt j hj).1));have HO5:=Lib.hid hown5;have z5:=HB5.out.size;clear hown5 hg5;have HM:=Lib.hid (Out.more HRL.out (prR_mk w key val) rfl HO5.out);have hrg5:=range_later HRG.out HB5.out;have r5:w5.cell? ⟨b,of+k*2,none⟩ = some (.string qk):=hrg5 0 _ rfl))
            go_roundw
            case rel=>exact ⟨k+1,true,o++[(⟨key,val⟩:Pr)],by omega,by go_num,rfl,HHE.out.1 HEQ.out,HM.out,HB5.out⟩
            case measure=>simp [intOf];omega
        · have HLE:=Lib.hid (HLS.out HL.out n8)
          have n9:(qk.toList == key.toList) = false:=by rw [beq_bytes,decide_eq_false HLE.out.1]
          have hne2:(qk.toList != key.toList) = true:=by rw [bne,n9];rfl
          go_wp2_with (first | ((with_reducible show wpList _ _ _ (Oper.mk (some 44) _ _ _ _ _ :: _) _ _);refine wpList_load_mid rfl 52 _ rfl b (of+k*2) rfl _ _ hrg' Tryz.underlying52 rfl rfl ?_) | ((with_reducible show wpList _ _ _ (Oper.mk (some 46) _ _ _ _ _ :: _) _ _);refine wpList_app rfl (.tmp 40) (.tmp 45) 43 rfl w.heap.size 52 ix (.agg #[.string ⟨#[]⟩,.string ⟨#[]⟩]) 2 32 Tryz.underlying43 hI.out hZ.out hq1 hq2 rfl (by decide) _ o.length css.flatten rfl (HOWN.out.alloc _) (some ⟨wr.heap.size,0,none⟩) 1 1 [.string qk,.string qv] rfl rfl (.inr ⟨_,rfl,new_src wr [.string qk,.string qv] 52⟩) (two_one _ _) (by unfold maxLen;omega) (by omega) (by simp;omega) ?_;intro v5 w5 hown5 hg5;have HB5:=Lib.hid ((HB.out.alloc HB.out.size _).grown hg5 (HB.out.alloc HB.out.size _).size (fun j hj=>((HOWN.out.alloc (.cells #[.string qk,.string qv] 52)).lt j hj).1));have HO5:=Lib.hid hown5;have z5:=HB5.out.size;clear hown5 hg5))
          go_roundw
          case rel=>exact ⟨k+1,false,o++[(⟨qk,qv⟩:Pr)],by omega,by go_num,rfl,HLE.out.2,Out.more HRL.out (prR_mk w qk qv) rfl HO5.out,HB5.out⟩
          case measure=>simp [intOf];omega
      · have HNE:=Lib.hid (HNX.out HL.out)
        have n9:(qk.toList == key.toList) = false:=by rw [beq_bytes,decide_eq_false HNE.out.1]
        have hne2:(qk.toList != key.toList) = true:=by rw [bne,n9];rfl
        go_wp2_with (first | ((with_reducible show wpList _ _ _ (Oper.mk (some 44) _ _ _ _ _ :: _) _ _);refine wpList_load_mid rfl 52 _ rfl b (of+k*2) rfl _ _ hrg' Tryz.underlying52 rfl rfl ?_) | ((with_reducible show wpList _ _ _ (Oper.mk (some 46) _ _ _ _ _ :: _) _ _);refine wpList_app rfl (.tmp 40) (.tmp 45) 43 rfl w.heap.size 52 ix (.agg #[.string ⟨#[]⟩,.string ⟨#[]⟩]) 2 32 Tryz.underlying43 hI.out hZ.out hq1 hq2 rfl (by decide) _ o.length css.flatten rfl (HOWN.out.alloc _) (some ⟨wr.heap.size,0,none⟩) 1 1 [.string qk,.string qv] rfl rfl (.inr ⟨_,rfl,new_src wr [.string qk,.string qv] 52⟩) (two_one _ _) (by unfold maxLen;omega) (by omega) (by simp;omega) ?_;intro v5 w5 hown5 hg5;have HB5:=Lib.hid ((HB.out.alloc HB.out.size _).grown hg5 (HB.out.alloc HB.out.size _).size (fun j hj=>((HOWN.out.alloc (.cells #[.string qk,.string qv] 52)).lt j hj).1));have HO5:=Lib.hid hown5;have z5:=HB5.out.size;clear hown5 hg5))
        go_roundw
        case rel=>exact ⟨k+1,true,o++[(⟨qk,qv⟩:Pr)],by omega,by go_num,rfl,HNE.out.2,Out.more HRL.out (prR_mk w qk qv) rfl HO5.out,HB5.out⟩
        case measure=>simp [intOf];omega
    · obtain rfl:k = l.length:=by omega
      have HE:=Lib.hid (laid_end HL.out)
      cases d
      · go_wp2_with ((with_reducible show wpList _ _ _ (Oper.mk (some 54) _ _ _ _ _ :: _) _ _);refine wpList_app rfl (.tmp 49) (.tmp 53) 43 rfl w.heap.size 52 ix (.agg #[.string ⟨#[]⟩,.string ⟨#[]⟩]) 2 32 Tryz.underlying43 hI.out hZ.out hq1 hq2 rfl (by decide) _ o.length css.flatten rfl (HOWN.out.alloc _) (some ⟨wr.heap.size,0,none⟩) 1 1 [.string key,.string val] rfl rfl (.inr ⟨_,rfl,new_src wr [.string key,.string val] 52⟩) (two_one _ _) (by unfold maxLen;omega) (by omega) (by simp;omega) ?_;intro v5 w5 hown5 hg5;have HB5:=Lib.hid ((HB.out.alloc HB.out.size _).grown hg5 (HB.out.alloc HB.out.size _).size (fun j hj=>((HOWN.out.alloc (.cells #[.string key,.string val] 52)).lt j hj).1));have HO5:=Lib.hid hown5;have z5:=HB5.out.size;clear hown5 hg5)
        have HM:=Lib.hid (Out.more HRL.out (prR_mk w key val) rfl HO5.out)
        go_ret
        exact ⟨_,rfl,by rw [←HE.out];exact HM.out,HB5.out⟩
      · go_wp2_with fail
        go_ret
        exact ⟨_,rfl,by rw [←HE.out];exact HO.out,HB.out⟩
end Go.Proofs.YtpikcofbhkbifaaGreat
namespace Go.Proofs.YtpikcofbhkbifaaGreat
open Go Go.RowKit
theorem paR_mk (w:World) (pname pkind pinto pslot:ByteArray) (pmade psince:Int) (pgone:Bool) (pprops:List Pr) (Ap:Option Addr) (mp:Nat) (pkl pkh pcl pch pdl pdh:Int) (h:Rd 2 PrR w (.slice Ap pprops.length mp) pprops):PaR w [.string pname,.string pkind,.string pinto,.string pslot,.int .i64 pmade,.int .i64 psince,.bool pgone,.slice Ap pprops.length mp,.int .i64 pkl,.int .i64 pkh,.int .i64 pcl,.int .i64 pch,.int .i64 pdl,.int .i64 pdh] (⟨pname,pkind,pinto,pslot,pmade,psince,pgone,pprops,pkl,pkh,pcl,pch,pdl,pdh⟩:Pa):=⟨_,rfl,h⟩
theorem part_one {pname pkind pinto pslot:ByteArray} {pmade psince:Int} {pgone:Bool} {Ap:Option Addr} {n mp:Nat} {pkl pkh pcl pch pdl pdh:Int} : ∀ u∈([.string pname,.string pkind,.string pinto,.string pslot,.int .i64 pmade,.int .i64 psince,.bool pgone,.slice Ap n mp,.int .i64 pkl,.int .i64 pkh,.int .i64 pcl,.int .i64 pch,.int .i64 pdl,.int .i64 pdh]:List Value),u.oneCell' = true:=fun u h=>by
  simp only [List.mem_cons,List.not_mem_nil,or_false] at h
  rcases h with rfl | rfl | rfl | rfl | rfl | rfl | rfl | rfl | rfl | rfl | rfl | rfl | rfl | rfl <;> rfl
theorem own_far {w:World} {base e size n:Nat} {v:Value} {xs:List Value} (h:w.ownsRow base e size v n xs) {g:Nat} (hg:g < base) (i:Nat) (u:Value):(w.setCell ⟨g,i,none⟩ u).ownsRow base e size v n xs:=by
  refine ⟨h.1,?_⟩
  rcases h.2 with h0 | ⟨g',cap,cur,rfl,hb,hg',rest⟩
  · exact .inl h0
  · exact .inr ⟨g',cap,cur,rfl,hb,(heap_setCell_other w ⟨g,i,none⟩ g' u (by show g' ≠ g;omega)).trans hg',rest⟩
theorem own_form {w:World} {base e size n:Nat} {v:Value} {xs:List Value} (h:w.ownsRow base e size v n xs):∃ A c,v = .slice A n c:=by
  rcases h.2 with ⟨rfl,h0⟩ | ⟨g,cap,cur,rfl,_⟩
  · exact ⟨none,0,by rw [h0]⟩
  · exact ⟨_,_,rfl⟩
theorem Out.far {α:Type} {C:Nat} {R:World→List Value→α→Prop} {w0 w:World} {base t:Nat} {v:Value} {l:List α} (h:Out C R w0 w base t v l) {g:Nat} (hg:g < base) (i:Nat) (u:Value):Out C R w0 (w.setCell ⟨g,i,none⟩ u) base t v l:=by
  obtain ⟨css,h1,h2⟩:=h
  exact ⟨css,h1,own_far h2 hg i u⟩
theorem Out.drewN {α:Type} {C:Nat} {R:World→List Value→α→Prop} {w0 w:World} {base t:Nat} {v:Value} {l:List α} (h:Out C R w0 w base t v l) (n:Nat):Out C R w0 (w.drewN n) base t v l:=h
theorem Out.drew {α:Type} {C:Nat} {R:World→List Value→α→Prop} {w0 w:World} {base t:Nat} {v:Value} {l:List α} (h:Out C R w0 w base t v l):Out C R w0 w.drew base t v l:=h
/-- What stands while the parts are laid: the boxes, the row that grows. -/
structure Inv (w0 w W:World) (c0 c1:Array Value) (out:Value) (o:List Pa) (css:List (List Value)):Prop where
  h0:Has W w.heap.size 27 c0
  h1:Has W (w.heap.size+1) 47 c1
  h2:Has W (w.heap.size+2) 27 #[.slice none 0 0]
  h3:Has W (w.heap.size+3) 27 #[out]
  hr:RL 14 PaR w0 css o
  ho:W.ownsRow (w.heap.size+4) 47 14 out o.length css.flatten
  hb:Below w.heap.size w W
section
variable {w0 w W:World} {c0 c1:Array Value} {out:Value} {o:List Pa} {css:List (List Value)}
theorem Inv.alloc (I:Inv w0 w W c0 c1 out o css) (x:Obj):Inv w0 w (W.alloc x) c0 c1 out o css :=
  ⟨I.h0.alloc x,I.h1.alloc x,I.h2.alloc x,I.h3.alloc x,I.hr,I.ho.alloc x,I.hb.alloc I.hb.size x⟩
theorem Inv.drewN (I:Inv w0 w W c0 c1 out o css) (n:Nat):Inv w0 w (W.drewN n) c0 c1 out o css:=⟨I.h0,I.h1,I.h2,I.h3,I.hr,I.ho,below_drewN I.hb n⟩
theorem Inv.drew (I:Inv w0 w W c0 c1 out o css):Inv w0 w W.drew c0 c1 out o css:=⟨I.h0,I.h1,I.h2,I.h3,I.hr,I.ho,I.hb.drew⟩
theorem Inv.size (I:Inv w0 w W c0 c1 out o css):w.heap.size+3 < W.heap.size:=I.h3.lt
theorem Inv.mid (I:Inv w0 w W c0 c1 out o css) {w9:World} (hg:W.grownBy w9 out.ownBlock) :
    Has w9 w.heap.size 27 c0∧Has w9 (w.heap.size+1) 47 c1∧Has w9 (w.heap.size+2) 27 #[.slice none 0 0]∧Has w9 (w.heap.size+3) 27 #[out]∧Below w.heap.size w w9:=by
  refine ⟨I.h0.grown hg fun he=>?_,I.h1.grown hg fun he=>?_,I.h2.grown hg fun he=>?_,I.h3.grown hg fun he=>?_,I.hb.grown hg I.hb.size fun j hj=>?_⟩
  · have:=(I.ho.lt _ he.symm).1;omega
  · have:=(I.ho.lt _ he.symm).1;omega
  · have:=(I.ho.lt _ he.symm).1;omega
  · have:=(I.ho.lt _ he.symm).1;omega
  · have:=(I.ho.lt _ hj).1;omega
theorem Inv.put (I:Inv w0 w W c0 c1 out o css) {w9:World} {v9:Value} {row:List Value} {x:Pa} (hg:W.grownBy w9 out.ownBlock) (hown:w9.ownsRow (w.heap.size+4) 47 14 v9 (o.length+1) (css.flatten++row)) (hx:PaR w0 row x) (hc:row.length = 14) :
    Inv w0 w (w9.setCell ⟨w.heap.size+3,0,none⟩ v9) c0 c1 v9 (o++[x]) (css++[row]):=by
  obtain ⟨g0,g1,g2,g3,gb⟩:=I.mid hg
  refine ⟨g0.far _ (by simp) _,g1.far _ (by simp) _,g2.far _ (by simp) _,g3.put 0 v9,I.hr.app hx hc,?_,gb.setCell (by simp) _⟩
  rw [List.length_append,List.flatten_append]
  have:=own_far hown (show w.heap.size+3 < w.heap.size+4 by omega) 0 v9
  simpa using this
theorem Inv.outR (I:Inv w0 w W c0 c1 out o css) (hb0:Below w0.heap.size w0 w):Rd 14 PaR W out o :=
  Out.rd PaR.stays (hb0.trans (I.hb.mono hb0.size)) ⟨css,I.hr,I.ho⟩
end
theorem own_farS {w:World} {base e size n:Nat} {v:Value} {xs:List Value} (h:w.ownsRow base e size v n xs) {g:Nat} (hg:g < base) (i:Nat) (us:List Value):(w.setCells g i us).ownsRow base e size v n xs:=by
  refine ⟨h.1,?_⟩
  rcases h.2 with h0 | ⟨g',cap,cur,rfl,hb,hg',rest⟩
  · exact .inl h0
  · exact .inr ⟨g',cap,cur,rfl,hb,(setCells_other g us i w g' (by omega)).trans hg',rest⟩
/-- The result's box filled. -/
theorem Inv.last {w0 w W:World} {c0 c1:Array Value} {out:Value} {o:List Pa} {css:List (List Value)} (I:Inv w0 w W c0 c1 out o css) (hb0:Below w0.heap.size w0 w):∃ W',W.setCells (w.heap.size+2) 0 [out] = W'∧Has W' (w.heap.size+2) 27 #[out]∧Rd 14 PaR W' out o∧Below w.heap.size w W':=by
  obtain ⟨W',h1,h2,h3⟩:=stored I.h2 I.hb (by omega) #[out] rfl
  refine ⟨W',h1,h2,?_,h3⟩
  subst h1
  exact Out.rd PaR.stays (hb0.trans (h3.mono hb0.size)) ⟨css,I.hr,own_farS I.ho (by omega) 0 _⟩
theorem Inv.form {w0 w W:World} {c0 c1:Array Value} {out:Value} {o:List Pa} {css:List (List Value)} (I:Inv w0 w W c0 c1 out o css):∃ A c,out = .slice A o.length c:=by
  rcases I.ho.2 with ⟨rfl,h0⟩ | ⟨g,cap,cur,rfl,_⟩
  · exact ⟨none,0,by rw [h0]⟩
  · exact ⟨_,_,rfl⟩
theorem oneSt (A:Option Addr) (n c:Nat):(#[.slice A n c]:Array Value).all (·.oneCell') = true:=by simp [Value.oneCell']
theorem infoSt:(Tryz.prog.info? 27).map (·.size) = some 1:=by kernel_rfl
set_option maxRecDepth 100000 in
set_option maxHeartbeats 20000000 in
theorem with_any (w0:World) (v:Value) (l:List Pa) (pname pkind pinto pslot:ByteArray) (pmade psince:Int) (pgone:Bool) (pprops:List Pr) (Ap:Option Addr) (mp:Nat) (pkl pkh pcl pch pdl pdh:Int) (w:World) (hb0:Below w0.heap.size w0 w) (hv:Sta w0 v l) (hl:l.length≤20000) (hs:OrdK Pa.name l) (hp:Rd 2 PrR w0 (.slice Ap pprops.length mp) pprops) :
    Calls Tryz.prog 79 #[.agg #[v],.agg #[.string pname,.string pkind,.string pinto,.string pslot,.int .i64 pmade,.int .i64 psince,.bool pgone,.slice Ap pprops.length mp,.int .i64 pkl,.int .i64 pkh,.int .i64 pcl,.int .i64 pch,.int .i64 pdl,.int .i64 pdh]] w fun e w'=>∃ v',e = .returned (.agg #[v'])∧Sta w' v' (putG Pa.name l (⟨pname,pkind,pinto,pslot,pmade,psince,pgone,pprops,pkl,pkh,pcl,pch,pdl,pdh⟩:Pa))∧Below w.heap.size w w':=by
  obtain ⟨A,cc,rfl,hn⟩:=Rd.form hv
  obtain ⟨ip,hi,hz0,hq1,hq2⟩:=info_parts infoP
  have hI:=Lib.hid hi
  have hZ:=Lib.hid hz0
  have HV:=Lib.hid hv
  have HS:=Lib.hid hs
  have HB0:=Lib.hid hb0
  have HPP:=Lib.hid hp
  have hinv:Inv w0 w ((((w.alloc (.cells #[.slice A l.length cc] 27)).alloc (.cells #[.string pname,.string pkind,.string pinto,.string pslot,.int .i64 pmade,.int .i64 psince,.bool pgone,.slice Ap pprops.length mp,.int .i64 pkl,.int .i64 pkh,.int .i64 pcl,.int .i64 pch,.int .i64 pdl,.int .i64 pdh] 47)).alloc (.cells #[.slice none 0 0] 27)).alloc (.cells #[.slice none 0 0] 27)) #[.slice A l.length cc] #[.string pname,.string pkind,.string pinto,.string pslot,.int .i64 pmade,.int .i64 psince,.bool pgone,.slice Ap pprops.length mp,.int .i64 pkl,.int .i64 pkh,.int .i64 pcl,.int .i64 pch,.int .i64 pdl,.int .i64 pdh] (.slice none 0 0) [] []:=by
    have k1:=Has.new (w.alloc (.cells #[.slice A l.length cc] 27)) 47 #[.string pname,.string pkind,.string pinto,.string pslot,.int .i64 pmade,.int .i64 psince,.bool pgone,.slice Ap pprops.length mp,.int .i64 pkl,.int .i64 pkh,.int .i64 pcl,.int .i64 pch,.int .i64 pdl,.int .i64 pdh]
    have k2:=Has.new ((w.alloc (.cells #[.slice A l.length cc] 27)).alloc (.cells #[.string pname,.string pkind,.string pinto,.string pslot,.int .i64 pmade,.int .i64 psince,.bool pgone,.slice Ap pprops.length mp,.int .i64 pkl,.int .i64 pkh,.int .i64 pcl,.int .i64 pch,.int .i64 pdl,.int .i64 pdh] 47)) 27 #[.slice none 0 0]
    have k3:=Has.new (((w.alloc (.cells #[.slice A l.length cc] 27)).alloc (.cells #[.string pname,.string pkind,.string pinto,.string pslot,.int .i64 pmade,.int .i64 psince,.bool pgone,.slice Ap pprops.length mp,.int .i64 pkl,.int .i64 pkh,.int .i64 pcl,.int .i64 pch,.int .i64 pdl,.int .i64 pdh] 47)).alloc (.cells #[.slice none 0 0] 27)) 27 #[.slice none 0 0]
    simp only [World.size_alloc] at k1 k2 k3
    exact ⟨(((Has.new w 27 #[.slice A l.length cc]).alloc _).alloc _).alloc _,(k1.alloc _).alloc _,k2.alloc _,k3,⟨rfl,fun i cs a h=>by simp at h⟩,World.ownsRow_nil _ _ _ _,(((((Below.refl _ _).alloc (Nat.le_refl _) _).alloc (by simp) _).alloc (by simp;omega) _).alloc (by simp;omega) _)⟩
  have HINV:=Lib.hid hinv
  clear hv hs hi hz0 hb0 hp hinv
  go_enter Tryz.func79,Tryz.ntmps79
  go_wp2_with fail
  go_loopw [6,7] (fun dn i wr=>∃ (k:Nat) (d:Bool) (o:List Pa) (out:Value) (css:List (List Value)),k≤l.length∧i = .int .i64 k∧dn = .bool d∧Hid (Laid Pa.name l (⟨pname,pkind,pinto,pslot,pmade,psince,pgone,pprops,pkl,pkh,pcl,pch,pdl,pdh⟩:Pa) k d o)∧Hid (Inv w0 w wr #[.slice A l.length cc] #[.string pname,.string pkind,.string pinto,.string pslot,.int .i64 pmade,.int .i64 psince,.bool pgone,.slice Ap pprops.length mp,.int .i64 pkl,.int .i64 pkh,.int .i64 pcl,.int .i64 pch,.int .i64 pdl,.int .i64 pdh] out o css)) (fun _ i _=>l.length - (intOf i).toNat)
  case atStart=>exact ⟨0,false,[],_,_,Nat.zero_le _,rfl,rfl,laid_zero _ _ _,HINV.out⟩
  case round =>
    clear HINV
    obtain ⟨k,d,o,out,css,hk,rfl,rfl,HL,HO⟩:=hrel
    have hol:o.length≤l.length+1:=by have:=laid_le HL.out;omega
    by_cases hlt:k < l.length
    · obtain ⟨b,of,c',cs,he,_,⟨sv,rfl,hsv⟩,_,hrg⟩:=Rd.get HV.out hlt noPa
      injection he with e1 e2 e3
      subst e1;subst e3
      obtain ⟨Aq,mq,rfl,hnq⟩:=hsv.form
      have HQQ:=Lib.hid hsv
      have HRQ:=Lib.hid hrg
      have hki:(k:Int) < (l.length:Int):=by omega
      have HNX:=Lib.hid (fun h=>laid_next (d0:=noPa) HS.out (o:=o) (x:=(⟨pname,pkind,pinto,pslot,pmade,psince,pgone,pprops,pkl,pkh,pcl,pch,pdl,pdh⟩:Pa)) h hlt)
      have HLS:=Lib.hid (fun h hh=>laid_less (key:=Pa.name) (d0:=noPa) (o:=o) (x:=(⟨pname,pkind,pinto,pslot,pmade,psince,pgone,pprops,pkl,pkh,pcl,pch,pdl,pdh⟩:Pa)) h hlt hh)
      have HHR:=Lib.hid (fun h hh=>laid_here (key:=Pa.name) (d0:=noPa) (o:=o) (x:=(⟨pname,pkind,pinto,pslot,pmade,psince,pgone,pprops,pkl,pkh,pcl,pch,pdl,pdh⟩:Pa)) h hlt hh)
      clear hrg hsv
      generalize l.getD k noPa = q at *
      obtain ⟨qname,qkind,qinto,qslot,qmade,qsince,qgone,qprops,qkl,qkh,qcl,qch,qdl,qdh⟩:=q
      dsimp only at HNX HLS HHR HQQ hnq
      replace HRQ:Hid (w0.rangeAt b (of+k*14) [.string qname,.string qkind,.string qinto,.string qslot,.int .i64 qmade,.int .i64 qsince,.bool qgone,.slice Aq qprops.length mq,.int .i64 qkl,.int .i64 qkh,.int .i64 qcl,.int .i64 qch,.int .i64 qdl,.int .i64 qdh]):=HRQ
      obtain ⟨a0,b0⟩:=HO.out.h0.facts
      obtain ⟨a1,b1⟩:=HO.out.h1.facts
      obtain ⟨a3,b3⟩:=HO.out.h3.facts
      have hz:=HO.out.size
      have hrp:wr.rangeAt (w.heap.size+1) 0 [.string pname,.string pkind,.string pinto,.string pslot,.int .i64 pmade,.int .i64 psince,.bool pgone,.slice Ap pprops.length mp,.int .i64 pkl,.int .i64 pkh,.int .i64 pcl,.int .i64 pch,.int .i64 pdl,.int .i64 pdh]:=has_range HO.out.h1
      have hrq:wr.rangeAt b (of+k*14) [.string qname,.string qkind,.string qinto,.string qslot,.int .i64 qmade,.int .i64 qsince,.bool qgone,.slice Aq qprops.length mq,.int .i64 qkl,.int .i64 qkh,.int .i64 qcl,.int .i64 qch,.int .i64 qdl,.int .i64 qdh]:=range_later HRQ.out (HB0.out.trans (HO.out.hb.mono HB0.out.size))
      have r0:wr.cell? ⟨b,of+k*14,none⟩ = some (.string qname):=hrq 0 _ rfl
      go_wp2_with fail
      cases d
      · cases n8:Op.bytesLess qname.toList pname.toList
        · have HHE:=Lib.hid (HHR.out HL.out n8)
          go_quiet (fail)
          have HO1:=Lib.hid (HO.out.drewN nq)
          generalize wr.drewN nq = wq1 at HO1 ⊢
          clear a0 b0 a1 b1 a3 b3 hz hrp hrq r0
          obtain ⟨a0,b0⟩:=HO1.out.h0.facts
          obtain ⟨a1,b1⟩:=HO1.out.h1.facts
          obtain ⟨a3,b3⟩:=HO1.out.h3.facts
          have hz:=HO1.out.size
          have hrp:wq1.rangeAt (w.heap.size+1) 0 [.string pname,.string pkind,.string pinto,.string pslot,.int .i64 pmade,.int .i64 psince,.bool pgone,.slice Ap pprops.length mp,.int .i64 pkl,.int .i64 pkh,.int .i64 pcl,.int .i64 pch,.int .i64 pdl,.int .i64 pdh]:=has_range HO1.out.h1
          have hrq:wq1.rangeAt b (of+k*14) [.string qname,.string qkind,.string qinto,.string qslot,.int .i64 qmade,.int .i64 qsince,.bool qgone,.slice Aq qprops.length mq,.int .i64 qkl,.int .i64 qkh,.int .i64 qcl,.int .i64 qch,.int .i64 qdl,.int .i64 qdh]:=range_later HRQ.out (HB0.out.trans (HO1.out.hb.mono HB0.out.size))
          have r0:wq1.cell? ⟨b,of+k*14,none⟩ = some (.string qname):=hrq 0 _ rfl
          obtain ⟨o2,hO2⟩:∃ o2,o2 = o++[(⟨pname,pkind,pinto,pslot,pmade,psince,pgone,pprops,pkl,pkh,pcl,pch,pdl,pdh⟩:Pa)]:=⟨_,rfl⟩
          have hol2:o2.length≤l.length+2:=by rw [hO2];simp;omega
          obtain ⟨css2,hC2⟩:∃ c,c = css++[[.string pname,.string pkind,.string pinto,.string pslot,.int .i64 pmade,.int .i64 psince,.bool pgone,.slice Ap pprops.length mp,.int .i64 pkl,.int .i64 pkh,.int .i64 pcl,.int .i64 pch,.int .i64 pdl,.int .i64 pdh]]:=⟨_,rfl⟩
          have HO2:=Lib.hid hO2
          have HC2:=Lib.hid hC2
          clear hO2 hC2
          go_wp2_with (first | ((with_reducible show wpList _ _ _ (Oper.mk (some 30) _ _ _ _ _ :: _) _ _);refine wpList_load_mid rfl 47 _ rfl (w.heap.size+1) 0 rfl _ _ hrp Tryz.underlying47 rfl rfl ?_) | ((with_reducible show wpList _ _ _ (Oper.mk (some 32) _ _ _ _ _ :: _) _ _);refine wpList_app rfl (.tmp 29) (.tmp 31) 25 rfl (w.heap.size+4) 47 ip (.agg #[.string ⟨#[]⟩,.string ⟨#[]⟩,.string ⟨#[]⟩,.string ⟨#[]⟩,.int .i64 0,.int .i64 0,.bool false,.slice none 0 0,.int .i64 0,.int .i64 0,.int .i64 0,.int .i64 0,.int .i64 0,.int .i64 0]) 14 160 Tryz.underlying25 hI.out hZ.out hq1 hq2 rfl (by decide) _ o.length css.flatten rfl (HO1.out.alloc _).ho (some ⟨wq1.heap.size,0,none⟩) 1 1 [.string pname,.string pkind,.string pinto,.string pslot,.int .i64 pmade,.int .i64 psince,.bool pgone,.slice Ap pprops.length mp,.int .i64 pkl,.int .i64 pkh,.int .i64 pcl,.int .i64 pch,.int .i64 pdl,.int .i64 pdh] rfl rfl (.inr ⟨_,rfl,new_src _ _ _⟩) part_one (by unfold maxLen;omega) (by omega) (by simp;omega) ?_;intro v5 w5 hown5 hg5;obtain ⟨A5,c5,hf5⟩:=own_form hown5;subst hf5;obtain ⟨_,_,_,gg5,_⟩:=(HO1.out.alloc _).mid hg5;obtain ⟨x5,y5⟩:=gg5.facts;have ip5:=(HO1.out.alloc _).put hg5 hown5 (paR_mk w0 pname pkind pinto pslot pmade psince pgone pprops Ap mp pkl pkh pcl pch pdl pdh HPP.out) rfl;obtain ⟨W5,hW5⟩:∃ W,w5.setCell ⟨w.heap.size+3,0,none⟩ (.slice A5 (o.length+1) c5) = W:=⟨_,rfl⟩;rw [hW5] at ip5;have HWE5:=Lib.hid hW5;have IP5:=Lib.hid ip5;clear hown5 hg5 hW5 ip5 gg5))
          rw [HWE5.out]
          have IQ5:=IP5
          rw [←HO2.out, ← HC2.out] at IQ5
          clear x5 y5
          clear a0 b0 a1 b1 a3 b3 hz hrp hrq r0
          obtain ⟨a0,b0⟩:=IQ5.out.h0.facts
          obtain ⟨a1,b1⟩:=IQ5.out.h1.facts
          obtain ⟨a3,b3⟩:=IQ5.out.h3.facts
          have hz:=IQ5.out.size
          have hrp:W5.rangeAt (w.heap.size+1) 0 [.string pname,.string pkind,.string pinto,.string pslot,.int .i64 pmade,.int .i64 psince,.bool pgone,.slice Ap pprops.length mp,.int .i64 pkl,.int .i64 pkh,.int .i64 pcl,.int .i64 pch,.int .i64 pdl,.int .i64 pdh]:=has_range IQ5.out.h1
          have hrq:W5.rangeAt b (of+k*14) [.string qname,.string qkind,.string qinto,.string qslot,.int .i64 qmade,.int .i64 qsince,.bool qgone,.slice Aq qprops.length mq,.int .i64 qkl,.int .i64 qkh,.int .i64 qcl,.int .i64 qch,.int .i64 qdl,.int .i64 qdh]:=range_later HRQ.out (HB0.out.trans (IQ5.out.hb.mono HB0.out.size))
          have r0:W5.cell? ⟨b,of+k*14,none⟩ = some (.string qname):=hrq 0 _ rfl
          go_quiet (fail)
          have HO2q:=Lib.hid (IQ5.out.drewN nq)
          generalize W5.drewN nq = wq2 at HO2q ⊢
          clear a0 b0 a1 b1 a3 b3 hz hrp hrq r0
          obtain ⟨a0,b0⟩:=HO2q.out.h0.facts
          obtain ⟨a1,b1⟩:=HO2q.out.h1.facts
          obtain ⟨a3,b3⟩:=HO2q.out.h3.facts
          have hz:=HO2q.out.size
          have hrp:wq2.rangeAt (w.heap.size+1) 0 [.string pname,.string pkind,.string pinto,.string pslot,.int .i64 pmade,.int .i64 psince,.bool pgone,.slice Ap pprops.length mp,.int .i64 pkl,.int .i64 pkh,.int .i64 pcl,.int .i64 pch,.int .i64 pdl,.int .i64 pdh]:=has_range HO2q.out.h1
          have hrq:wq2.rangeAt b (of+k*14) [.string qname,.string qkind,.string qinto,.string qslot,.int .i64 qmade,.int .i64 qsince,.bool qgone,.slice Aq qprops.length mq,.int .i64 qkl,.int .i64 qkh,.int .i64 qcl,.int .i64 qch,.int .i64 qdl,.int .i64 qdh]:=range_later HRQ.out (HB0.out.trans (HO2q.out.hb.mono HB0.out.size))
          have r0:wq2.cell? ⟨b,of+k*14,none⟩ = some (.string qname):=hrq 0 _ rfl
          cases n9:(qname.toList == pname.toList)
          · have HNE:=Lib.hid (show qname ≠ pname by rw [beq_bytes] at n9;exact of_decide_eq_false n9)
            have hne2:(qname.toList != pname.toList) = true:=by rw [bne,n9];rfl
            go_wp2_with fail
            have HK0:=Lib.hid (fun W (h:Below w.heap.size w W) (h0:Has W w.heap.size 27 #[.slice (some ⟨b,of,none⟩) l.length cc])=>(⟨h,h0.facts.1 0,range_later HRQ.out (HB0.out.trans (h.mono HB0.out.size))⟩:Below w.heap.size w W∧W.cell? ⟨w.heap.size,0,none⟩ = some (.slice (some ⟨b,of,none⟩) l.length cc)∧W.rangeAt b (of+k*14) [.string qname,.string qkind,.string qinto,.string qslot,.int .i64 qmade,.int .i64 qsince,.bool qgone,.slice Aq qprops.length mq,.int .i64 qkl,.int .i64 qkh,.int .i64 qcl,.int .i64 qch,.int .i64 qdl,.int .i64 qdh]))
            refine wp_region_held_drew (S:=fun W=>Below w.heap.size w W∧W.cell? ⟨w.heap.size,0,none⟩ = some (.slice (some ⟨b,of,none⟩) l.length cc)∧W.rangeAt b (of+k*14) [.string qname,.string qkind,.string qinto,.string qslot,.int .i64 qmade,.int .i64 qsince,.bool qgone,.slice Aq qprops.length mq,.int .i64 qkl,.int .i64 qkh,.int .i64 qcl,.int .i64 qch,.int .i64 qdl,.int .i64 qdh]) (by kernel_rfl) (HK0.out _ HO2q.out.drew.hb HO2q.out.drew.h0) (fun hHeld=>?_)
            refine plI [(0,false),(2,false),(3,false),(4,false),(5,false)] ?_
            repeat ((first | ((with_reducible show Plan ((_,true) :: _) _);refine plF ?_) | (refine plR (v:=?_) ?_ ?_;rotate_left;focus (intro W hSW;(try dsimp only at hSW);go_simp;all_goals (with_reducible rfl))));try simp only [Act.put,List.setIfInBounds_toArray,List.set_cons_zero,List.set_cons_succ])
            refine plE ?_
            refine wpAnyH_take (i:=6) (oi:=⟨_,_,_,_,_,_⟩) (v:=_) rfl (by kernel_rfl) (by kernel_rfl) (by kernel_rfl) (fun _ _ _ h=>h) (yieldsIf_load_mid (by rfl) 47 _ rfl b (of+k*14) rfl [.string qname,.string qkind,.string qinto,.string qslot,.int .i64 qmade,.int .i64 qsince,.bool qgone,.slice Aq qprops.length mq,.int .i64 qkl,.int .i64 qkh,.int .i64 qcl,.int .i64 qch,.int .i64 qdl,.int .i64 qdh] _ (fun W h=>h.2.2) Tryz.underlying47 rfl rfl) (by assumption) ?_
            try simp only [Act.put,List.setIfInBounds_toArray,List.set_cons_zero,List.set_cons_succ]
            refine wpAnyH_ready (rs:=[1,7]) (by kernel_rfl) (by simp) ?_
            refine AllReadyH.cons (o:=⟨_,_,_,_,_,_⟩) rfl (fun K hK=>?_) ?_
            · go_simp
              refine hK.out _ _ (HK0.out _ HO2q.out.drew.hb HO2q.out.drew.h0) (fun hHeld=>?_)
              clear hK K
              try simp only [Act.put,List.setIfInBounds_toArray,List.set_cons_zero,List.set_cons_succ]
              refine wpAnyH_ready (rs:=[7]) (by kernel_rfl) (by simp) ?_
              refine AllReadyH.cons (o:=⟨_,_,_,_,_,_⟩) rfl (fun K hK=>?_) AllReadyH.nil
              go_simp
              refine hK.out _ _ (HK0.out _ (HO2q.out.drew.alloc _).hb (HO2q.out.drew.alloc _).h0) (fun hHeld=>?_)
              clear hK K
              try simp only [Act.put,List.setIfInBounds_toArray,List.set_cons_zero,List.set_cons_succ]
              refine wpAnyH_ready (rs:=[8]) (by kernel_rfl) (by simp) ?_
              refine AllReadyH.cons (o:=⟨_,_,_,_,_,_⟩) rfl (fun K hK=>?_) AllReadyH.nil
              rw [if_pos (show Region.wanted _ _ = true by rfl)]
              refine wp_append_own _ (.tmp 44) (.tmp 50) 25 rfl (w.heap.size+4) 47 ip (.agg #[.string ⟨#[]⟩,.string ⟨#[]⟩,.string ⟨#[]⟩,.string ⟨#[]⟩,.int .i64 0,.int .i64 0,.bool false,.slice none 0 0,.int .i64 0,.int .i64 0,.int .i64 0,.int .i64 0,.int .i64 0,.int .i64 0]) 14 160 Tryz.underlying25 hI.out hZ.out hq1 hq2 rfl (by decide) _ o2.length css2.flatten rfl (HO2q.out.drew.alloc _).ho ⟨wq2.heap.size,0,none⟩ 1 1 [.string qname,.string qkind,.string qinto,.string qslot,.int .i64 qmade,.int .i64 qsince,.bool qgone,.slice Aq qprops.length mq,.int .i64 qkl,.int .i64 qkh,.int .i64 qcl,.int .i64 qch,.int .i64 qdl,.int .i64 qdh] rfl rfl (new_src _ _ _) part_one (by unfold maxLen;omega) (by omega) (by simp;omega) ?_
              intro v9 w9 hown9 hg9 _
              obtain ⟨A9,c9,hf9⟩:=own_form hown9
              subst hf9
              obtain ⟨gg0,_,_,gg3,ggb⟩:=(HO2q.out.drew.alloc _).mid hg9
              obtain ⟨x9,y9⟩:=gg3.facts
              have ip9:=(HO2q.out.drew.alloc _).put hg9 hown9 (paR_mk w0 qname qkind qinto qslot qmade qsince qgone qprops Aq mq qkl qkh qcl qch qdl qdh HQQ.out) rfl
              have HOWN9:=Lib.hid hown9
              have HG9:=Lib.hid hg9
              clear hown9 hg9
              refine hK.out _ _ (HK0.out _ ggb gg0) (fun hHeld=>?_)
              clear hK K
              try simp only [Act.put,List.setIfInBounds_toArray,List.set_cons_zero,List.set_cons_succ]
              refine plI [(9,false)] ?_
              repeat ((first | ((with_reducible show Plan ((_,true) :: _) _);refine plF ?_) | (refine plR (v:=?_) ?_ ?_;rotate_left;focus (intro W hSW;(try dsimp only at hSW);go_simp;all_goals (with_reducible rfl))));try simp only [Act.put,List.setIfInBounds_toArray,List.set_cons_zero,List.set_cons_succ])
              refine plE ?_
              refine wpAnyH_ready (rs:=[10]) (by kernel_rfl) (by simp) ?_
              refine AllReadyH.cons (o:=⟨_,_,_,_,_,_⟩) rfl (fun K hK=>?_) AllReadyH.nil
              obtain ⟨W9,hW9⟩:∃ W,w9.setCell ⟨w.heap.size+3,0,none⟩ (.slice A9 (o2.length+1) c9) = W:=⟨_,rfl⟩
              rw [hW9] at ip9
              have IP9:=Lib.hid ip9
              have HW9:=Lib.hid hW9
              clear hW9 ip9
              go_simp
              rw [HW9.out]
              refine hK.out _ _ (HK0.out _ IP9.out.hb IP9.out.h0) (fun hHeld=>?_)
              clear hK K
              try simp only [Act.put]
              refine wpAnyH_done (by kernel_rfl) ?_ _
              clear hHeld HK0 x9 y9 gg0 gg3 ggb
              clear a0 b0 a1 b1 a3 b3 hz hrp hrq r0
              go_wp2_with fail
              go_roundw
              case rel=>exact ⟨k+1,true,o2++[(⟨qname,qkind,qinto,qslot,qmade,qsince,qgone,qprops,qkl,qkh,qcl,qch,qdl,qdh⟩:Pa)],_,_,by omega,by go_num,rfl,(by rw [HO2.out];exact HHE.out.2 HNE.out),IP9.out⟩
              case measure=>simp [intOf];omega
            refine AllReadyH.cons (o:=⟨_,_,_,_,_,_⟩) rfl (fun K hK=>?_) AllReadyH.nil
            go_simp
            refine hK.out _ _ (HK0.out _ (HO2q.out.drew.alloc _).hb (HO2q.out.drew.alloc _).h0) (fun hHeld=>?_)
            clear hK K
            try simp only [Act.put,List.setIfInBounds_toArray,List.set_cons_zero,List.set_cons_succ]
            refine wpAnyH_ready (rs:=[1]) (by kernel_rfl) (by simp) ?_
            refine AllReadyH.cons (o:=⟨_,_,_,_,_,_⟩) rfl (fun K hK=>?_) AllReadyH.nil
            go_simp
            refine hK.out _ _ (HK0.out _ (HO2q.out.drew.alloc _).hb (HO2q.out.drew.alloc _).h0) (fun hHeld=>?_)
            clear hK K
            try simp only [Act.put,List.setIfInBounds_toArray,List.set_cons_zero,List.set_cons_succ]
            refine wpAnyH_ready (rs:=[8]) (by kernel_rfl) (by simp) ?_
            refine AllReadyH.cons (o:=⟨_,_,_,_,_,_⟩) rfl (fun K hK=>?_) AllReadyH.nil
            rw [if_pos (show Region.wanted _ _ = true by rfl)]
            refine wp_append_own _ (.tmp 44) (.tmp 50) 25 rfl (w.heap.size+4) 47 ip (.agg #[.string ⟨#[]⟩,.string ⟨#[]⟩,.string ⟨#[]⟩,.string ⟨#[]⟩,.int .i64 0,.int .i64 0,.bool false,.slice none 0 0,.int .i64 0,.int .i64 0,.int .i64 0,.int .i64 0,.int .i64 0,.int .i64 0]) 14 160 Tryz.underlying25 hI.out hZ.out hq1 hq2 rfl (by decide) _ o2.length css2.flatten rfl (HO2q.out.drew.alloc _).ho ⟨wq2.heap.size,0,none⟩ 1 1 [.string qname,.string qkind,.string qinto,.string qslot,.int .i64 qmade,.int .i64 qsince,.bool qgone,.slice Aq qprops.length mq,.int .i64 qkl,.int .i64 qkh,.int .i64 qcl,.int .i64 qch,.int .i64 qdl,.int .i64 qdh] rfl rfl (new_src _ _ _) part_one (by unfold maxLen;omega) (by omega) (by simp;omega) ?_
            intro v9 w9 hown9 hg9 _
            obtain ⟨A9,c9,hf9⟩:=own_form hown9
            subst hf9
            obtain ⟨gg0,_,_,gg3,ggb⟩:=(HO2q.out.drew.alloc _).mid hg9
            obtain ⟨x9,y9⟩:=gg3.facts
            have ip9:=(HO2q.out.drew.alloc _).put hg9 hown9 (paR_mk w0 qname qkind qinto qslot qmade qsince qgone qprops Aq mq qkl qkh qcl qch qdl qdh HQQ.out) rfl
            have HOWN9:=Lib.hid hown9
            have HG9:=Lib.hid hg9
            clear hown9 hg9
            refine hK.out _ _ (HK0.out _ ggb gg0) (fun hHeld=>?_)
            clear hK K
            try simp only [Act.put,List.setIfInBounds_toArray,List.set_cons_zero,List.set_cons_succ]
            refine plI [(9,false)] ?_
            repeat ((first | ((with_reducible show Plan ((_,true) :: _) _);refine plF ?_) | (refine plR (v:=?_) ?_ ?_;rotate_left;focus (intro W hSW;(try dsimp only at hSW);go_simp;all_goals (with_reducible rfl))));try simp only [Act.put,List.setIfInBounds_toArray,List.set_cons_zero,List.set_cons_succ])
            refine plE ?_
            refine wpAnyH_ready (rs:=[10]) (by kernel_rfl) (by simp) ?_
            refine AllReadyH.cons (o:=⟨_,_,_,_,_,_⟩) rfl (fun K hK=>?_) AllReadyH.nil
            obtain ⟨W9,hW9⟩:∃ W,w9.setCell ⟨w.heap.size+3,0,none⟩ (.slice A9 (o2.length+1) c9) = W:=⟨_,rfl⟩
            rw [hW9] at ip9
            have IP9:=Lib.hid ip9
            have HW9:=Lib.hid hW9
            clear hW9 ip9
            go_simp
            rw [HW9.out]
            refine hK.out _ _ (HK0.out _ IP9.out.hb IP9.out.h0) (fun hHeld=>?_)
            clear hK K
            try simp only [Act.put]
            refine wpAnyH_done (by kernel_rfl) ?_ _
            clear hHeld HK0 x9 y9 gg0 gg3 ggb
            clear a0 b0 a1 b1 a3 b3 hz hrp hrq r0
            go_wp2_with fail
            go_roundw
            case rel=>exact ⟨k+1,true,o2++[(⟨qname,qkind,qinto,qslot,qmade,qsince,qgone,qprops,qkl,qkh,qcl,qch,qdl,qdh⟩:Pa)],_,_,by omega,by go_num,rfl,(by rw [HO2.out];exact HHE.out.2 HNE.out),IP9.out⟩
            case measure=>simp [intOf];omega
          · have HEQ:=Lib.hid (show qname = pname by rw [beq_bytes] at n9;exact of_decide_eq_true n9)
            have hne2:(qname.toList != pname.toList) = false:=by rw [bne,n9];rfl
            go_wp2_with fail
            go_roundw
            case rel=>exact ⟨k+1,true,o2,_,_,by omega,by go_num,rfl,(by rw [HO2.out];exact HHE.out.1 HEQ.out),HO2q.out⟩
            case measure=>simp [intOf];omega
        · have HNE:=Lib.hid (HLS.out HL.out n8)
          have n9:(qname.toList == pname.toList) = false:=by rw [beq_bytes,decide_eq_false HNE.out.1]
          have hne2:(qname.toList != pname.toList) = true:=by rw [bne,n9];rfl
          go_quiet (fail)
          have HO1:=Lib.hid (HO.out.drewN nq)
          generalize wr.drewN nq = wq1 at HO1 ⊢
          clear a0 b0 a1 b1 a3 b3 hz hrp hrq r0
          obtain ⟨a0,b0⟩:=HO1.out.h0.facts
          obtain ⟨a1,b1⟩:=HO1.out.h1.facts
          obtain ⟨a3,b3⟩:=HO1.out.h3.facts
          have hz:=HO1.out.size
          have hrp:wq1.rangeAt (w.heap.size+1) 0 [.string pname,.string pkind,.string pinto,.string pslot,.int .i64 pmade,.int .i64 psince,.bool pgone,.slice Ap pprops.length mp,.int .i64 pkl,.int .i64 pkh,.int .i64 pcl,.int .i64 pch,.int .i64 pdl,.int .i64 pdh]:=has_range HO1.out.h1
          have hrq:wq1.rangeAt b (of+k*14) [.string qname,.string qkind,.string qinto,.string qslot,.int .i64 qmade,.int .i64 qsince,.bool qgone,.slice Aq qprops.length mq,.int .i64 qkl,.int .i64 qkh,.int .i64 qcl,.int .i64 qch,.int .i64 qdl,.int .i64 qdh]:=range_later HRQ.out (HB0.out.trans (HO1.out.hb.mono HB0.out.size))
          have r0:wq1.cell? ⟨b,of+k*14,none⟩ = some (.string qname):=hrq 0 _ rfl
          go_wp2_with fail
          go_quiet (fail)
          have HO2:=Lib.hid (HO1.out.drewN nq)
          generalize wq1.drewN nq = wq2 at HO2 ⊢
          clear a0 b0 a1 b1 a3 b3 hz hrp hrq r0
          obtain ⟨a0,b0⟩:=HO2.out.h0.facts
          obtain ⟨a1,b1⟩:=HO2.out.h1.facts
          obtain ⟨a3,b3⟩:=HO2.out.h3.facts
          have hz:=HO2.out.size
          have hrp:wq2.rangeAt (w.heap.size+1) 0 [.string pname,.string pkind,.string pinto,.string pslot,.int .i64 pmade,.int .i64 psince,.bool pgone,.slice Ap pprops.length mp,.int .i64 pkl,.int .i64 pkh,.int .i64 pcl,.int .i64 pch,.int .i64 pdl,.int .i64 pdh]:=has_range HO2.out.h1
          have hrq:wq2.rangeAt b (of+k*14) [.string qname,.string qkind,.string qinto,.string qslot,.int .i64 qmade,.int .i64 qsince,.bool qgone,.slice Aq qprops.length mq,.int .i64 qkl,.int .i64 qkh,.int .i64 qcl,.int .i64 qch,.int .i64 qdl,.int .i64 qdh]:=range_later HRQ.out (HB0.out.trans (HO2.out.hb.mono HB0.out.size))
          have r0:wq2.cell? ⟨b,of+k*14,none⟩ = some (.string qname):=hrq 0 _ rfl
          go_wp2_with fail
          have HK0:=Lib.hid (fun W (h:Below w.heap.size w W) (h0:Has W w.heap.size 27 #[.slice (some ⟨b,of,none⟩) l.length cc])=>(⟨h,h0.facts.1 0,range_later HRQ.out (HB0.out.trans (h.mono HB0.out.size))⟩:Below w.heap.size w W∧W.cell? ⟨w.heap.size,0,none⟩ = some (.slice (some ⟨b,of,none⟩) l.length cc)∧W.rangeAt b (of+k*14) [.string qname,.string qkind,.string qinto,.string qslot,.int .i64 qmade,.int .i64 qsince,.bool qgone,.slice Aq qprops.length mq,.int .i64 qkl,.int .i64 qkh,.int .i64 qcl,.int .i64 qch,.int .i64 qdl,.int .i64 qdh]))
          refine wp_region_held_drew (S:=fun W=>Below w.heap.size w W∧W.cell? ⟨w.heap.size,0,none⟩ = some (.slice (some ⟨b,of,none⟩) l.length cc)∧W.rangeAt b (of+k*14) [.string qname,.string qkind,.string qinto,.string qslot,.int .i64 qmade,.int .i64 qsince,.bool qgone,.slice Aq qprops.length mq,.int .i64 qkl,.int .i64 qkh,.int .i64 qcl,.int .i64 qch,.int .i64 qdl,.int .i64 qdh]) (by kernel_rfl) (HK0.out _ HO2.out.drew.hb HO2.out.drew.h0) (fun hHeld=>?_)
          refine plI [(0,false),(2,false),(3,false),(4,false),(5,false)] ?_
          repeat ((first | ((with_reducible show Plan ((_,true) :: _) _);refine plF ?_) | (refine plR (v:=?_) ?_ ?_;rotate_left;focus (intro W hSW;(try dsimp only at hSW);go_simp;all_goals (with_reducible rfl))));try simp only [Act.put,List.setIfInBounds_toArray,List.set_cons_zero,List.set_cons_succ])
          refine plE ?_
          refine wpAnyH_take (i:=6) (oi:=⟨_,_,_,_,_,_⟩) (v:=_) rfl (by kernel_rfl) (by kernel_rfl) (by kernel_rfl) (fun _ _ _ h=>h) (yieldsIf_load_mid (by rfl) 47 _ rfl b (of+k*14) rfl [.string qname,.string qkind,.string qinto,.string qslot,.int .i64 qmade,.int .i64 qsince,.bool qgone,.slice Aq qprops.length mq,.int .i64 qkl,.int .i64 qkh,.int .i64 qcl,.int .i64 qch,.int .i64 qdl,.int .i64 qdh] _ (fun W h=>h.2.2) Tryz.underlying47 rfl rfl) (by assumption) ?_
          try simp only [Act.put,List.setIfInBounds_toArray,List.set_cons_zero,List.set_cons_succ]
          refine wpAnyH_ready (rs:=[1,7]) (by kernel_rfl) (by simp) ?_
          refine AllReadyH.cons (o:=⟨_,_,_,_,_,_⟩) rfl (fun K hK=>?_) ?_
          · go_simp
            refine hK.out _ _ (HK0.out _ HO2.out.drew.hb HO2.out.drew.h0) (fun hHeld=>?_)
            clear hK K
            try simp only [Act.put,List.setIfInBounds_toArray,List.set_cons_zero,List.set_cons_succ]
            refine wpAnyH_ready (rs:=[7]) (by kernel_rfl) (by simp) ?_
            refine AllReadyH.cons (o:=⟨_,_,_,_,_,_⟩) rfl (fun K hK=>?_) AllReadyH.nil
            go_simp
            refine hK.out _ _ (HK0.out _ (HO2.out.drew.alloc _).hb (HO2.out.drew.alloc _).h0) (fun hHeld=>?_)
            clear hK K
            try simp only [Act.put,List.setIfInBounds_toArray,List.set_cons_zero,List.set_cons_succ]
            refine wpAnyH_ready (rs:=[8]) (by kernel_rfl) (by simp) ?_
            refine AllReadyH.cons (o:=⟨_,_,_,_,_,_⟩) rfl (fun K hK=>?_) AllReadyH.nil
            rw [if_pos (show Region.wanted _ _ = true by rfl)]
            refine wp_append_own _ (.tmp 44) (.tmp 50) 25 rfl (w.heap.size+4) 47 ip (.agg #[.string ⟨#[]⟩,.string ⟨#[]⟩,.string ⟨#[]⟩,.string ⟨#[]⟩,.int .i64 0,.int .i64 0,.bool false,.slice none 0 0,.int .i64 0,.int .i64 0,.int .i64 0,.int .i64 0,.int .i64 0,.int .i64 0]) 14 160 Tryz.underlying25 hI.out hZ.out hq1 hq2 rfl (by decide) _ o.length css.flatten rfl (HO2.out.drew.alloc _).ho ⟨wq2.heap.size,0,none⟩ 1 1 [.string qname,.string qkind,.string qinto,.string qslot,.int .i64 qmade,.int .i64 qsince,.bool qgone,.slice Aq qprops.length mq,.int .i64 qkl,.int .i64 qkh,.int .i64 qcl,.int .i64 qch,.int .i64 qdl,.int .i64 qdh] rfl rfl (new_src _ _ _) part_one (by unfold maxLen;omega) (by omega) (by simp;omega) ?_
            intro v9 w9 hown9 hg9 _
            obtain ⟨A9,c9,hf9⟩:=own_form hown9
            subst hf9
            obtain ⟨gg0,_,_,gg3,ggb⟩:=(HO2.out.drew.alloc _).mid hg9
            obtain ⟨x9,y9⟩:=gg3.facts
            have ip9:=(HO2.out.drew.alloc _).put hg9 hown9 (paR_mk w0 qname qkind qinto qslot qmade qsince qgone qprops Aq mq qkl qkh qcl qch qdl qdh HQQ.out) rfl
            have HOWN9:=Lib.hid hown9
            have HG9:=Lib.hid hg9
            clear hown9 hg9
            refine hK.out _ _ (HK0.out _ ggb gg0) (fun hHeld=>?_)
            clear hK K
            try simp only [Act.put,List.setIfInBounds_toArray,List.set_cons_zero,List.set_cons_succ]
            refine plI [(9,false)] ?_
            repeat ((first | ((with_reducible show Plan ((_,true) :: _) _);refine plF ?_) | (refine plR (v:=?_) ?_ ?_;rotate_left;focus (intro W hSW;(try dsimp only at hSW);go_simp;all_goals (with_reducible rfl))));try simp only [Act.put,List.setIfInBounds_toArray,List.set_cons_zero,List.set_cons_succ])
            refine plE ?_
            refine wpAnyH_ready (rs:=[10]) (by kernel_rfl) (by simp) ?_
            refine AllReadyH.cons (o:=⟨_,_,_,_,_,_⟩) rfl (fun K hK=>?_) AllReadyH.nil
            obtain ⟨W9,hW9⟩:∃ W,w9.setCell ⟨w.heap.size+3,0,none⟩ (.slice A9 (o.length+1) c9) = W:=⟨_,rfl⟩
            rw [hW9] at ip9
            have IP9:=Lib.hid ip9
            have HW9:=Lib.hid hW9
            clear hW9 ip9
            go_simp
            rw [HW9.out]
            refine hK.out _ _ (HK0.out _ IP9.out.hb IP9.out.h0) (fun hHeld=>?_)
            clear hK K
            try simp only [Act.put]
            refine wpAnyH_done (by kernel_rfl) ?_ _
            clear hHeld HK0 x9 y9 gg0 gg3 ggb
            clear a0 b0 a1 b1 a3 b3 hz hrp hrq r0
            go_wp2_with fail
            go_roundw
            case rel=>exact ⟨k+1,false,o++[(⟨qname,qkind,qinto,qslot,qmade,qsince,qgone,qprops,qkl,qkh,qcl,qch,qdl,qdh⟩:Pa)],_,_,by omega,by go_num,rfl,HNE.out.2,IP9.out⟩
            case measure=>simp [intOf];omega
          refine AllReadyH.cons (o:=⟨_,_,_,_,_,_⟩) rfl (fun K hK=>?_) AllReadyH.nil
          go_simp
          refine hK.out _ _ (HK0.out _ (HO2.out.drew.alloc _).hb (HO2.out.drew.alloc _).h0) (fun hHeld=>?_)
          clear hK K
          try simp only [Act.put,List.setIfInBounds_toArray,List.set_cons_zero,List.set_cons_succ]
          refine wpAnyH_ready (rs:=[1]) (by kernel_rfl) (by simp) ?_
          refine AllReadyH.cons (o:=⟨_,_,_,_,_,_⟩) rfl (fun K hK=>?_) AllReadyH.nil
          go_simp
          refine hK.out _ _ (HK0.out _ (HO2.out.drew.alloc _).hb (HO2.out.drew.alloc _).h0) (fun hHeld=>?_)
          clear hK K
          try simp only [Act.put,List.setIfInBounds_toArray,List.set_cons_zero,List.set_cons_succ]
          refine wpAnyH_ready (rs:=[8]) (by kernel_rfl) (by simp) ?_
          refine AllReadyH.cons (o:=⟨_,_,_,_,_,_⟩) rfl (fun K hK=>?_) AllReadyH.nil
          rw [if_pos (show Region.wanted _ _ = true by rfl)]
          refine wp_append_own _ (.tmp 44) (.tmp 50) 25 rfl (w.heap.size+4) 47 ip (.agg #[.string ⟨#[]⟩,.string ⟨#[]⟩,.string ⟨#[]⟩,.string ⟨#[]⟩,.int .i64 0,.int .i64 0,.bool false,.slice none 0 0,.int .i64 0,.int .i64 0,.int .i64 0,.int .i64 0,.int .i64 0,.int .i64 0]) 14 160 Tryz.underlying25 hI.out hZ.out hq1 hq2 rfl (by decide) _ o.length css.flatten rfl (HO2.out.drew.alloc _).ho ⟨wq2.heap.size,0,none⟩ 1 1 [.string qname,.string qkind,.string qinto,.string qslot,.int .i64 qmade,.int .i64 qsince,.bool qgone,.slice Aq qprops.length mq,.int .i64 qkl,.int .i64 qkh,.int .i64 qcl,.int .i64 qch,.int .i64 qdl,.int .i64 qdh] rfl rfl (new_src _ _ _) part_one (by unfold maxLen;omega) (by omega) (by simp;omega) ?_
          intro v9 w9 hown9 hg9 _
          obtain ⟨A9,c9,hf9⟩:=own_form hown9
          subst hf9
          obtain ⟨gg0,_,_,gg3,ggb⟩:=(HO2.out.drew.alloc _).mid hg9
          obtain ⟨x9,y9⟩:=gg3.facts
          have ip9:=(HO2.out.drew.alloc _).put hg9 hown9 (paR_mk w0 qname qkind qinto qslot qmade qsince qgone qprops Aq mq qkl qkh qcl qch qdl qdh HQQ.out) rfl
          have HOWN9:=Lib.hid hown9
          have HG9:=Lib.hid hg9
          clear hown9 hg9
          refine hK.out _ _ (HK0.out _ ggb gg0) (fun hHeld=>?_)
          clear hK K
          try simp only [Act.put,List.setIfInBounds_toArray,List.set_cons_zero,List.set_cons_succ]
          refine plI [(9,false)] ?_
          repeat ((first | ((with_reducible show Plan ((_,true) :: _) _);refine plF ?_) | (refine plR (v:=?_) ?_ ?_;rotate_left;focus (intro W hSW;(try dsimp only at hSW);go_simp;all_goals (with_reducible rfl))));try simp only [Act.put,List.setIfInBounds_toArray,List.set_cons_zero,List.set_cons_succ])
          refine plE ?_
          refine wpAnyH_ready (rs:=[10]) (by kernel_rfl) (by simp) ?_
          refine AllReadyH.cons (o:=⟨_,_,_,_,_,_⟩) rfl (fun K hK=>?_) AllReadyH.nil
          obtain ⟨W9,hW9⟩:∃ W,w9.setCell ⟨w.heap.size+3,0,none⟩ (.slice A9 (o.length+1) c9) = W:=⟨_,rfl⟩
          rw [hW9] at ip9
          have IP9:=Lib.hid ip9
          have HW9:=Lib.hid hW9
          clear hW9 ip9
          go_simp
          rw [HW9.out]
          refine hK.out _ _ (HK0.out _ IP9.out.hb IP9.out.h0) (fun hHeld=>?_)
          clear hK K
          try simp only [Act.put]
          refine wpAnyH_done (by kernel_rfl) ?_ _
          clear hHeld HK0 x9 y9 gg0 gg3 ggb
          clear a0 b0 a1 b1 a3 b3 hz hrp hrq r0
          go_wp2_with fail
          go_roundw
          case rel=>exact ⟨k+1,false,o++[(⟨qname,qkind,qinto,qslot,qmade,qsince,qgone,qprops,qkl,qkh,qcl,qch,qdl,qdh⟩:Pa)],_,_,by omega,by go_num,rfl,HNE.out.2,IP9.out⟩
          case measure=>simp [intOf];omega
      · have HNE:=Lib.hid (HNX.out HL.out)
        have n9:(qname.toList == pname.toList) = false:=by rw [beq_bytes,decide_eq_false HNE.out.1]
        have hne2:(qname.toList != pname.toList) = true:=by rw [bne,n9];rfl
        go_quiet (fail)
        have HO1:=Lib.hid (HO.out.drewN nq)
        generalize wr.drewN nq = wq1 at HO1 ⊢
        clear a0 b0 a1 b1 a3 b3 hz hrp hrq r0
        obtain ⟨a0,b0⟩:=HO1.out.h0.facts
        obtain ⟨a1,b1⟩:=HO1.out.h1.facts
        obtain ⟨a3,b3⟩:=HO1.out.h3.facts
        have hz:=HO1.out.size
        have hrp:wq1.rangeAt (w.heap.size+1) 0 [.string pname,.string pkind,.string pinto,.string pslot,.int .i64 pmade,.int .i64 psince,.bool pgone,.slice Ap pprops.length mp,.int .i64 pkl,.int .i64 pkh,.int .i64 pcl,.int .i64 pch,.int .i64 pdl,.int .i64 pdh]:=has_range HO1.out.h1
        have hrq:wq1.rangeAt b (of+k*14) [.string qname,.string qkind,.string qinto,.string qslot,.int .i64 qmade,.int .i64 qsince,.bool qgone,.slice Aq qprops.length mq,.int .i64 qkl,.int .i64 qkh,.int .i64 qcl,.int .i64 qch,.int .i64 qdl,.int .i64 qdh]:=range_later HRQ.out (HB0.out.trans (HO1.out.hb.mono HB0.out.size))
        have r0:wq1.cell? ⟨b,of+k*14,none⟩ = some (.string qname):=hrq 0 _ rfl
        go_wp2_with fail
        go_quiet (fail)
        have HO2:=Lib.hid (HO1.out.drewN nq)
        generalize wq1.drewN nq = wq2 at HO2 ⊢
        clear a0 b0 a1 b1 a3 b3 hz hrp hrq r0
        obtain ⟨a0,b0⟩:=HO2.out.h0.facts
        obtain ⟨a1,b1⟩:=HO2.out.h1.facts
        obtain ⟨a3,b3⟩:=HO2.out.h3.facts
        have hz:=HO2.out.size
        have hrp:wq2.rangeAt (w.heap.size+1) 0 [.string pname,.string pkind,.string pinto,.string pslot,.int .i64 pmade,.int .i64 psince,.bool pgone,.slice Ap pprops.length mp,.int .i64 pkl,.int .i64 pkh,.int .i64 pcl,.int .i64 pch,.int .i64 pdl,.int .i64 pdh]:=has_range HO2.out.h1
        have hrq:wq2.rangeAt b (of+k*14) [.string qname,.string qkind,.string qinto,.string qslot,.int .i64 qmade,.int .i64 qsince,.bool qgone,.slice Aq qprops.length mq,.int .i64 qkl,.int .i64 qkh,.int .i64 qcl,.int .i64 qch,.int .i64 qdl,.int .i64 qdh]:=range_later HRQ.out (HB0.out.trans (HO2.out.hb.mono HB0.out.size))
        have r0:wq2.cell? ⟨b,of+k*14,none⟩ = some (.string qname):=hrq 0 _ rfl
        go_wp2_with fail
        have HK0:=Lib.hid (fun W (h:Below w.heap.size w W) (h0:Has W w.heap.size 27 #[.slice (some ⟨b,of,none⟩) l.length cc])=>(⟨h,h0.facts.1 0,range_later HRQ.out (HB0.out.trans (h.mono HB0.out.size))⟩:Below w.heap.size w W∧W.cell? ⟨w.heap.size,0,none⟩ = some (.slice (some ⟨b,of,none⟩) l.length cc)∧W.rangeAt b (of+k*14) [.string qname,.string qkind,.string qinto,.string qslot,.int .i64 qmade,.int .i64 qsince,.bool qgone,.slice Aq qprops.length mq,.int .i64 qkl,.int .i64 qkh,.int .i64 qcl,.int .i64 qch,.int .i64 qdl,.int .i64 qdh]))
        refine wp_region_held_drew (S:=fun W=>Below w.heap.size w W∧W.cell? ⟨w.heap.size,0,none⟩ = some (.slice (some ⟨b,of,none⟩) l.length cc)∧W.rangeAt b (of+k*14) [.string qname,.string qkind,.string qinto,.string qslot,.int .i64 qmade,.int .i64 qsince,.bool qgone,.slice Aq qprops.length mq,.int .i64 qkl,.int .i64 qkh,.int .i64 qcl,.int .i64 qch,.int .i64 qdl,.int .i64 qdh]) (by kernel_rfl) (HK0.out _ HO2.out.drew.hb HO2.out.drew.h0) (fun hHeld=>?_)
        refine plI [(0,false),(2,false),(3,false),(4,false),(5,false)] ?_
        repeat ((first | ((with_reducible show Plan ((_,true) :: _) _);refine plF ?_) | (refine plR (v:=?_) ?_ ?_;rotate_left;focus (intro W hSW;(try dsimp only at hSW);go_simp;all_goals (with_reducible rfl))));try simp only [Act.put,List.setIfInBounds_toArray,List.set_cons_zero,List.set_cons_succ])
        refine plE ?_
        refine wpAnyH_take (i:=6) (oi:=⟨_,_,_,_,_,_⟩) (v:=_) rfl (by kernel_rfl) (by kernel_rfl) (by kernel_rfl) (fun _ _ _ h=>h) (yieldsIf_load_mid (by rfl) 47 _ rfl b (of+k*14) rfl [.string qname,.string qkind,.string qinto,.string qslot,.int .i64 qmade,.int .i64 qsince,.bool qgone,.slice Aq qprops.length mq,.int .i64 qkl,.int .i64 qkh,.int .i64 qcl,.int .i64 qch,.int .i64 qdl,.int .i64 qdh] _ (fun W h=>h.2.2) Tryz.underlying47 rfl rfl) (by assumption) ?_
        try simp only [Act.put,List.setIfInBounds_toArray,List.set_cons_zero,List.set_cons_succ]
        refine wpAnyH_ready (rs:=[1,7]) (by kernel_rfl) (by simp) ?_
        refine AllReadyH.cons (o:=⟨_,_,_,_,_,_⟩) rfl (fun K hK=>?_) ?_
        · go_simp
          refine hK.out _ _ (HK0.out _ HO2.out.drew.hb HO2.out.drew.h0) (fun hHeld=>?_)
          clear hK K
          try simp only [Act.put,List.setIfInBounds_toArray,List.set_cons_zero,List.set_cons_succ]
          refine wpAnyH_ready (rs:=[7]) (by kernel_rfl) (by simp) ?_
          refine AllReadyH.cons (o:=⟨_,_,_,_,_,_⟩) rfl (fun K hK=>?_) AllReadyH.nil
          go_simp
          refine hK.out _ _ (HK0.out _ (HO2.out.drew.alloc _).hb (HO2.out.drew.alloc _).h0) (fun hHeld=>?_)
          clear hK K
          try simp only [Act.put,List.setIfInBounds_toArray,List.set_cons_zero,List.set_cons_succ]
          refine wpAnyH_ready (rs:=[8]) (by kernel_rfl) (by simp) ?_
          refine AllReadyH.cons (o:=⟨_,_,_,_,_,_⟩) rfl (fun K hK=>?_) AllReadyH.nil
          rw [if_pos (show Region.wanted _ _ = true by rfl)]
          refine wp_append_own _ (.tmp 44) (.tmp 50) 25 rfl (w.heap.size+4) 47 ip (.agg #[.string ⟨#[]⟩,.string ⟨#[]⟩,.string ⟨#[]⟩,.string ⟨#[]⟩,.int .i64 0,.int .i64 0,.bool false,.slice none 0 0,.int .i64 0,.int .i64 0,.int .i64 0,.int .i64 0,.int .i64 0,.int .i64 0]) 14 160 Tryz.underlying25 hI.out hZ.out hq1 hq2 rfl (by decide) _ o.length css.flatten rfl (HO2.out.drew.alloc _).ho ⟨wq2.heap.size,0,none⟩ 1 1 [.string qname,.string qkind,.string qinto,.string qslot,.int .i64 qmade,.int .i64 qsince,.bool qgone,.slice Aq qprops.length mq,.int .i64 qkl,.int .i64 qkh,.int .i64 qcl,.int .i64 qch,.int .i64 qdl,.int .i64 qdh] rfl rfl (new_src _ _ _) part_one (by unfold maxLen;omega) (by omega) (by simp;omega) ?_
          intro v9 w9 hown9 hg9 _
          obtain ⟨A9,c9,hf9⟩:=own_form hown9
          subst hf9
          obtain ⟨gg0,_,_,gg3,ggb⟩:=(HO2.out.drew.alloc _).mid hg9
          obtain ⟨x9,y9⟩:=gg3.facts
          have ip9:=(HO2.out.drew.alloc _).put hg9 hown9 (paR_mk w0 qname qkind qinto qslot qmade qsince qgone qprops Aq mq qkl qkh qcl qch qdl qdh HQQ.out) rfl
          have HOWN9:=Lib.hid hown9
          have HG9:=Lib.hid hg9
          clear hown9 hg9
          refine hK.out _ _ (HK0.out _ ggb gg0) (fun hHeld=>?_)
          clear hK K
          try simp only [Act.put,List.setIfInBounds_toArray,List.set_cons_zero,List.set_cons_succ]
          refine plI [(9,false)] ?_
          repeat ((first | ((with_reducible show Plan ((_,true) :: _) _);refine plF ?_) | (refine plR (v:=?_) ?_ ?_;rotate_left;focus (intro W hSW;(try dsimp only at hSW);go_simp;all_goals (with_reducible rfl))));try simp only [Act.put,List.setIfInBounds_toArray,List.set_cons_zero,List.set_cons_succ])
          refine plE ?_
          refine wpAnyH_ready (rs:=[10]) (by kernel_rfl) (by simp) ?_
          refine AllReadyH.cons (o:=⟨_,_,_,_,_,_⟩) rfl (fun K hK=>?_) AllReadyH.nil
          obtain ⟨W9,hW9⟩:∃ W,w9.setCell ⟨w.heap.size+3,0,none⟩ (.slice A9 (o.length+1) c9) = W:=⟨_,rfl⟩
          rw [hW9] at ip9
          have IP9:=Lib.hid ip9
          have HW9:=Lib.hid hW9
          clear hW9 ip9
          go_simp
          rw [HW9.out]
          refine hK.out _ _ (HK0.out _ IP9.out.hb IP9.out.h0) (fun hHeld=>?_)
          clear hK K
          try simp only [Act.put]
          refine wpAnyH_done (by kernel_rfl) ?_ _
          clear hHeld HK0 x9 y9 gg0 gg3 ggb
          clear a0 b0 a1 b1 a3 b3 hz hrp hrq r0
          go_wp2_with fail
          go_roundw
          case rel=>exact ⟨k+1,true,o++[(⟨qname,qkind,qinto,qslot,qmade,qsince,qgone,qprops,qkl,qkh,qcl,qch,qdl,qdh⟩:Pa)],_,_,by omega,by go_num,rfl,HNE.out.2,IP9.out⟩
          case measure=>simp [intOf];omega
        refine AllReadyH.cons (o:=⟨_,_,_,_,_,_⟩) rfl (fun K hK=>?_) AllReadyH.nil
        go_simp
        refine hK.out _ _ (HK0.out _ (HO2.out.drew.alloc _).hb (HO2.out.drew.alloc _).h0) (fun hHeld=>?_)
        clear hK K
        try simp only [Act.put,List.setIfInBounds_toArray,List.set_cons_zero,List.set_cons_succ]
        refine wpAnyH_ready (rs:=[1]) (by kernel_rfl) (by simp) ?_
        refine AllReadyH.cons (o:=⟨_,_,_,_,_,_⟩) rfl (fun K hK=>?_) AllReadyH.nil
        go_simp
        refine hK.out _ _ (HK0.out _ (HO2.out.drew.alloc _).hb (HO2.out.drew.alloc _).h0) (fun hHeld=>?_)
        clear hK K
        try simp only [Act.put,List.setIfInBounds_toArray,List.set_cons_zero,List.set_cons_succ]
        refine wpAnyH_ready (rs:=[8]) (by kernel_rfl) (by simp) ?_
        refine AllReadyH.cons (o:=⟨_,_,_,_,_,_⟩) rfl (fun K hK=>?_) AllReadyH.nil
        rw [if_pos (show Region.wanted _ _ = true by rfl)]
        refine wp_append_own _ (.tmp 44) (.tmp 50) 25 rfl (w.heap.size+4) 47 ip (.agg #[.string ⟨#[]⟩,.string ⟨#[]⟩,.string ⟨#[]⟩,.string ⟨#[]⟩,.int .i64 0,.int .i64 0,.bool false,.slice none 0 0,.int .i64 0,.int .i64 0,.int .i64 0,.int .i64 0,.int .i64 0,.int .i64 0]) 14 160 Tryz.underlying25 hI.out hZ.out hq1 hq2 rfl (by decide) _ o.length css.flatten rfl (HO2.out.drew.alloc _).ho ⟨wq2.heap.size,0,none⟩ 1 1 [.string qname,.string qkind,.string qinto,.string qslot,.int .i64 qmade,.int .i64 qsince,.bool qgone,.slice Aq qprops.length mq,.int .i64 qkl,.int .i64 qkh,.int .i64 qcl,.int .i64 qch,.int .i64 qdl,.int .i64 qdh] rfl rfl (new_src _ _ _) part_one (by unfold maxLen;omega) (by omega) (by simp;omega) ?_
        intro v9 w9 hown9 hg9 _
        obtain ⟨A9,c9,hf9⟩:=own_form hown9
        subst hf9
        obtain ⟨gg0,_,_,gg3,ggb⟩:=(HO2.out.drew.alloc _).mid hg9
        obtain ⟨x9,y9⟩:=gg3.facts
        have ip9:=(HO2.out.drew.alloc _).put hg9 hown9 (paR_mk w0 qname qkind qinto qslot qmade qsince qgone qprops Aq mq qkl qkh qcl qch qdl qdh HQQ.out) rfl
        have HOWN9:=Lib.hid hown9
        have HG9:=Lib.hid hg9
        clear hown9 hg9
        refine hK.out _ _ (HK0.out _ ggb gg0) (fun hHeld=>?_)
        clear hK K
        try simp only [Act.put,List.setIfInBounds_toArray,List.set_cons_zero,List.set_cons_succ]
        refine plI [(9,false)] ?_
        repeat ((first | ((with_reducible show Plan ((_,true) :: _) _);refine plF ?_) | (refine plR (v:=?_) ?_ ?_;rotate_left;focus (intro W hSW;(try dsimp only at hSW);go_simp;all_goals (with_reducible rfl))));try simp only [Act.put,List.setIfInBounds_toArray,List.set_cons_zero,List.set_cons_succ])
        refine plE ?_
        refine wpAnyH_ready (rs:=[10]) (by kernel_rfl) (by simp) ?_
        refine AllReadyH.cons (o:=⟨_,_,_,_,_,_⟩) rfl (fun K hK=>?_) AllReadyH.nil
        obtain ⟨W9,hW9⟩:∃ W,w9.setCell ⟨w.heap.size+3,0,none⟩ (.slice A9 (o.length+1) c9) = W:=⟨_,rfl⟩
        rw [hW9] at ip9
        have IP9:=Lib.hid ip9
        have HW9:=Lib.hid hW9
        clear hW9 ip9
        go_simp
        rw [HW9.out]
        refine hK.out _ _ (HK0.out _ IP9.out.hb IP9.out.h0) (fun hHeld=>?_)
        clear hK K
        try simp only [Act.put]
        refine wpAnyH_done (by kernel_rfl) ?_ _
        clear hHeld HK0 x9 y9 gg0 gg3 ggb
        clear a0 b0 a1 b1 a3 b3 hz hrp hrq r0
        go_wp2_with fail
        go_roundw
        case rel=>exact ⟨k+1,true,o++[(⟨qname,qkind,qinto,qslot,qmade,qsince,qgone,qprops,qkl,qkh,qcl,qch,qdl,qdh⟩:Pa)],_,_,by omega,by go_num,rfl,HNE.out.2,IP9.out⟩
        case measure=>simp [intOf];omega
    · obtain rfl:k = l.length:=by omega
      have HE:=Lib.hid (laid_end HL.out)
      have HWR0:=Lib.hid (True.intro)
      obtain ⟨a0,b0⟩:=HO.out.h0.facts
      obtain ⟨a1,b1⟩:=HO.out.h1.facts
      obtain ⟨a3,b3⟩:=HO.out.h3.facts
      have hz:=HO.out.size
      have hrp:wr.rangeAt (w.heap.size+1) 0 [.string pname,.string pkind,.string pinto,.string pslot,.int .i64 pmade,.int .i64 psince,.bool pgone,.slice Ap pprops.length mp,.int .i64 pkl,.int .i64 pkh,.int .i64 pcl,.int .i64 pch,.int .i64 pdl,.int .i64 pdh]:=has_range HO.out.h1
      cases d
      · go_wp2_with (first | ((with_reducible show wpList _ _ _ (Oper.mk (some 57) _ _ _ _ _ :: _) _ _);refine wpList_load_mid rfl 47 _ rfl (w.heap.size+1) 0 rfl _ _ hrp Tryz.underlying47 rfl rfl ?_) | ((with_reducible show wpList _ _ _ (Oper.mk (some 59) _ _ _ _ _ :: _) _ _);refine wpList_app rfl (.tmp 56) (.tmp 58) 25 rfl (w.heap.size+4) 47 ip (.agg #[.string ⟨#[]⟩,.string ⟨#[]⟩,.string ⟨#[]⟩,.string ⟨#[]⟩,.int .i64 0,.int .i64 0,.bool false,.slice none 0 0,.int .i64 0,.int .i64 0,.int .i64 0,.int .i64 0,.int .i64 0,.int .i64 0]) 14 160 Tryz.underlying25 hI.out hZ.out hq1 hq2 rfl (by decide) _ o.length css.flatten rfl (HO.out.alloc _).ho (some ⟨wr.heap.size,0,none⟩) 1 1 [.string pname,.string pkind,.string pinto,.string pslot,.int .i64 pmade,.int .i64 psince,.bool pgone,.slice Ap pprops.length mp,.int .i64 pkl,.int .i64 pkh,.int .i64 pcl,.int .i64 pch,.int .i64 pdl,.int .i64 pdh] rfl rfl (.inr ⟨_,rfl,new_src _ _ _⟩) part_one (by unfold maxLen;omega) (by omega) (by simp;omega) ?_;intro v5 w5 hown5 hg5;obtain ⟨A5,c5,hf5⟩:=own_form hown5;subst hf5;obtain ⟨_,_,_,gg5,_⟩:=(HO.out.alloc _).mid hg5;obtain ⟨x5,y5⟩:=gg5.facts;have ip5:=(HO.out.alloc _).put hg5 hown5 (paR_mk w0 pname pkind pinto pslot pmade psince pgone pprops Ap mp pkl pkh pcl pch pdl pdh HPP.out) rfl;obtain ⟨W5,hW5⟩:∃ W,w5.setCell ⟨w.heap.size+3,0,none⟩ (.slice A5 (o.length+1) c5) = W:=⟨_,rfl⟩;rw [hW5] at ip5;have HWE5:=Lib.hid hW5;have IP5:=Lib.hid ip5;clear hown5 hg5 hW5 ip5 gg5;obtain ⟨WL,hWL,hWh,hWr,hWb⟩:=IP5.out.last HB0.out;obtain ⟨n4,n5⟩:=hWh.facts;have HT7:=Lib.hid (thereH (n:=1) IP5.out.h2 (by simp));have HWL:=Lib.hid hWL;have HWR:=Lib.hid hWr;have HWB:=Lib.hid hWb;have HINV3:=Lib.hid IP5.out.h3;clear hWL hWr hWb hWh) | ((with_reducible show wpList _ _ _ (Oper.mk (some 61) _ _ _ _ _ :: _) _ _);rw [HWE5.out];refine wpList_load_mid rfl 27 _ rfl (w.heap.size+3) 0 rfl [.slice A5 (o.length+1) c5] _ (has_range HINV3.out) Tryz.underlying27 rfl rfl ?_) | ((with_reducible show wpList _ _ _ (Oper.mk none (Op.store 27 (Operand.tmp 4) _) _ _ _ _ :: _) _ _);refine wpList_store_mid rfl 27 _ _ rfl (w.heap.size+2) 0 #[.slice A5 (o.length+1) c5] rfl rfl HT7.out infoSt (oneSt ..) ?_;rw [HWL.out]))
        refine bodyPost_ret (v:=.agg #[.slice A5 (o.length+1) c5]) (by simp [results,Tryz.results79,go_sem,n4]) rfl ?_
        exact ⟨_,rfl,by rw [←HE.out];exact HWR.out,HWB.out⟩
      · obtain ⟨Ao,co,hv5⟩:=HO.out.form
        subst hv5
        obtain ⟨WL,hWL,hWh,hWr,hWb⟩:=HO.out.last HB0.out
        obtain ⟨n4,n5⟩:=hWh.facts
        have HT7:=Lib.hid (thereH (n:=1) HO.out.h2 (by simp))
        have HWL:=Lib.hid hWL
        have HWR:=Lib.hid hWr
        have HWB:=Lib.hid hWb
        have HINV3:=Lib.hid HO.out.h3
        clear hWL hWr hWb hWh
        go_wp2_with (first | ((with_reducible show wpList _ _ _ (Oper.mk (some 61) _ _ _ _ _ :: _) _ _);refine wpList_load_mid rfl 27 _ rfl (w.heap.size+3) 0 rfl [.slice Ao o.length co] _ (has_range HINV3.out) Tryz.underlying27 rfl rfl ?_) | ((with_reducible show wpList _ _ _ (Oper.mk none (Op.store 27 (Operand.tmp 4) _) _ _ _ _ :: _) _ _);refine wpList_store_mid rfl 27 _ _ rfl (w.heap.size+2) 0 #[.slice Ao o.length co] rfl rfl HT7.out infoSt (oneSt ..) ?_;rw [HWL.out]))
        refine bodyPost_ret (v:=.agg #[.slice Ao o.length co]) (by simp [results,Tryz.results79,go_sem,n4]) rfl ?_
        exact ⟨_,rfl,by rw [←HE.out];exact HWR.out,HWB.out⟩
end Go.Proofs.YtpikcofbhkbifaaGreat
