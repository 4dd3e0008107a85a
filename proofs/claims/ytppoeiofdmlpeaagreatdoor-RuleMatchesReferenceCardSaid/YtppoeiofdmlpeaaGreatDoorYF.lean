/- bogieref20.text: the reference's text of a valid condition is the program's. Condition: the condition lies in memory, and is valid. -/
import Derived.BigQuiet
import Derived.Test.YtppoeiofdmlpeaaGreatDoorU16
import Derived.Test.YtppoeiofdmlpeaaGreatDoorYA
import Derived.Test.YtppoeiofdmlpeaaGreatDoorYC
import Derived.Test.YtppoeiofdmlpeaaGreatDoorYE
namespace Go.Proofs.YtppoeiofdmlpeaaGreatDoor
open Go Go.RowKit
theorem join_snoc (sep t:List UInt8):∀ L:List (List UInt8),Lib.join (L++[t]) sep = if L = [] then t else Lib.join L sep++sep++t:=by
  intro L
  cases L with
  | nil=>rw [if_pos rfl,List.nil_append,Lib.join_one]
  | cons a r =>
    rw [if_neg (by simp),List.cons_append,Lib.join_cons,Lib.join_cons]
    unfold Lib.joinTail
    simp [List.append_assoc]
theorem joined_snoc (sep t:ByteArray) (l:List ByteArray):joined (l++[t]) sep = if l = [] then t else joined l sep++sep++t:=by
  apply ByteArray.ext
  apply Array.toList_inj.1
  unfold joined
  simp only [List.map_append,List.map_cons,List.map_nil,join_snoc]
  cases l with
  | nil=>simp
  | cons a r=>simp [ByteArray.data_append,Array.toList_append]
theorem joined_nil (sep:ByteArray):joined [] sep = e0:=rfl
/-- The text so far, with what goes ahead of the next part. -/
theorem joined_step (op:Int) (ks:List Ex) (sep:ByteArray) (k:Nat) (h:k < ks.length) :
    joined ((texs op ks).take (k+1)) sep = if k = 0 then joined ((texs op ks).take k) sep++kidT op ks[k].op (texE ks[k]) else joined ((texs op ks).take k) sep++sep++kidT op ks[k].op (texE ks[k]):=by
  rw [texs_take op ks k h,joined_snoc]
  cases k with
  | zero =>
    rw [if_pos (by simp),if_pos rfl,List.take_zero,joined_nil]
    exact (ByteArray.empty_append).symm
  | succ k =>
    rw [if_neg,if_neg (by omega)]
    have:=texs_len op ks
    intro h2
    have h3:=congrArg List.length h2
    rw [List.length_take,List.length_nil] at h3
    omega
theorem kidT_le (op kop:Int) (t:ByteArray):(kidT op kop t).size≤t.size+2:=by
  unfold kidT
  split
  · rw [ByteArray.size_append,ByteArray.size_append]
    show 1+t.size+1≤_
    omega
  · omega
theorem dec_quiet (n:Int) (h:0≤n∧n≤9999999) (w:World):Calls Tryz.prog 40 #[.int .i64 n] w fun e w'=>e = .returned (.string (itoaB n))∧w' = w :=
  (refDecimal_any n (by omega) (by omega) w).mono fun _ _ ⟨h1,h2⟩=>⟨h1,h2.symm⟩
set_option maxRecDepth 100000 in
set_option maxHeartbeats 8000000 in
theorem reftx_rec:∀ (m:Nat) (e:Ex) (kv:Value) (w:World),cnt e≤m→m≤100→allB e = true→Lay w kv e.kids →
    Calls Tryz.prog 20 #[.agg #[.int .i64 e.op,.string e.name,.string e.value,.int .i64 e.n,.int .i64 e.extra,kv]] w fun r w'=>r = .returned (.string (texE e))∧Below w.heap.size w w':=by
  intro m
  induction m with
  | zero=>intro e kv w hc;have:=cnt_pos e;omega
  | succ m ih =>
    intro e kv w hc hm ha hl
    have hlen0:=texE_len e ha
    have hab:=ha
    rw [allB_eq,Bool.and_eq_true] at hab
    obtain ⟨hnb,hkb⟩:=hab
    have hok:=node_parts hnb
    have hc2:=cnt_eq e
    have hlc:=len_cnts e.kids
    obtain ⟨op,name,value,n,extra,ks⟩:=e
    dsimp only [Ex.op,Ex.name,Ex.value,Ex.n,Ex.extra,Ex.kids] at hlen0 hnb hkb hok hc2 hlc hl ⊢
    have HKID:=Lib.hid (fun (k:Nat) (h:k < ks.length) (kv:Value) (W:World) (hl:Lay W kv ks[k].kids)=>ih ks[k] kv W (by have:=cnt_mem (List.getElem_mem h);omega) (by omega) (by rw [allsB_all] at hkb;exact List.all_eq_true.1 hkb _ (List.getElem_mem h)) hl)
    have HTL:=Lib.hid (fun (k:Nat) (h:k < ks.length)=>show (texE ks[k]).size≤50000 by have:=texE_len ks[k] (by rw [allsB_all] at hkb;exact List.all_eq_true.1 hkb _ (List.getElem_mem h));have:=cnt_mem (List.getElem_mem h);omega)
    have hkl:ks.length≤100:=by omega
    have HOK:=Lib.hid hok
    have HSZ:=Lib.hid (show (texE (.mk op name value n extra ks)).size≤100000 by omega)
    have HL:=Lib.hid hl
    obtain ⟨A,c,rfl,hcl⟩:=hl.slice
    clear hl ih hnb hkb ha hlen0 hc hc2 hlc hm hok
    obtain ⟨hop,hkn,hnm,_,hval,hnn,hxx⟩:=HOK.out
    obtain rfl | rfl | rfl | rfl | rfl | rfl | rfl | rfl | rfl | rfl | rfl | rfl:op = 1∨op = 2∨op = 3∨op = 4∨op = 5∨op = 6∨op = 7∨op = 8∨op = 9∨op = 10∨op = 11∨op = 12:=by omega
    · clear hop HOK
      clear hkn
      clear hnm
      clear hval
      clear hnn
      clear hxx
      have HX:=Lib.hid (Has.new w 24 #[.int .i64 1,.string name,.string value,.int .i64 n,.int .i64 extra,.slice A ks.length c])
      have HB:=Lib.hid (show Below w.heap.size w (w.alloc (.cells #[.int .i64 1,.string name,.string value,.int .i64 n,.int .i64 extra,.slice A ks.length c] 24)) from (Below.refl _ _).alloc (Nat.le_refl _) _)
      have hE:texE (.mk 1 name value n extra ks) = wTrue:=by rw [texE];rfl
      go_enter Tryz.func20,Tryz.ntmps20
      go_wp2_with fail
      go_ret
      exact ⟨by rw [hE];rfl,(by first | exact HB.out | exact below_drewN HB.out _)⟩
    · clear hop HOK
      clear hnm
      clear hval
      clear hnn
      clear hxx
      rw [if_pos (by omega)] at hkn
      obtain ⟨ek,rfl⟩:=one_kid hkn
      clear hkn
      have HX:=Lib.hid (Has.new w 24 #[.int .i64 2,.string name,.string value,.int .i64 n,.int .i64 extra,.slice A [ek].length c])
      have HB:=Lib.hid (show Below w.heap.size w (w.alloc (.cells #[.int .i64 2,.string name,.string value,.int .i64 n,.int .i64 extra,.slice A [ek].length c] 24)) from (Below.refl _ _).alloc (Nat.le_refl _) _)
      obtain ⟨_,_,hkid⟩:=(HL.out.later HB.out).kid
      obtain ⟨b,o,kv,rfl,hcell,hkk⟩:=hkid 0 (Nat.lt_succ_self 0)
      have HC:=Lib.hid (HKID.out 0 (Nat.lt_succ_self 0) kv)
      have htl:=HTL.out 0 (Nat.lt_succ_self 0)
      have hE:texE (.mk 2 name value n extra [ek]) = ⟨#[110,111,116,32]⟩++kidT 2 ek.op (texE ek):=by
        rw [texE,texs_cons]
        rfl
      have hc0:=hcell 0 (by decide)
      have hc1:=hcell 1 (by decide)
      have hc2:=hcell 2 (by decide)
      have hc3:=hcell 3 (by decide)
      have hc4:=hcell 4 (by decide)
      have hc5:=hcell 5 (by decide)
      simp only [exF,if_true,if_false,Nat.reduceEqDiff,Nat.add_one_ne_zero, ← Nat.add_assoc,Nat.add_zero,Nat.zero_mul,List.getElem_cons_zero] at hc0 hc1 hc2 hc3 hc4 hc5 htl HC hkk
      have HLw:=Lib.hid hkk
      obtain ⟨Ak,ck,rfl,_⟩:=hkk.slice
      obtain ⟨kop,knm,kvl,kn,kx,kks⟩:=ek
      dsimp only [Ex.op,Ex.name,Ex.value,Ex.n,Ex.extra,Ex.kids] at hc0 hc1 hc2 hc3 hc4 hc5 htl HC HLw hE
      generalize texE (.mk kop knm kvl kn kx kks) = tx at *
      have q1:¬ 9223372036854775807 < 1+tx.size:=by omega
      have q2:¬ 9223372036854775807 < 1+tx.size+1:=by omega
      have q3:¬ 9223372036854775807 < 4+tx.size:=by omega
      have q4:¬ 9223372036854775807 < 4+(1+tx.size+1):=by omega
      have hcl1:1≤c:=hcl
      clear hkid hcell hkk HKID HTL HL HSZ htl
      generalize hks:[Ex.mk kop knm kvl kn kx kks].length = one at *
      obtain rfl:one = 1:=hks.symm
      clear hks
      have hc1z:(0:Int) < ((1:Nat):Int):=by decide
      have hki:(0:Int) < 1:=by decide
      change Calls _ _ #[.agg #[.int .i64 2,.string name,.string value,.int .i64 n,.int .i64 extra,.slice (some ⟨b,o,none⟩) 1 c]] _ _
      go_enter Tryz.func20,Tryz.ntmps20
      go_wp2_with fail
      go_loopw [4,5,6] (fun _ i _ wr=>i = .int .i64 0∧wr = w.alloc (.cells #[.int .i64 2,.string name,.string value,.int .i64 n,.int .i64 extra,.slice (some ⟨b,o,none⟩) 1 c] 24)) (fun _ _ _ _=>1)
      case atStart=>exact ⟨rfl,rfl⟩
      case round =>
        obtain ⟨rfl,rfl⟩:=hrel
        by_cases hk3:kop = 3
        · subst hk3
          have HT:=Lib.hid (show kidT 2 3 tx = (⟨#[40]⟩:ByteArray)++tx++⟨#[41]⟩ from if_pos ⟨.inl rfl,by decide⟩)
          go_wp2_with (go_at_call 20;refine (HC.out _ HLw.out).mono ?_;rintro e w2 ⟨rfl,hb2⟩;have HX2:=Lib.hid (HX.out.below hb2 HX.out.lt);have HB2:=Lib.hid (HB.out.trans (hb2.mono HB.out.size));obtain ⟨d2,f2⟩:=HX2.out.facts;have hk0:=cell_later hb2 hc0;have hk1:=cell_later hb2 hc1;have hk2:=cell_later hb2 hc2;have hk3:=cell_later hb2 hc3;have hk4:=cell_later hb2 hc4;have hk5:=cell_later hb2 hc5;clear hb2)
          go_ret
          exact ⟨by rw [hE,HT.out];rfl,HB2.out⟩
        · have e3:(kop == 3) = false:=by rw [beq_eq_false_iff_ne];exact hk3
          by_cases hk4:kop = 4
          · subst hk4
            have HT:=Lib.hid (show kidT 2 4 tx = (⟨#[40]⟩:ByteArray)++tx++⟨#[41]⟩ from if_pos ⟨.inr rfl,by decide⟩)
            go_wp2_with (go_at_call 20;refine (HC.out _ HLw.out).mono ?_;rintro e w2 ⟨rfl,hb2⟩;have HX2:=Lib.hid (HX.out.below hb2 HX.out.lt);have HB2:=Lib.hid (HB.out.trans (hb2.mono HB.out.size));obtain ⟨d2,f2⟩:=HX2.out.facts;have hk0:=cell_later hb2 hc0;have hk1:=cell_later hb2 hc1;have hk2:=cell_later hb2 hc2;have hk3:=cell_later hb2 hc3;have hk4:=cell_later hb2 hc4;have hk5:=cell_later hb2 hc5;clear hb2)
            go_ret
            exact ⟨by rw [hE,HT.out];rfl,HB2.out⟩
          · have e4:(kop == 4) = false:=by rw [beq_eq_false_iff_ne];exact hk4
            have HT:=Lib.hid (show kidT 2 kop tx = tx from if_neg (fun h=>h.1.elim hk3 hk4))
            go_wp2_with (go_at_call 20;refine (HC.out _ HLw.out).mono ?_;rintro e w2 ⟨rfl,hb2⟩;have HX2:=Lib.hid (HX.out.below hb2 HX.out.lt);have HB2:=Lib.hid (HB.out.trans (hb2.mono HB.out.size));obtain ⟨d2,f2⟩:=HX2.out.facts;have hk0:=cell_later hb2 hc0;have hk1:=cell_later hb2 hc1;have hk2:=cell_later hb2 hc2;have hk3:=cell_later hb2 hc3;have hk4:=cell_later hb2 hc4;have hk5:=cell_later hb2 hc5;clear hb2)
            go_ret
            exact ⟨by rw [hE,HT.out];rfl,HB2.out⟩
    · clear hop HOK
      clear hnm
      clear hval
      clear hnn
      clear hxx
      have HX:=Lib.hid (Has.new w 24 #[.int .i64 3,.string name,.string value,.int .i64 n,.int .i64 extra,.slice A ks.length c])
      have HB:=Lib.hid (show Below w.heap.size w (w.alloc (.cells #[.int .i64 3,.string name,.string value,.int .i64 n,.int .i64 extra,.slice A ks.length c] 24)) from (Below.refl _ _).alloc (Nat.le_refl _) _)
      have HL1:=Lib.hid (HL.out.later HB.out)
      have hE:texE (.mk 3 name value n extra ks) = joined (texs 3 ks) sAnd:=by rw [texE];rfl
      have HE:=Lib.hid hE
      clear hkn hE HL HSZ
      go_enter Tryz.func20,Tryz.ntmps20
      go_wp2_with fail
      go_loopw [4,5,6] (fun s i _ wr=>∃ k:Nat,i = .int .i64 k∧s = .string (joined ((texs 3 ks).take k) sAnd)∧k≤ks.length∧Hid ((joined ((texs 3 ks).take k) sAnd).size≤k*60000)∧Hid (Has wr w.heap.size 24 #[.int .i64 3,.string name,.string value,.int .i64 n,.int .i64 extra,.slice A ks.length c])∧Hid (Below w.heap.size w wr)∧Hid (Lay wr (.slice A ks.length c) ks)) (fun _ i _ _=>ks.length - (intOf i).toNat)
      case atStart=>exact ⟨0,rfl,rfl,Nat.zero_le _,Nat.le_refl _,HX.out,HB.out,HL1.out⟩
      case round =>
        obtain ⟨k,rfl,rfl,hk,HZ,HXr,HBr,HLr⟩:=hrel
        clear HX HB HL1
        obtain ⟨d,f⟩:=HXr.out.facts
        by_cases hlt:k < ks.length
        · have hki:(k:Int) < (ks.length:Int):=by omega
          have HJ:=Lib.hid (joined_step 3 ks sAnd k hlt)
          have htl:=HTL.out k hlt
          obtain ⟨_,_,hkid⟩:=HLr.out.kid
          obtain ⟨b,o,kv,rfl,hcell,hkk⟩:=hkid k hlt
          have hc0:=hcell 0 (by decide)
          have hc1:=hcell 1 (by decide)
          have hc2:=hcell 2 (by decide)
          have hc3:=hcell 3 (by decide)
          have hc4:=hcell 4 (by decide)
          have hc5:=hcell 5 (by decide)
          simp only [exF,if_true,if_false,Nat.reduceEqDiff,Nat.add_one_ne_zero, ← Nat.add_assoc,Nat.add_zero] at hc0 hc1 hc2 hc3 hc4 hc5
          have HC:=Lib.hid (HKID.out k hlt kv)
          have hs3:IntKind.i64.wrap ((k:Int)+1) = (k:Int)+1:=IntWalk.i64_in _ (by omega)
          have HLw:=Lib.hid hkk
          obtain ⟨Ak,ck,rfl,_⟩:=hkk.slice
          clear hkid hcell HKID HTL
          have hz:=HZ.out
          generalize joined ((texs 3 ks).take k) sAnd = sj at *
          generalize ks[k] = ke at *
          obtain ⟨kop,knm,kvl,kn,kx,kks⟩:=ke
          dsimp only [Ex.op,Ex.name,Ex.value,Ex.n,Ex.extra,Ex.kids] at *
          generalize texE (.mk kop knm kvl kn kx kks) = tx at *
          have hkt:=kidT_le 3 kop tx
          have q1:¬ 9223372036854775807 < 1+tx.size:=by omega
          have q2:¬ 9223372036854775807 < 1+tx.size+1:=by omega
          have q3:¬ 9223372036854775807 < sj.size+5:=by omega
          have q4:¬ 9223372036854775807 < sj.size+tx.size:=by omega
          have q5:¬ 9223372036854775807 < sj.size+5+tx.size:=by omega
          have q6:¬ 9223372036854775807 < sj.size+(1+tx.size+1):=by omega
          have q7:¬ 9223372036854775807 < sj.size+5+(1+tx.size+1):=by omega
          by_cases hk3:kop = 3
          · subst hk3
            have HT:=Lib.hid (show kidT 3 3 tx = (⟨#[40]⟩:ByteArray)++tx++⟨#[41]⟩ from if_pos ⟨.inl rfl,by decide⟩)
            by_cases hk0:k = 0
            · have HJ2:=Lib.hid (show joined ((texs 3 ks).take (k+1)) sAnd = sj++((⟨#[40]⟩:ByteArray)++tx++⟨#[41]⟩) by rw [HJ.out,HT.out,if_pos hk0])
              have hk0b:¬ (0:Int) < (k:Int):=by omega
              have HZ2:=Lib.hid (show (joined ((texs 3 ks).take (k+1)) sAnd).size≤(k+1)*60000 by rw [HJ.out,if_pos hk0];rw [ByteArray.size_append];omega)
              clear HJ HT hkt hk0
              go_wp2_with (go_at_call 20;refine (HC.out _ HLw.out).mono ?_;rintro e w2 ⟨rfl,hb2⟩;have HX2:=Lib.hid (HXr.out.below hb2 HXr.out.lt);have HB2:=Lib.hid (HBr.out.trans (hb2.mono HBr.out.size));obtain ⟨d2,f2⟩:=HX2.out.facts;have hk0:=cell_later hb2 hc0;have hk1:=cell_later hb2 hc1;have hk2:=cell_later hb2 hc2;have hk3:=cell_later hb2 hc3;have hk4:=cell_later hb2 hc4;have hk5:=cell_later hb2 hc5;have HQ:=Lib.hid hb2;clear hb2)
              go_roundw
              case rel=>exact ⟨k+1,by go_num,by rw [HJ2.out],hlt,HZ2,HX2,HB2,HLr.out.later HQ.out⟩
              case measure=>simp [intOf];omega
            · have HJ2:=Lib.hid (show joined ((texs 3 ks).take (k+1)) sAnd = sj++⟨#[32,97,110,100,32]⟩++((⟨#[40]⟩:ByteArray)++tx++⟨#[41]⟩) by rw [HJ.out,HT.out,if_neg hk0];rfl)
              have hk0b:(0:Int) < (k:Int):=by omega
              have HZ2:=Lib.hid (show (joined ((texs 3 ks).take (k+1)) sAnd).size≤(k+1)*60000 by rw [HJ.out,if_neg hk0];rw [ByteArray.size_append,ByteArray.size_append,show (sAnd:ByteArray).size = 5 from rfl];omega)
              clear HJ HT hkt hk0
              go_wp2_with (go_at_call 20;refine (HC.out _ HLw.out).mono ?_;rintro e w2 ⟨rfl,hb2⟩;have HX2:=Lib.hid (HXr.out.below hb2 HXr.out.lt);have HB2:=Lib.hid (HBr.out.trans (hb2.mono HBr.out.size));obtain ⟨d2,f2⟩:=HX2.out.facts;have hk0:=cell_later hb2 hc0;have hk1:=cell_later hb2 hc1;have hk2:=cell_later hb2 hc2;have hk3:=cell_later hb2 hc3;have hk4:=cell_later hb2 hc4;have hk5:=cell_later hb2 hc5;have HQ:=Lib.hid hb2;clear hb2)
              go_roundw
              case rel=>exact ⟨k+1,by go_num,by rw [HJ2.out],hlt,HZ2,HX2,HB2,HLr.out.later HQ.out⟩
              case measure=>simp [intOf];omega
          · have e3:(kop == 3) = false:=by rw [beq_eq_false_iff_ne];exact hk3
            by_cases hk4:kop = 4
            · subst hk4
              have HT:=Lib.hid (show kidT 3 4 tx = (⟨#[40]⟩:ByteArray)++tx++⟨#[41]⟩ from if_pos ⟨.inr rfl,by decide⟩)
              by_cases hk0:k = 0
              · have HJ2:=Lib.hid (show joined ((texs 3 ks).take (k+1)) sAnd = sj++((⟨#[40]⟩:ByteArray)++tx++⟨#[41]⟩) by rw [HJ.out,HT.out,if_pos hk0])
                have hk0b:¬ (0:Int) < (k:Int):=by omega
                have HZ2:=Lib.hid (show (joined ((texs 3 ks).take (k+1)) sAnd).size≤(k+1)*60000 by rw [HJ.out,if_pos hk0];rw [ByteArray.size_append];omega)
                clear HJ HT hkt hk0
                go_wp2_with (go_at_call 20;refine (HC.out _ HLw.out).mono ?_;rintro e w2 ⟨rfl,hb2⟩;have HX2:=Lib.hid (HXr.out.below hb2 HXr.out.lt);have HB2:=Lib.hid (HBr.out.trans (hb2.mono HBr.out.size));obtain ⟨d2,f2⟩:=HX2.out.facts;have hk0:=cell_later hb2 hc0;have hk1:=cell_later hb2 hc1;have hk2:=cell_later hb2 hc2;have hk3:=cell_later hb2 hc3;have hk4:=cell_later hb2 hc4;have hk5:=cell_later hb2 hc5;have HQ:=Lib.hid hb2;clear hb2)
                go_roundw
                case rel=>exact ⟨k+1,by go_num,by rw [HJ2.out],hlt,HZ2,HX2,HB2,HLr.out.later HQ.out⟩
                case measure=>simp [intOf];omega
              · have HJ2:=Lib.hid (show joined ((texs 3 ks).take (k+1)) sAnd = sj++⟨#[32,97,110,100,32]⟩++((⟨#[40]⟩:ByteArray)++tx++⟨#[41]⟩) by rw [HJ.out,HT.out,if_neg hk0];rfl)
                have hk0b:(0:Int) < (k:Int):=by omega
                have HZ2:=Lib.hid (show (joined ((texs 3 ks).take (k+1)) sAnd).size≤(k+1)*60000 by rw [HJ.out,if_neg hk0];rw [ByteArray.size_append,ByteArray.size_append,show (sAnd:ByteArray).size = 5 from rfl];omega)
                clear HJ HT hkt hk0
                go_wp2_with (go_at_call 20;refine (HC.out _ HLw.out).mono ?_;rintro e w2 ⟨rfl,hb2⟩;have HX2:=Lib.hid (HXr.out.below hb2 HXr.out.lt);have HB2:=Lib.hid (HBr.out.trans (hb2.mono HBr.out.size));obtain ⟨d2,f2⟩:=HX2.out.facts;have hk0:=cell_later hb2 hc0;have hk1:=cell_later hb2 hc1;have hk2:=cell_later hb2 hc2;have hk3:=cell_later hb2 hc3;have hk4:=cell_later hb2 hc4;have hk5:=cell_later hb2 hc5;have HQ:=Lib.hid hb2;clear hb2)
                go_roundw
                case rel=>exact ⟨k+1,by go_num,by rw [HJ2.out],hlt,HZ2,HX2,HB2,HLr.out.later HQ.out⟩
                case measure=>simp [intOf];omega
            · have e4:(kop == 4) = false:=by rw [beq_eq_false_iff_ne];exact hk4
              have HT:=Lib.hid (show kidT 3 kop tx = tx from if_neg (fun h=>h.1.elim hk3 hk4))
              by_cases hk0:k = 0
              · have HJ2:=Lib.hid (show joined ((texs 3 ks).take (k+1)) sAnd = sj++tx by rw [HJ.out,HT.out,if_pos hk0])
                have hk0b:¬ (0:Int) < (k:Int):=by omega
                have HZ2:=Lib.hid (show (joined ((texs 3 ks).take (k+1)) sAnd).size≤(k+1)*60000 by rw [HJ.out,if_pos hk0];rw [ByteArray.size_append];omega)
                clear HJ HT hkt hk0
                go_wp2_with (go_at_call 20;refine (HC.out _ HLw.out).mono ?_;rintro e w2 ⟨rfl,hb2⟩;have HX2:=Lib.hid (HXr.out.below hb2 HXr.out.lt);have HB2:=Lib.hid (HBr.out.trans (hb2.mono HBr.out.size));obtain ⟨d2,f2⟩:=HX2.out.facts;have hk0:=cell_later hb2 hc0;have hk1:=cell_later hb2 hc1;have hk2:=cell_later hb2 hc2;have hk3:=cell_later hb2 hc3;have hk4:=cell_later hb2 hc4;have hk5:=cell_later hb2 hc5;have HQ:=Lib.hid hb2;clear hb2)
                go_roundw
                case rel=>exact ⟨k+1,by go_num,by rw [HJ2.out],hlt,HZ2,HX2,HB2,HLr.out.later HQ.out⟩
                case measure=>simp [intOf];omega
              · have HJ2:=Lib.hid (show joined ((texs 3 ks).take (k+1)) sAnd = sj++⟨#[32,97,110,100,32]⟩++tx by rw [HJ.out,HT.out,if_neg hk0];rfl)
                have hk0b:(0:Int) < (k:Int):=by omega
                have HZ2:=Lib.hid (show (joined ((texs 3 ks).take (k+1)) sAnd).size≤(k+1)*60000 by rw [HJ.out,if_neg hk0];rw [ByteArray.size_append,ByteArray.size_append,show (sAnd:ByteArray).size = 5 from rfl];omega)
                clear HJ HT hkt hk0
                go_wp2_with (go_at_call 20;refine (HC.out _ HLw.out).mono ?_;rintro e w2 ⟨rfl,hb2⟩;have HX2:=Lib.hid (HXr.out.below hb2 HXr.out.lt);have HB2:=Lib.hid (HBr.out.trans (hb2.mono HBr.out.size));obtain ⟨d2,f2⟩:=HX2.out.facts;have hk0:=cell_later hb2 hc0;have hk1:=cell_later hb2 hc1;have hk2:=cell_later hb2 hc2;have hk3:=cell_later hb2 hc3;have hk4:=cell_later hb2 hc4;have hk5:=cell_later hb2 hc5;have HQ:=Lib.hid hb2;clear hb2)
                go_roundw
                case rel=>exact ⟨k+1,by go_num,by rw [HJ2.out],hlt,HZ2,HX2,HB2,HLr.out.later HQ.out⟩
                case measure=>simp [intOf];omega
        · have hki:¬ (k:Int) < (ks.length:Int):=by omega
          go_wp2_with fail
          go_ret
          exact ⟨by rw [HE.out,List.take_of_length_le (by rw [texs_len];omega)];rfl,HBr.out⟩
    · clear hop HOK
      clear hnm
      clear hval
      clear hnn
      clear hxx
      have HX:=Lib.hid (Has.new w 24 #[.int .i64 4,.string name,.string value,.int .i64 n,.int .i64 extra,.slice A ks.length c])
      have HB:=Lib.hid (show Below w.heap.size w (w.alloc (.cells #[.int .i64 4,.string name,.string value,.int .i64 n,.int .i64 extra,.slice A ks.length c] 24)) from (Below.refl _ _).alloc (Nat.le_refl _) _)
      have HL1:=Lib.hid (HL.out.later HB.out)
      have hE:texE (.mk 4 name value n extra ks) = joined (texs 4 ks) sOr:=by rw [texE];rfl
      have HE:=Lib.hid hE
      clear hkn hE HL HSZ
      go_enter Tryz.func20,Tryz.ntmps20
      go_wp2_with fail
      go_loopw [4,5,6] (fun s i _ wr=>∃ k:Nat,i = .int .i64 k∧s = .string (joined ((texs 4 ks).take k) sOr)∧k≤ks.length∧Hid ((joined ((texs 4 ks).take k) sOr).size≤k*60000)∧Hid (Has wr w.heap.size 24 #[.int .i64 4,.string name,.string value,.int .i64 n,.int .i64 extra,.slice A ks.length c])∧Hid (Below w.heap.size w wr)∧Hid (Lay wr (.slice A ks.length c) ks)) (fun _ i _ _=>ks.length - (intOf i).toNat)
      case atStart=>exact ⟨0,rfl,rfl,Nat.zero_le _,Nat.le_refl _,HX.out,HB.out,HL1.out⟩
      case round =>
        obtain ⟨k,rfl,rfl,hk,HZ,HXr,HBr,HLr⟩:=hrel
        clear HX HB HL1
        obtain ⟨d,f⟩:=HXr.out.facts
        by_cases hlt:k < ks.length
        · have hki:(k:Int) < (ks.length:Int):=by omega
          have HJ:=Lib.hid (joined_step 4 ks sOr k hlt)
          have htl:=HTL.out k hlt
          obtain ⟨_,_,hkid⟩:=HLr.out.kid
          obtain ⟨b,o,kv,rfl,hcell,hkk⟩:=hkid k hlt
          have hc0:=hcell 0 (by decide)
          have hc1:=hcell 1 (by decide)
          have hc2:=hcell 2 (by decide)
          have hc3:=hcell 3 (by decide)
          have hc4:=hcell 4 (by decide)
          have hc5:=hcell 5 (by decide)
          simp only [exF,if_true,if_false,Nat.reduceEqDiff,Nat.add_one_ne_zero, ← Nat.add_assoc,Nat.add_zero] at hc0 hc1 hc2 hc3 hc4 hc5
          have HC:=Lib.hid (HKID.out k hlt kv)
          have hs3:IntKind.i64.wrap ((k:Int)+1) = (k:Int)+1:=IntWalk.i64_in _ (by omega)
          have HLw:=Lib.hid hkk
          obtain ⟨Ak,ck,rfl,_⟩:=hkk.slice
          clear hkid hcell HKID HTL
          have hz:=HZ.out
          generalize joined ((texs 4 ks).take k) sOr = sj at *
          generalize ks[k] = ke at *
          obtain ⟨kop,knm,kvl,kn,kx,kks⟩:=ke
          dsimp only [Ex.op,Ex.name,Ex.value,Ex.n,Ex.extra,Ex.kids] at *
          generalize texE (.mk kop knm kvl kn kx kks) = tx at *
          have hkt:=kidT_le 4 kop tx
          have q1:¬ 9223372036854775807 < 1+tx.size:=by omega
          have q2:¬ 9223372036854775807 < 1+tx.size+1:=by omega
          have q3:¬ 9223372036854775807 < sj.size+4:=by omega
          have q4:¬ 9223372036854775807 < sj.size+tx.size:=by omega
          have q5:¬ 9223372036854775807 < sj.size+4+tx.size:=by omega
          have q6:¬ 9223372036854775807 < sj.size+(1+tx.size+1):=by omega
          have q7:¬ 9223372036854775807 < sj.size+4+(1+tx.size+1):=by omega
          by_cases hk3:kop = 3
          · subst hk3
            have HT:=Lib.hid (show kidT 4 3 tx = (⟨#[40]⟩:ByteArray)++tx++⟨#[41]⟩ from if_pos ⟨.inl rfl,by decide⟩)
            by_cases hk0:k = 0
            · have HJ2:=Lib.hid (show joined ((texs 4 ks).take (k+1)) sOr = sj++((⟨#[40]⟩:ByteArray)++tx++⟨#[41]⟩) by rw [HJ.out,HT.out,if_pos hk0])
              have hk0b:¬ (0:Int) < (k:Int):=by omega
              have HZ2:=Lib.hid (show (joined ((texs 4 ks).take (k+1)) sOr).size≤(k+1)*60000 by rw [HJ.out,if_pos hk0];rw [ByteArray.size_append];omega)
              clear HJ HT hkt hk0
              go_wp2_with (go_at_call 20;refine (HC.out _ HLw.out).mono ?_;rintro e w2 ⟨rfl,hb2⟩;have HX2:=Lib.hid (HXr.out.below hb2 HXr.out.lt);have HB2:=Lib.hid (HBr.out.trans (hb2.mono HBr.out.size));obtain ⟨d2,f2⟩:=HX2.out.facts;have hk0:=cell_later hb2 hc0;have hk1:=cell_later hb2 hc1;have hk2:=cell_later hb2 hc2;have hk3:=cell_later hb2 hc3;have hk4:=cell_later hb2 hc4;have hk5:=cell_later hb2 hc5;have HQ:=Lib.hid hb2;clear hb2)
              go_roundw
              case rel=>exact ⟨k+1,by go_num,by rw [HJ2.out],hlt,HZ2,HX2,HB2,HLr.out.later HQ.out⟩
              case measure=>simp [intOf];omega
            · have HJ2:=Lib.hid (show joined ((texs 4 ks).take (k+1)) sOr = sj++⟨#[32,111,114,32]⟩++((⟨#[40]⟩:ByteArray)++tx++⟨#[41]⟩) by rw [HJ.out,HT.out,if_neg hk0];rfl)
              have hk0b:(0:Int) < (k:Int):=by omega
              have HZ2:=Lib.hid (show (joined ((texs 4 ks).take (k+1)) sOr).size≤(k+1)*60000 by rw [HJ.out,if_neg hk0];rw [ByteArray.size_append,ByteArray.size_append,show (sOr:ByteArray).size = 4 from rfl];omega)
              clear HJ HT hkt hk0
              go_wp2_with (go_at_call 20;refine (HC.out _ HLw.out).mono ?_;rintro e w2 ⟨rfl,hb2⟩;have HX2:=Lib.hid (HXr.out.below hb2 HXr.out.lt);have HB2:=Lib.hid (HBr.out.trans (hb2.mono HBr.out.size));obtain ⟨d2,f2⟩:=HX2.out.facts;have hk0:=cell_later hb2 hc0;have hk1:=cell_later hb2 hc1;have hk2:=cell_later hb2 hc2;have hk3:=cell_later hb2 hc3;have hk4:=cell_later hb2 hc4;have hk5:=cell_later hb2 hc5;have HQ:=Lib.hid hb2;clear hb2)
              go_roundw
              case rel=>exact ⟨k+1,by go_num,by rw [HJ2.out],hlt,HZ2,HX2,HB2,HLr.out.later HQ.out⟩
              case measure=>simp [intOf];omega
          · have e3:(kop == 3) = false:=by rw [beq_eq_false_iff_ne];exact hk3
            by_cases hk4:kop = 4
            · subst hk4
              have HT:=Lib.hid (show kidT 4 4 tx = (⟨#[40]⟩:ByteArray)++tx++⟨#[41]⟩ from if_pos ⟨.inr rfl,by decide⟩)
              by_cases hk0:k = 0
              · have HJ2:=Lib.hid (show joined ((texs 4 ks).take (k+1)) sOr = sj++((⟨#[40]⟩:ByteArray)++tx++⟨#[41]⟩) by rw [HJ.out,HT.out,if_pos hk0])
                have hk0b:¬ (0:Int) < (k:Int):=by omega
                have HZ2:=Lib.hid (show (joined ((texs 4 ks).take (k+1)) sOr).size≤(k+1)*60000 by rw [HJ.out,if_pos hk0];rw [ByteArray.size_append];omega)
                clear HJ HT hkt hk0
                go_wp2_with (go_at_call 20;refine (HC.out _ HLw.out).mono ?_;rintro e w2 ⟨rfl,hb2⟩;have HX2:=Lib.hid (HXr.out.below hb2 HXr.out.lt);have HB2:=Lib.hid (HBr.out.trans (hb2.mono HBr.out.size));obtain ⟨d2,f2⟩:=HX2.out.facts;have hk0:=cell_later hb2 hc0;have hk1:=cell_later hb2 hc1;have hk2:=cell_later hb2 hc2;have hk3:=cell_later hb2 hc3;have hk4:=cell_later hb2 hc4;have hk5:=cell_later hb2 hc5;have HQ:=Lib.hid hb2;clear hb2)
                go_roundw
                case rel=>exact ⟨k+1,by go_num,by rw [HJ2.out],hlt,HZ2,HX2,HB2,HLr.out.later HQ.out⟩
                case measure=>simp [intOf];omega
              · have HJ2:=Lib.hid (show joined ((texs 4 ks).take (k+1)) sOr = sj++⟨#[32,111,114,32]⟩++((⟨#[40]⟩:ByteArray)++tx++⟨#[41]⟩) by rw [HJ.out,HT.out,if_neg hk0];rfl)
                have hk0b:(0:Int) < (k:Int):=by omega
                have HZ2:=Lib.hid (show (joined ((texs 4 ks).take (k+1)) sOr).size≤(k+1)*60000 by rw [HJ.out,if_neg hk0];rw [ByteArray.size_append,ByteArray.size_append,show (sOr:ByteArray).size = 4 from rfl];omega)
                clear HJ HT hkt hk0
                go_wp2_with (go_at_call 20;refine (HC.out _ HLw.out).mono ?_;rintro e w2 ⟨rfl,hb2⟩;have HX2:=Lib.hid (HXr.out.below hb2 HXr.out.lt);have HB2:=Lib.hid (HBr.out.trans (hb2.mono HBr.out.size));obtain ⟨d2,f2⟩:=HX2.out.facts;have hk0:=cell_later hb2 hc0;have hk1:=cell_later hb2 hc1;have hk2:=cell_later hb2 hc2;have hk3:=cell_later hb2 hc3;have hk4:=cell_later hb2 hc4;have hk5:=cell_later hb2 hc5;have HQ:=Lib.hid hb2;clear hb2)
                go_roundw
                case rel=>exact ⟨k+1,by go_num,by rw [HJ2.out],hlt,HZ2,HX2,HB2,HLr.out.later HQ.out⟩
                case measure=>simp [intOf];omega
            · have e4:(kop == 4) = false:=by rw [beq_eq_false_iff_ne];exact hk4
              have HT:=Lib.hid (show kidT 4 kop tx = tx from if_neg (fun h=>h.1.elim hk3 hk4))
              by_cases hk0:k = 0
              · have HJ2:=Lib.hid (show joined ((texs 4 ks).take (k+1)) sOr = sj++tx by rw [HJ.out,HT.out,if_pos hk0])
                have hk0b:¬ (0:Int) < (k:Int):=by omega
                have HZ2:=Lib.hid (show (joined ((texs 4 ks).take (k+1)) sOr).size≤(k+1)*60000 by rw [HJ.out,if_pos hk0];rw [ByteArray.size_append];omega)
                clear HJ HT hkt hk0
                go_wp2_with (go_at_call 20;refine (HC.out _ HLw.out).mono ?_;rintro e w2 ⟨rfl,hb2⟩;have HX2:=Lib.hid (HXr.out.below hb2 HXr.out.lt);have HB2:=Lib.hid (HBr.out.trans (hb2.mono HBr.out.size));obtain ⟨d2,f2⟩:=HX2.out.facts;have hk0:=cell_later hb2 hc0;have hk1:=cell_later hb2 hc1;have hk2:=cell_later hb2 hc2;have hk3:=cell_later hb2 hc3;have hk4:=cell_later hb2 hc4;have hk5:=cell_later hb2 hc5;have HQ:=Lib.hid hb2;clear hb2)
                go_roundw
                case rel=>exact ⟨k+1,by go_num,by rw [HJ2.out],hlt,HZ2,HX2,HB2,HLr.out.later HQ.out⟩
                case measure=>simp [intOf];omega
              · have HJ2:=Lib.hid (show joined ((texs 4 ks).take (k+1)) sOr = sj++⟨#[32,111,114,32]⟩++tx by rw [HJ.out,HT.out,if_neg hk0];rfl)
                have hk0b:(0:Int) < (k:Int):=by omega
                have HZ2:=Lib.hid (show (joined ((texs 4 ks).take (k+1)) sOr).size≤(k+1)*60000 by rw [HJ.out,if_neg hk0];rw [ByteArray.size_append,ByteArray.size_append,show (sOr:ByteArray).size = 4 from rfl];omega)
                clear HJ HT hkt hk0
                go_wp2_with (go_at_call 20;refine (HC.out _ HLw.out).mono ?_;rintro e w2 ⟨rfl,hb2⟩;have HX2:=Lib.hid (HXr.out.below hb2 HXr.out.lt);have HB2:=Lib.hid (HBr.out.trans (hb2.mono HBr.out.size));obtain ⟨d2,f2⟩:=HX2.out.facts;have hk0:=cell_later hb2 hc0;have hk1:=cell_later hb2 hc1;have hk2:=cell_later hb2 hc2;have hk3:=cell_later hb2 hc3;have hk4:=cell_later hb2 hc4;have hk5:=cell_later hb2 hc5;have HQ:=Lib.hid hb2;clear hb2)
                go_roundw
                case rel=>exact ⟨k+1,by go_num,by rw [HJ2.out],hlt,HZ2,HX2,HB2,HLr.out.later HQ.out⟩
                case measure=>simp [intOf];omega
        · have hki:¬ (k:Int) < (ks.length:Int):=by omega
          go_wp2_with fail
          go_ret
          exact ⟨by rw [HE.out,List.take_of_length_le (by rw [texs_len];omega)];rfl,HBr.out⟩
    · clear hop HOK
      clear hkn
      rw [if_neg (by omega)] at hnm
      clear hval
      rw [if_pos (by omega)] at hnn
      rw [if_pos (by omega)] at hxx
      have HX:=Lib.hid (Has.new w 24 #[.int .i64 5,.string name,.string value,.int .i64 n,.int .i64 extra,.slice A ks.length c])
      have HB:=Lib.hid (show Below w.heap.size w (w.alloc (.cells #[.int .i64 5,.string name,.string value,.int .i64 n,.int .i64 extra,.slice A ks.length c] 24)) from (Below.refl _ _).alloc (Nat.le_refl _) _)
      have hnl:name.size≤24:=name_le hnm
      have hi1:=itoa_len hnn.1 hnn.2
      have hi2:=itoa_len hxx.1 hxx.2
      have m1:¬ 9223372036854775807 < 6+name.size:=by omega
      have m2:¬ 9223372036854775807 < 6+name.size+1:=by omega
      have m3:¬ 9223372036854775807 < 6+name.size+1+(itoaB n).size:=by omega
      have m4:¬ 9223372036854775807 < 6+name.size+1+(itoaB n).size+6:=by omega
      have m5:¬ 9223372036854775807 < 6+name.size+1+(itoaB n).size+6+(itoaB extra).size:=by omega
      by_cases hx0:extra = 0
      · subst hx0
        have hE:texE (.mk 5 name value n 0 ks) = ⟨#[108,105,109,105,116,32]⟩++name++⟨#[32]⟩++itoaB n:=by rw [texE];rfl
        go_enter Tryz.func20,Tryz.ntmps20
        go_wp2_with fail
        go_quiet ((go_at_call 40;exact Calls.quiet_of_same (dec_quiet _ hnn _)))
        go_wp2_with fail
        go_ret
        exact ⟨by rw [hE];rfl,(by first | exact (Below.refl _ _).alloc (Nat.le_refl _) _ | exact below_drewN HB.out _)⟩
      · have hxb:(extra != 0) = true:=by simpa using hx0
        have hE:texE (.mk 5 name value n extra ks) = ⟨#[108,105,109,105,116,32]⟩++name++⟨#[32]⟩++itoaB n++⟨#[32,112,108,117,115,32]⟩++itoaB extra:=by
          rw [texE]
          show sLimit++name++sSpace++(if 0 < extra then itoaB n++(sPlus++itoaB extra) else itoaB n) = _
          rw [if_pos (by omega), ← ByteArray.append_assoc, ← ByteArray.append_assoc]
          rfl
        go_enter Tryz.func20,Tryz.ntmps20
        go_wp2_with fail
        go_quiet ((go_at_call 40;exact Calls.quiet_of_same (dec_quiet _ hnn _)))
        go_wp2_with (go_at_call 40;refine (dec_quiet extra hxx _).mono ?_;rintro e w2 ⟨rfl,rfl⟩)
        go_ret
        exact ⟨by rw [hE];rfl,(by first | exact HB.out | exact below_drewN HB.out _)⟩
    · clear hop HOK
      clear hkn
      rw [if_neg (by omega)] at hnm
      clear hval
      rw [if_pos (by omega)] at hnn
      clear hxx
      have HX:=Lib.hid (Has.new w 24 #[.int .i64 6,.string name,.string value,.int .i64 n,.int .i64 extra,.slice A ks.length c])
      have HB:=Lib.hid (show Below w.heap.size w (w.alloc (.cells #[.int .i64 6,.string name,.string value,.int .i64 n,.int .i64 extra,.slice A ks.length c] 24)) from (Below.refl _ _).alloc (Nat.le_refl _) _)
      have hnl:name.size≤24:=name_le hnm
      have hE:texE (.mk 6 name value n extra ks) = ⟨#[111,118,101,114,32]⟩++name++⟨#[32]⟩++itoaB n:=by rw [texE];rfl
      have hi1:=itoa_len hnn.1 hnn.2
      have m1:¬ 9223372036854775807 < 5+name.size:=by omega
      have m2:¬ 9223372036854775807 < 5+name.size+1:=by omega
      have m3:¬ 9223372036854775807 < 5+name.size+1+(itoaB n).size:=by omega
      go_enter Tryz.func20,Tryz.ntmps20
      go_wp2_with fail
      go_quiet ((go_at_call 40;exact Calls.quiet_of_same (dec_quiet _ hnn _)))
      go_wp2_with fail
      go_ret
      exact ⟨by rw [hE];rfl,(by first | exact HB.out | exact below_drewN HB.out _)⟩
    · clear hop HOK
      clear hkn
      rw [if_neg (by omega)] at hnm
      rw [if_pos (by omega)] at hval
      clear hnn
      clear hxx
      have HX:=Lib.hid (Has.new w 24 #[.int .i64 7,.string name,.string value,.int .i64 n,.int .i64 extra,.slice A ks.length c])
      have HB:=Lib.hid (show Below w.heap.size w (w.alloc (.cells #[.int .i64 7,.string name,.string value,.int .i64 n,.int .i64 extra,.slice A ks.length c] 24)) from (Below.refl _ _).alloc (Nat.le_refl _) _)
      have hnl:name.size≤24:=name_le hnm
      have hvl:value.size≤200:=hval.2
      have hE:texE (.mk 7 name value n extra ks) = name++⟨#[32,61,32]⟩++quoteB value:=by rw [texE];rfl
      have hql:=quote_size value
      have m1:¬ 9223372036854775807 < name.size+3:=by omega
      have m2:¬ 9223372036854775807 < name.size+3+(quoteB value).size:=by omega
      go_enter Tryz.func20,Tryz.ntmps20
      go_wp2_with fail
      go_quiet ((go_at_call 41;exact Calls.quiet_of_same (refQuote_any value _ (by omega))))
      go_wp2_with fail
      go_ret
      exact ⟨by rw [hE];rfl,(by first | exact HB.out | exact below_drewN HB.out _)⟩
    · clear hop HOK
      clear hkn
      rw [if_neg (by omega)] at hnm
      clear hval
      clear hnn
      clear hxx
      have HX:=Lib.hid (Has.new w 24 #[.int .i64 8,.string name,.string value,.int .i64 n,.int .i64 extra,.slice A ks.length c])
      have HB:=Lib.hid (show Below w.heap.size w (w.alloc (.cells #[.int .i64 8,.string name,.string value,.int .i64 n,.int .i64 extra,.slice A ks.length c] 24)) from (Below.refl _ _).alloc (Nat.le_refl _) _)
      have hnl:name.size≤24:=name_le hnm
      have hE:texE (.mk 8 name value n extra ks) = ⟨#[104,97,115,32]⟩++name:=by rw [texE];rfl
      have m1:¬ 9223372036854775807 < 4+name.size:=by omega
      go_enter Tryz.func20,Tryz.ntmps20
      go_wp2_with fail
      go_ret
      exact ⟨by rw [hE];rfl,(by first | exact HB.out | exact below_drewN HB.out _)⟩
    · clear hop HOK
      clear hkn
      rw [if_neg (by omega)] at hnm
      rw [if_neg (by omega),if_pos (by omega)] at hval
      clear hnn
      clear hxx
      have HX:=Lib.hid (Has.new w 24 #[.int .i64 9,.string name,.string value,.int .i64 n,.int .i64 extra,.slice A ks.length c])
      have HB:=Lib.hid (show Below w.heap.size w (w.alloc (.cells #[.int .i64 9,.string name,.string value,.int .i64 n,.int .i64 extra,.slice A ks.length c] 24)) from (Below.refl _ _).alloc (Nat.le_refl _) _)
      have hnl:name.size≤24:=name_le hnm
      have hvl:value.size≤24:=name_le hval
      have hE:texE (.mk 9 name value n extra ks) = ⟨#[115,108,111,116,32]⟩++name++⟨#[32,105,115,32]⟩++value:=by rw [texE];rfl
      have m1:¬ 9223372036854775807 < 5+name.size:=by omega
      have m2:¬ 9223372036854775807 < 5+name.size+4:=by omega
      have m3:¬ 9223372036854775807 < 5+name.size+4+value.size:=by omega
      go_enter Tryz.func20,Tryz.ntmps20
      go_wp2_with fail
      go_ret
      exact ⟨by rw [hE];rfl,(by first | exact HB.out | exact below_drewN HB.out _)⟩
    · clear hop HOK
      rw [if_neg (by omega)] at hnm
      clear hval
      clear hnn
      clear hxx
      have hnl:name.size≤24:=name_le hnm
      rw [if_pos (by omega)] at hkn
      obtain ⟨ek,rfl⟩:=one_kid hkn
      clear hkn
      have HB:=Lib.hid (show Below w.heap.size w (w.alloc (.cells #[.int .i64 10,.string name,.string value,.int .i64 n,.int .i64 extra,.slice A [ek].length c] 24)) from (Below.refl _ _).alloc (Nat.le_refl _) _)
      have HX:=Lib.hid (Has.new w 24 #[.int .i64 10,.string name,.string value,.int .i64 n,.int .i64 extra,.slice A [ek].length c])
      obtain ⟨_,_,hkid⟩:=(HL.out.later HB.out).kid
      obtain ⟨kb,ko,kv,rfl,hcell,hkk⟩:=hkid 0 (Nat.lt_succ_self 0)
      have HC:=Lib.hid (HKID.out 0 (Nat.lt_succ_self 0) kv)
      have htl:=HTL.out 0 (Nat.lt_succ_self 0)
      have hE:texE (.mk 10 name value n extra [ek]) = ⟨#[97,108,108,32]⟩++name++⟨#[32,40]⟩++texE ek++⟨#[41]⟩:=by
        rw [texE,texs_cons]
        show sAll++name++sOpen++kidT 10 ek.op (texE ek)++wShut = _
        unfold kidT
        rw [if_neg (fun h=>absurd h.2 (by decide))]
        rfl
      have hc0:=hcell 0 (by decide)
      have hc1:=hcell 1 (by decide)
      have hc2:=hcell 2 (by decide)
      have hc3:=hcell 3 (by decide)
      have hc4:=hcell 4 (by decide)
      have hc5:=hcell 5 (by decide)
      simp only [exF,if_true,if_false,Nat.reduceEqDiff,Nat.add_one_ne_zero, ← Nat.add_assoc,Nat.add_zero,Nat.zero_mul,List.getElem_cons_zero] at hc0 hc1 hc2 hc3 hc4 hc5 htl HC hkk
      have HKK:=Lib.hid hkk
      obtain ⟨Ak,ck,rfl,_⟩:=hkk.slice
      generalize texE ek = tk at *
      have m1:¬ 9223372036854775807 < 4+name.size:=by omega
      have m2:¬ 9223372036854775807 < 4+name.size+2:=by omega
      have m3:¬ 9223372036854775807 < 4+name.size+2+tk.size:=by omega
      have m4:¬ 9223372036854775807 < 4+name.size+2+tk.size+1:=by omega
      have hcl1:1≤c:=hcl
      clear hkid hcell hkk HKID HTL HL HSZ htl
      change Calls _ _ #[.agg #[.int .i64 10,.string name,.string value,.int .i64 n,.int .i64 extra,.slice (some ⟨kb,ko,none⟩) 1 c]] _ _
      go_enter Tryz.func20,Tryz.ntmps20
      go_wp2_with fail
      refine wp_region_held_drew (S:=fun W=>W.cell? ⟨w.heap.size,1,none⟩ = some (.string name)∧W.cell? ⟨w.heap.size,5,none⟩ = some (.slice (some ⟨kb,ko,none⟩) 1 c)∧W.cell? ⟨kb,ko,none⟩ = some (.int .i64 ek.op)∧W.cell? ⟨kb,ko+1,none⟩ = some (.string ek.name)∧W.cell? ⟨kb,ko+2,none⟩ = some (.string ek.value)∧W.cell? ⟨kb,ko+3,none⟩ = some (.int .i64 ek.n)∧W.cell? ⟨kb,ko+4,none⟩ = some (.int .i64 ek.extra)∧W.cell? ⟨kb,ko+5,none⟩ = some (.slice Ak ek.kids.length ck)) (by kernel_rfl) (⟨HX.out.drew.cell 1,HX.out.drew.cell 5,hc0,hc1,hc2,hc3,hc4,hc5⟩) (fun hHeld=>?_)
      refine plI [(0,false),(1,false),(2,false),(3,false),(4,false),(5,false),(6,false),(7,false)] ?_
      repeat ((first | ((with_reducible show Plan ((_,true) :: _) _);refine plF ?_) | (refine plR (v:=?_) ?_ ?_;rotate_left;focus (intro W hSW;(try dsimp only at hSW);go_simp;all_goals (with_reducible rfl))));try simp only [Act.put,List.setIfInBounds_toArray,List.set_cons_zero,List.set_cons_succ])
      refine plE ?_
      refine wpAnyH_ready (rs:=[8]) (by kernel_rfl) (by simp) ?_
      refine AllReadyH.cons (o:=⟨_,_,_,_,_,_⟩) rfl (fun K hK=>?_) AllReadyH.nil
      go_simp
      go_at_call 20;refine (HC.out _ (HKK.out.keeps (KeepsC.refl _).drew)).mono ?_;rintro e w4 ⟨rfl,hb4⟩;have HX4:=Lib.hid (HX.out.drew.below hb4 HX.out.drew.lt);have HB4:=Lib.hid (HB.out.drew.trans (hb4.mono HB.out.drew.size));have hq:=Lib.hid hb4;clear hb4
      refine hK.out _ _ (⟨HX4.out.cell 1,HX4.out.cell 5,cell_later hq.out hc0,cell_later hq.out hc1,cell_later hq.out hc2,cell_later hq.out hc3,cell_later hq.out hc4,cell_later hq.out hc5⟩) (fun hHeld=>?_)
      clear hK K
      try simp only [Act.put,List.setIfInBounds_toArray,List.set_cons_zero,List.set_cons_succ]
      refine plI [(9,false),(10,false),(11,false)] ?_
      repeat ((first | ((with_reducible show Plan ((_,true) :: _) _);refine plF ?_) | (refine plR (v:=?_) ?_ ?_;rotate_left;focus (intro W hSW;(try dsimp only at hSW);go_simp;all_goals (with_reducible rfl))));try simp only [Act.put,List.setIfInBounds_toArray,List.set_cons_zero,List.set_cons_succ])
      refine plE ?_
      refine wpAnyH_done (by kernel_rfl) ?_ _
      clear hHeld
      go_wp2_with fail
      go_ret
      exact ⟨by rw [hE];rfl,HB4.out⟩
    · clear hop HOK
      rw [if_neg (by omega)] at hnm
      clear hval
      clear hnn
      clear hxx
      have hnl:name.size≤24:=name_le hnm
      rw [if_pos (by omega)] at hkn
      obtain ⟨ek,rfl⟩:=one_kid hkn
      clear hkn
      have HB:=Lib.hid (show Below w.heap.size w (w.alloc (.cells #[.int .i64 11,.string name,.string value,.int .i64 n,.int .i64 extra,.slice A [ek].length c] 24)) from (Below.refl _ _).alloc (Nat.le_refl _) _)
      have HX:=Lib.hid (Has.new w 24 #[.int .i64 11,.string name,.string value,.int .i64 n,.int .i64 extra,.slice A [ek].length c])
      obtain ⟨_,_,hkid⟩:=(HL.out.later HB.out).kid
      obtain ⟨kb,ko,kv,rfl,hcell,hkk⟩:=hkid 0 (Nat.lt_succ_self 0)
      have HC:=Lib.hid (HKID.out 0 (Nat.lt_succ_self 0) kv)
      have htl:=HTL.out 0 (Nat.lt_succ_self 0)
      have hE:texE (.mk 11 name value n extra [ek]) = ⟨#[97,110,121,32]⟩++name++⟨#[32,40]⟩++texE ek++⟨#[41]⟩:=by
        rw [texE,texs_cons]
        show sAny++name++sOpen++kidT 11 ek.op (texE ek)++wShut = _
        unfold kidT
        rw [if_neg (fun h=>absurd h.2 (by decide))]
        rfl
      have hc0:=hcell 0 (by decide)
      have hc1:=hcell 1 (by decide)
      have hc2:=hcell 2 (by decide)
      have hc3:=hcell 3 (by decide)
      have hc4:=hcell 4 (by decide)
      have hc5:=hcell 5 (by decide)
      simp only [exF,if_true,if_false,Nat.reduceEqDiff,Nat.add_one_ne_zero, ← Nat.add_assoc,Nat.add_zero,Nat.zero_mul,List.getElem_cons_zero] at hc0 hc1 hc2 hc3 hc4 hc5 htl HC hkk
      have HKK:=Lib.hid hkk
      obtain ⟨Ak,ck,rfl,_⟩:=hkk.slice
      generalize texE ek = tk at *
      have m1:¬ 9223372036854775807 < 4+name.size:=by omega
      have m2:¬ 9223372036854775807 < 4+name.size+2:=by omega
      have m3:¬ 9223372036854775807 < 4+name.size+2+tk.size:=by omega
      have m4:¬ 9223372036854775807 < 4+name.size+2+tk.size+1:=by omega
      have hcl1:1≤c:=hcl
      clear hkid hcell hkk HKID HTL HL HSZ htl
      change Calls _ _ #[.agg #[.int .i64 11,.string name,.string value,.int .i64 n,.int .i64 extra,.slice (some ⟨kb,ko,none⟩) 1 c]] _ _
      go_enter Tryz.func20,Tryz.ntmps20
      go_wp2_with fail
      refine wp_region_held_drew (S:=fun W=>W.cell? ⟨w.heap.size,1,none⟩ = some (.string name)∧W.cell? ⟨w.heap.size,5,none⟩ = some (.slice (some ⟨kb,ko,none⟩) 1 c)∧W.cell? ⟨kb,ko,none⟩ = some (.int .i64 ek.op)∧W.cell? ⟨kb,ko+1,none⟩ = some (.string ek.name)∧W.cell? ⟨kb,ko+2,none⟩ = some (.string ek.value)∧W.cell? ⟨kb,ko+3,none⟩ = some (.int .i64 ek.n)∧W.cell? ⟨kb,ko+4,none⟩ = some (.int .i64 ek.extra)∧W.cell? ⟨kb,ko+5,none⟩ = some (.slice Ak ek.kids.length ck)) (by kernel_rfl) (⟨HX.out.drew.cell 1,HX.out.drew.cell 5,hc0,hc1,hc2,hc3,hc4,hc5⟩) (fun hHeld=>?_)
      refine plI [(0,false),(1,false),(2,false),(3,false),(4,false),(5,false),(6,false),(7,false)] ?_
      repeat ((first | ((with_reducible show Plan ((_,true) :: _) _);refine plF ?_) | (refine plR (v:=?_) ?_ ?_;rotate_left;focus (intro W hSW;(try dsimp only at hSW);go_simp;all_goals (with_reducible rfl))));try simp only [Act.put,List.setIfInBounds_toArray,List.set_cons_zero,List.set_cons_succ])
      refine plE ?_
      refine wpAnyH_ready (rs:=[8]) (by kernel_rfl) (by simp) ?_
      refine AllReadyH.cons (o:=⟨_,_,_,_,_,_⟩) rfl (fun K hK=>?_) AllReadyH.nil
      go_simp
      go_at_call 20;refine (HC.out _ (HKK.out.keeps (KeepsC.refl _).drew)).mono ?_;rintro e w4 ⟨rfl,hb4⟩;have HX4:=Lib.hid (HX.out.drew.below hb4 HX.out.drew.lt);have HB4:=Lib.hid (HB.out.drew.trans (hb4.mono HB.out.drew.size));have hq:=Lib.hid hb4;clear hb4
      refine hK.out _ _ (⟨HX4.out.cell 1,HX4.out.cell 5,cell_later hq.out hc0,cell_later hq.out hc1,cell_later hq.out hc2,cell_later hq.out hc3,cell_later hq.out hc4,cell_later hq.out hc5⟩) (fun hHeld=>?_)
      clear hK K
      try simp only [Act.put,List.setIfInBounds_toArray,List.set_cons_zero,List.set_cons_succ]
      refine plI [(9,false),(10,false),(11,false)] ?_
      repeat ((first | ((with_reducible show Plan ((_,true) :: _) _);refine plF ?_) | (refine plR (v:=?_) ?_ ?_;rotate_left;focus (intro W hSW;(try dsimp only at hSW);go_simp;all_goals (with_reducible rfl))));try simp only [Act.put,List.setIfInBounds_toArray,List.set_cons_zero,List.set_cons_succ])
      refine plE ?_
      refine wpAnyH_done (by kernel_rfl) ?_ _
      clear hHeld
      go_wp2_with fail
      go_ret
      exact ⟨by rw [hE];rfl,HB4.out⟩
    · clear hop HOK
      clear hkn
      rw [if_neg (by omega)] at hnm
      clear hval
      rw [if_neg (by omega),if_pos (by omega)] at hnn
      clear hxx
      have HX:=Lib.hid (Has.new w 24 #[.int .i64 12,.string name,.string value,.int .i64 n,.int .i64 extra,.slice A ks.length c])
      have HB:=Lib.hid (show Below w.heap.size w (w.alloc (.cells #[.int .i64 12,.string name,.string value,.int .i64 n,.int .i64 extra,.slice A ks.length c] 24)) from (Below.refl _ _).alloc (Nat.le_refl _) _)
      have hnl:name.size≤24:=name_le hnm
      have hE:texE (.mk 12 name value n extra ks) = ⟨#[97,116,32,108,101,97,115,116,32]⟩++itoaB n++⟨#[32]⟩++name:=by rw [texE];rfl
      have hi1:=itoa_len (show 0≤n by omega) hnn.2
      have m1:¬ 9223372036854775807 < 9+(itoaB n).size:=by omega
      have m2:¬ 9223372036854775807 < 9+(itoaB n).size+1:=by omega
      have m3:¬ 9223372036854775807 < 9+(itoaB n).size+1+name.size:=by omega
      go_enter Tryz.func20,Tryz.ntmps20
      go_wp2_with fail
      go_quiet ((go_at_call 40;exact Calls.quiet_of_same (dec_quiet _ ⟨by omega,hnn.2⟩ _)))
      go_wp2_with fail
      go_ret
      exact ⟨by rw [hE];rfl,(by first | exact HB.out | exact below_drewN HB.out _)⟩
end Go.Proofs.YtppoeiofdmlpeaaGreatDoor
