/- bogieref05.has and gap: the gaps between tokens. Condition: the text is not too long. bogieref05.str: the string that begins at an offset. Condition: the text is not too long. bogieref05.next: the token that begins at an offset. Condition: the text is not too long. -/
import Derived.Lib.IndexBytes
import Derived.Test.YtppoeiofdmlpeaaGreatDoorU02
import Derived.Test.YtppoeiofdmlpeaaGreatDoorU03
import Derived.Test.YtppoeiofdmlpeaaGreatDoorYA
namespace Go.Proofs.YtppoeiofdmlpeaaGreatDoor
open Go Go.RowKit
theorem app_data (a b:ByteArray):(a++b).data.toList = a.data.toList++b.data.toList:=by
  rw [ByteArray.data_append,Array.toList_append]
def byteIn (s:ByteArray) (c:Nat):Bool:=s.data.toList.any fun b=>decide (b.toNat = c)
theorem byteIn_yes {s:ByteArray} {c k:Nat} (hk:k < s.size) (h:byteAt s k = c):byteIn s c = true:=by
  unfold byteIn
  rw [List.any_eq_true]
  have hk2:k < s.data.toList.length:=hk
  refine ⟨s.data.toList[k],List.getElem_mem hk2,decide_eq_true ?_⟩
  unfold byteAt at h
  rw [List.getD_eq_getElem?_getD,List.getElem?_eq_getElem hk2] at h
  exact h
theorem byteIn_no {s:ByteArray} {c:Nat} (h:∀ j,j < s.size→byteAt s j ≠ c):byteIn s c = false:=by
  unfold byteIn
  rw [List.any_eq_false]
  intro b hb hd
  obtain ⟨i,hi,rfl⟩:=List.getElem_of_mem hb
  refine h i hi ?_
  unfold byteAt
  rw [List.getD_eq_getElem?_getD,List.getElem?_eq_getElem hi]
  exact of_decide_eq_true hd
set_option maxRecDepth 100000 in
set_option maxHeartbeats 2000000 in
theorem rhas_any (s:ByteArray) (c:Nat) (w:World) (hs:s.size≤1000) (_hc:c < 256) :
    Calls Tryz.prog 76 #[.string s,.int .u8 c] w fun e w'=>e = .returned (.bool (byteIn s c))∧w' = w:=by
  go_enter Tryz.func76,Tryz.ntmps76
  go_wp2_with fail
  go_loopw [5] (fun i wr=>∃ k:Nat,k≤s.size∧i = .int .i64 k∧Hid (∀ j,j < k→byteAt s j ≠ c)∧wr = w) (fun i _=>s.size - (intOf i).toNat)
  case atStart=>exact ⟨0,Nat.zero_le _,rfl,fun j hj=>absurd hj (Nat.not_lt_zero _),rfl⟩
  case round =>
    obtain ⟨k,hk,rfl,hrel,rfl⟩:=hrel
    by_cases hlt:k < s.size
    · have hby:=byteAt_eq s k hlt
      by_cases he:s[k].toNat = c
      · have HY:=Lib.hid (byteIn_yes hlt (hby.trans he))
        have hbb:((s[k].toNat:Int) == (c:Int)) = true:=by rw [beq_iff_eq];omega
        clear hby he
        go_wp2_with fail
        go_ret
        exact ⟨ret_bool (by rw [HY.out]),rfl⟩
      · have HN:Hid (∀ j,j < k+1→byteAt s j ≠ c):=fun j hj=>by
          rcases Nat.lt_or_ge j k with h1 | h1
          · exact hrel.out j h1
          · obtain rfl:j = k:=by omega
            rw [hby];exact he
        have hbb:((s[k].toNat:Int) == (c:Int)) = false:=by rw [beq_eq_false_iff_ne];omega
        clear hby he
        go_wp2_with fail
        go_roundw
        case rel=>exact ⟨k+1,by omega,by go_num,HN.out,by first | rfl | trivial⟩
        case measure=>simp [intOf];omega
    · have HN:=Lib.hid (byteIn_no (s:=s) (c:=c) fun j hj=>hrel.out j (by omega))
      go_wp2_with fail
      go_ret
      exact ⟨ret_bool (by rw [HN.out]),rfl⟩
theorem cls_blank (c:Nat) (h:c < 256):byteIn ⟨#[32,9,10]⟩ c = decide (cls c = 1):=by
  have:∀ c:Fin 256,byteIn ⟨#[32,9,10]⟩ c.val = decide (cls c.val = 1):=by decide +kernel
  exact this ⟨c,h⟩
theorem cls_sym (c:Nat) (h:c < 256):byteIn ⟨#[59,44,46,58,40,41,123,125,91,93,61,60,62,47,43,45,42]⟩ c = decide (cls c = 6):=by
  have:∀ c:Fin 256,byteIn ⟨#[59,44,46,58,40,41,123,125,91,93,61,60,62,47,43,45,42]⟩ c.val = decide (cls c.val = 6):=by decide +kernel
  exact this ⟨c,h⟩
theorem cls_hash (c:Nat):cls c = 2 ↔ c = 35:=by
  unfold cls cls0
  constructor
  · intro h
    repeat' split at h
    all_goals first | omega | (exfalso;revert h;decide)
  · intro h;subst h;decide
theorem cls_quote (c:Nat):cls c = 7 ↔ c = 34:=by
  unfold cls cls0
  constructor
  · intro h
    repeat' split at h
    all_goals first | omega | (exfalso;revert h;decide)
  · intro h;subst h;decide
/-- From offset i on there are the tokens that there are from offset j on. -/
def GapTo (s:ByteArray) (i j:Nat):Prop:=i≤j∧∀ n,s.size < n+i→∃ m,s.size < m+j∧lexGo s n i = lexGo s m j
theorem GapTo.refl (s:ByteArray) (i:Nat):GapTo s i i:=⟨Nat.le_refl _,fun n h=>⟨n,h,rfl⟩⟩
theorem GapTo.trans {s:ByteArray} {i j k:Nat} (h:GapTo s i j) (h':GapTo s j k):GapTo s i k :=
  ⟨Nat.le_trans h.1 h'.1,fun n hn=>by
    obtain ⟨m,hm,e⟩:=h.2 n hn
    obtain ⟨q,hq,e2⟩:=h'.2 m hm
    exact ⟨q,hq,e.trans e2⟩⟩
theorem GapTo.blank {s:ByteArray} {i:Nat} (hi:i < s.size) (h:clsAt s i = 1):GapTo s i (i+1) :=
  ⟨Nat.le_succ _,fun n hn=>by
    obtain ⟨m,rfl⟩:∃ m,n = m+1:=⟨n - 1,by omega⟩
    exact ⟨m,by omega,by rw [lexGo_succ,if_neg (by omega),if_pos h]⟩⟩
theorem GapTo.hash {s:ByteArray} {i:Nat} (hi:i < s.size) (h:clsAt s i = 2) (he:i+1≤hashEnd s i):GapTo s i (hashEnd s i) :=
  ⟨by omega,fun n hn=>by
    obtain ⟨m,rfl⟩:∃ m,n = m+1:=⟨n - 1,by omega⟩
    exact ⟨m,by omega,by rw [lexGo_succ,if_neg (by omega),if_neg (by omega),if_pos h]⟩⟩
set_option maxRecDepth 100000 in
set_option maxHeartbeats 4000000 in
theorem gap_any (s:ByteArray) (i:Nat) (w:World) (hs:s.size≤1000000) (hi:i≤s.size) :
    Calls Tryz.prog 48 #[.string s,.int .i64 i] w fun e w'=>∃ j:Nat,e = .returned (.int .i64 j)∧w' = w∧GapTo s i j∧j≤s.size∧(j < s.size→clsAt s j ≠ 1∧clsAt s j ≠ 2):=by
  go_enter Tryz.func48,Tryz.ntmps48
  go_wp2_with fail
  go_loopw [1] (fun i' wr=>∃ k:Nat,k≤s.size∧i' = .int .i64 k∧Hid (GapTo s i k)∧Hid (wr = w)) (fun i' _=>s.size - (intOf i').toNat)
  case atStart=>exact ⟨i,hi,rfl,GapTo.refl s i,rfl⟩
  case round =>
    obtain ⟨k,hk,rfl,hrel,HWW⟩:=hrel
    by_cases hlt:k < s.size
    · have hki:(k:Int) < (s.size:Int):=by omega
      have hby:=byteAt_eq s k hlt
      have hb8:=UInt8.toNat_lt s[k]
      have hcl:=class_eq hlt
      rw [hby] at hcl
      have HAS:=Lib.hid (fun W=>rhas_any ⟨#[32,9,10]⟩ s[k].toNat W (by decide) hb8)
      rw [cls_blank _ hb8] at HAS
      by_cases h1:cls s[k].toNat = 1
      · have HG:=Lib.hid (hrel.out.trans (GapTo.blank hlt (hcl.trans h1)))
        rw [decide_eq_true h1] at HAS
        clear h1 hcl hby
        go_wp2_with (go_at_call 76;refine (HAS.out _).mono ?_;rintro e w1 ⟨rfl,h⟩;obtain rfl:=h.symm)
        go_roundw
        case rel=>exact ⟨k+1,by omega,by go_num,HG.out,HWW.out⟩
        case measure=>simp [intOf];omega
      · rw [decide_eq_false h1] at HAS
        by_cases h2:s[k].toNat = 35
        · have hc2:clsAt s k = 2:=by rw [hcl,h2];decide
          have H2:=Lib.hid hc2
          have hp:hashP s k = true:=by unfold hashP;rw [hby,h2,Bool.and_eq_true];exact ⟨decide_eq_true hlt,by decide⟩
          have HP:=Lib.hid hp
          have hrel_1:=hrel.out
          have HREL:=Lib.hid hrel_1
          rw [h2] at HAS
          clear hrel_1 hrel hc2 hp h1 hcl hby
          go_wp2_with (go_at_call 76;refine (HAS.out _).mono ?_;rintro e w1 ⟨rfl,h⟩;obtain rfl:=h.symm)
          go_loopw [1] (fun i' wr=>∃ j:Nat,k≤j∧j≤s.size∧i' = .int .i64 j∧Hid (∀ q,k≤q→q < j→hashP s q = true)∧Hid (wr = w)) (fun i' _=>s.size - (intOf i').toNat)
          case atStart=>exact ⟨k,Nat.le_refl _,by omega,rfl,fun q h1 h2=>absurd h2 (by omega),HWW.out⟩
          case round =>
            obtain ⟨j,hkj,hj,rfl,hq,HWV⟩:=hrel
            by_cases hjl:j < s.size
            · have hji:(j:Int) < (s.size:Int):=by omega
              have hbj:=byteAt_eq s j hjl
              by_cases h10:s[j].toNat = 10
              · have he:hashP s j = false:=by unfold hashP;rw [hbj,h10];simp
                have hne:k ≠ j:=by rintro rfl;have h9:=HP.out;rw [he] at h9;cases h9
                have hE:=hash_end hkj hj hq.out he
                have HG:=Lib.hid (HREL.out.trans (GapTo.hash hlt H2.out (by rw [hE];omega)))
                rw [hE] at HG
                have hkj2:k < j:=by omega
                clear hbj he hne hE
                go_wp2_with fail
                go_roundw
                case rel=>exact ⟨j,by omega,rfl,HG.out,HWV.out⟩
                case measure=>simp [intOf];omega
              · have HQ:=Lib.hid (upto_next hq.out (show hashP s j = true by unfold hashP;rw [hbj,Bool.and_eq_true];exact ⟨decide_eq_true hjl,by rw [bne_iff_ne];exact h10⟩))
                clear hbj
                go_wp2_with fail
                go_roundw
                case rel=>exact ⟨j+1,by omega,by omega,by go_num,HQ.out,HWV.out⟩
                case measure=>simp [intOf];omega
            · have hje:j = s.size:=by omega
              have he:hashP s j = false:=by unfold hashP;rw [decide_eq_false (by omega)];rfl
              have hne:k ≠ j:=by omega
              have hE:=hash_end hkj hj hq.out he
              have HG:=Lib.hid (HREL.out.trans (GapTo.hash hlt H2.out (by rw [hE];omega)))
              rw [hE] at HG
              have hkj2:k < j:=by omega
              have hji:¬ (j:Int) < (s.size:Int):=by omega
              clear he hne hE hje
              go_wp2_with fail
              go_roundw
              case rel=>exact ⟨j,by omega,rfl,HG.out,HWV.out⟩
              case measure=>simp [intOf];omega
        · have HC:=Lib.hid (show clsAt s k ≠ 1∧clsAt s k ≠ 2 from ⟨by rw [hcl];exact h1,by rw [hcl,Ne,cls_hash];exact h2⟩)
          have HR:=Lib.hid hrel.out
          clear h1 hcl hby hrel
          go_wp2_with (go_at_call 76;refine (HAS.out _).mono ?_;rintro e w1 ⟨rfl,h⟩;obtain rfl:=h.symm)
          go_ret
          exact ⟨k,rfl,HWW.out,HR.out,hk,fun _=>HC.out⟩
    · have HR:=Lib.hid hrel.out
      have hki:¬ (k:Int) < (s.size:Int):=by omega
      go_wp2_with fail
      go_ret
      exact ⟨k,rfl,HWW.out,HR.out,hk,fun h=>absurd h hlt⟩
end Go.Proofs.YtppoeiofdmlpeaaGreatDoor
namespace Go.Proofs.YtppoeiofdmlpeaaGreatDoor
open Go Go.RowKit
theorem cut_data (s:ByteArray) (a:Nat):(cut s a s.size).data.toList = s.data.toList.drop a:=Lib.extract_to_end s a
theorem byte_cut (s:ByteArray) (a j:Nat):byteAt (cut s a s.size) j = byteAt s (a+j):=by
  unfold byteAt
  rw [cut_data,List.getD_eq_getElem?_getD,List.getElem?_drop, ← List.getD_eq_getElem?_getD]
theorem cutEnd_len (s:ByteArray) (a:Nat):(cut s a s.size).size = s.size - a:=by
  rw [size_of (cut_data s a),List.length_drop];rfl
theorem one_data (s:ByteArray) {k:Nat} (h:k < s.size):(s.extract k (k+1)).data.toList = [s[k]]:=by
  rw [Lib.extract_data,show k+1 - k = 1 by omega]
  have h2:k < s.data.toList.length:=h
  rw [List.drop_eq_getElem_cons h2]
  rfl
theorem app_one (o s:ByteArray) {k:Nat} (h:k < s.size):(o++s.extract k (k+1)).data.toList = o.data.toList++[s[k]]:=by
  rw [app_data,one_data s h]
theorem one_size (s:ByteArray) (k:Nat):((s.extract k (k+1)).size:Int)≤8388608:=by
  rw [ByteArray.size_extract];omega
theorem app_size {o s:ByteArray} {k q:Nat} (h:o.size≤q):(o++s.extract k (k+1)).size≤q+1:=by
  rw [ByteArray.size_append,ByteArray.size_extract];omega
theorem hasE (c:Nat) (h:c < 256):byteIn ⟨#[92,34,110]⟩ c = (escB c).isSome:=by
  have:∀ c:Fin 256,byteIn ⟨#[92,34,110]⟩ c.val = (escB c.val).isSome:=by decide +kernel
  exact this ⟨c,h⟩
theorem mk_toList (o:ByteArray):(⟨o.data.toList.toArray⟩:ByteArray) = o:=by cases o;rfl
def strEnd (a:Nat):Option (List UInt8 × Nat)→Value
  | none=>.tuple #[.string ⟨#[]⟩,.int .i64 0,.bool false]
  | some (l,m)=>.tuple #[.string ⟨l.toArray⟩,.int .i64 ((a+m:Nat):Int),.bool true]
theorem strEnd_some {a:Nat} {b:ByteArray} {m:Nat} {q:Int} (h:q = ((a+m:Nat):Int)):strEnd a (some (b.data.toList,m)) = .tuple #[.string b,.int .i64 q,.bool true]:=by
  rw [h]
  show Value.tuple #[.string ⟨b.data.toList.toArray⟩,_,_] = _
  rw [mk_toList]
set_option maxRecDepth 100000 in
set_option maxHeartbeats 8000000 in
theorem str_any (s:ByteArray) (a:Nat) (w:World) (hs:s.size≤1000000) (ha:a < s.size) :
    Calls Tryz.prog 78 #[.string s,.int .i64 a] w fun e w'=>w' = w∧e = .returned (strEnd a (unqL (cut s a s.size))):=by
  have hcl:=cutEnd_len s a
  have hcb:=byte_cut s a
  generalize hct:cut s a s.size = t at *
  clear hct
  generalize hU:unqL t = U
  have HU0:=Lib.hid hU
  clear hU
  go_enter Tryz.func78,Tryz.ntmps78
  go_wp2_with fail
  go_loopw [7,8] (fun o i wr=>∃ (q k n:Nat) (b:ByteArray),o = .string b∧i = .int .i64 q∧Hid (q = a+k)∧Hid (U = unqGo t n k b.data.toList)∧Hid (t.size < n+k)∧q≤s.size+1∧b.size≤q∧Hid (wr = w)) (fun _ i _=>s.size+1 - (intOf i).toNat)
  case atStart=>exact ⟨a+1,1,t.size,⟨#[]⟩,rfl,by go_num,rfl,HU0.out.symm,(by show t.size < t.size+1;omega),by omega,Nat.zero_le _,rfl⟩
  case round =>
    obtain ⟨q,k,n,b,rfl,rfl,HQ,HS0,HN,hq1,hbq,HWW⟩:=hrel
    have hbz:(b.size:Int)≤8388608:=by omega
    have HBQ:=Lib.hid hbq
    have hqk:=HQ.out
    have hn:=HN.out
    by_cases hlt:q < s.size
    · obtain ⟨m,rfl⟩:∃ m,n = m+1:=⟨n - 1,by omega⟩
      have hki:(q:Int) < (s.size:Int):=by omega
      have hb8:=UInt8.toNat_lt s[q]
      have hby:=byteAt_eq s q hlt
      have HS:=Lib.hid (HS0.out.trans (unqGo_succ t m k b.data.toList))
      clear HS0
      rw [if_neg (show ¬ t.size≤k by omega),hcb k, ← hqk,hby] at HS
      have HM:Hid (t.size < m+(k+1)):=by show t.size < m+(k+1);omega
      have HM2:Hid (t.size < m+(k+2)):=by show t.size < m+(k+2);omega
      have HQ1:Hid (q+1 = a+(k+1)):=by show q+1 = a+(k+1);omega
      have HQ2:Hid (q+2 = a+(k+2)):=by show q+2 = a+(k+2);omega
      have HT:Hid (t.size≤k+1 ↔ s.size≤q+1):=by show t.size≤k+1 ↔ s.size≤q+1;omega
      have HK1:=Lib.hid (show byteAt t (k+1) = byteAt s (q+1) by rw [hcb,HQ1.out])
      by_cases e1:s[q].toNat = 34
      · have HE:=Lib.hid (show U = some (b.data.toList,k+1) by rw [HS.out,if_pos e1])
        have HP:=Lib.hid (show ((q:Int)+1) = ((a+(k+1):Nat):Int) by omega)
        clear HS hby hqk hn
        go_wp2_with fail
        refine bodyPost_ret (v:=.tuple #[.string b,.int .i64 ((q:Int)+1),.bool true]) (by simp [results,Tryz.results78,go_sem]) rfl ?_
        exact ⟨HWW.out,by rw [HE.out,strEnd_some HP.out]⟩
      · by_cases e2:s[q].toNat = 10
        · have HE:=Lib.hid (show U = none by rw [HS.out,if_neg e1,if_pos e2])
          clear HS hby hqk hn
          go_wp2_with fail
          refine bodyPost_ret (v:=.tuple #[.string ⟨#[]⟩,.int .i64 0,.bool false]) (by simp [results,Tryz.results78,go_sem]) rfl ?_
          exact ⟨HWW.out,by rw [HE.out];rfl⟩
        · by_cases e3:s[q].toNat = 92
          · rw [if_neg e1,if_neg e2,if_pos e3] at HS
            by_cases hl1:q+1 < s.size
            · have hki1:(q:Int)+1 < (s.size:Int):=by omega
              have hb81:=UInt8.toNat_lt s[q+1]
              have hby1:=byteAt_eq s (q+1) hl1
              rw [if_neg (show ¬ t.size≤k+1 by rw [HT.out];omega),HK1.out,hby1] at HS
              have HAS:=Lib.hid (fun W=>rhas_any ⟨#[92,34,110]⟩ s[q+1].toNat W (by decide) hb81)
              rw [hasE _ hb81] at HAS
              have hez:=one_size s (q+1)
              clear hby hby1 hqk hn
              by_cases f:s[q+1].toNat = 92
              · have HS2:=Lib.hid (show U = unqGo t m (k+2) (b.data.toList++[s[q+1]]) by rw [HS.out,f,show s[q+1] = (92:UInt8) from UInt8.toNat_inj.1 f];rfl)
                rw [f,show (escB 92).isSome = true by decide] at HAS
                clear HS
                go_wp2_with (go_at_call 76;refine (HAS.out _).mono ?_;rintro e w1 ⟨rfl,h⟩;obtain rfl:=h.symm)
                go_roundw
                case rel=>exact ⟨q+2,k+2,m,_,rfl,by go_num,HQ2.out,by rw [app_one _ _ hl1];exact HS2.out,HM2.out,by omega,Nat.le_succ_of_le (app_size HBQ.out),HWW.out⟩
                case measure=>simp [intOf];omega
              · by_cases g:s[q+1].toNat = 34
                · have HS2:=Lib.hid (show U = unqGo t m (k+2) (b.data.toList++[s[q+1]]) by rw [HS.out,g,show s[q+1] = (34:UInt8) from UInt8.toNat_inj.1 g];rfl)
                  rw [g,show (escB 34).isSome = true by decide] at HAS
                  clear HS
                  go_wp2_with (go_at_call 76;refine (HAS.out _).mono ?_;rintro e w1 ⟨rfl,h⟩;obtain rfl:=h.symm)
                  go_roundw
                  case rel=>exact ⟨q+2,k+2,m,_,rfl,by go_num,HQ2.out,by rw [app_one _ _ hl1];exact HS2.out,HM2.out,by omega,Nat.le_succ_of_le (app_size HBQ.out),HWW.out⟩
                  case measure=>simp [intOf];omega
                · by_cases h:s[q+1].toNat = 110
                  · have HS2:=Lib.hid (show U = unqGo t m (k+2) (b.data.toList++[10]) by rw [HS.out,h];rfl)
                    rw [h,show (escB 110).isSome = true by decide] at HAS
                    clear HS
                    go_wp2_with (go_at_call 76;refine (HAS.out _).mono ?_;rintro e w1 ⟨rfl,h⟩;obtain rfl:=h.symm)
                    go_roundw
                    case rel=>exact ⟨q+2,k+2,m,_,rfl,by go_num,HQ2.out,by rw [app_data];exact HS2.out,HM2.out,by omega,by rw [ByteArray.size_append];have:=HBQ.out;show b.size+1≤_;omega,HWW.out⟩
                    case measure=>simp [intOf];omega
                  · have hes:escB s[q+1].toNat = none:=by unfold escB;rw [if_neg f,if_neg g,if_neg h]
                    have HE:=Lib.hid (show U = none by rw [HS.out,hes])
                    rw [hes,show (none:Option UInt8).isSome = false by rfl] at HAS
                    clear HS hes
                    go_wp2_with (go_at_call 76;refine (HAS.out _).mono ?_;rintro e w1 ⟨rfl,h⟩;obtain rfl:=h.symm)
                    refine bodyPost_ret (v:=.tuple #[.string ⟨#[]⟩,.int .i64 0,.bool false]) (by simp [results,Tryz.results78,go_sem]) rfl ?_
                    exact ⟨HWW.out,by rw [HE.out];rfl⟩
            · have HE:=Lib.hid (show U = none by rw [HS.out,if_pos (HT.out.2 (by omega))])
              have hki1:¬ (q:Int)+1 < (s.size:Int):=by omega
              clear HS hby hqk hn
              go_wp2_with fail
              refine bodyPost_ret (v:=.tuple #[.string ⟨#[]⟩,.int .i64 0,.bool false]) (by simp [results,Tryz.results78,go_sem]) rfl ?_
              exact ⟨HWW.out,by rw [HE.out];rfl⟩
          · have HS2:=Lib.hid (show U = unqGo t m (k+1) (b.data.toList++[s[q]]) by rw [HS.out,if_neg e1,if_neg e2,if_neg e3,UInt8.ofNat_toNat])
            have hez:=one_size s q
            clear HS hby hqk hn
            go_wp2_with fail
            go_roundw
            case rel=>exact ⟨q+1,k+1,m,_,rfl,by go_num,HQ1.out,by rw [app_one _ _ hlt];exact HS2.out,HM.out,by omega,app_size HBQ.out,HWW.out⟩
            case measure=>simp [intOf];omega
    · have HE:=Lib.hid (show U = none from HS0.out.trans (unq_end (by omega)))
      have hki:¬ (q:Int) < (s.size:Int):=by omega
      clear hqk hn
      go_wp2_with fail
      refine bodyPost_ret (v:=.tuple #[.string ⟨#[]⟩,.int .i64 0,.bool false]) (by simp [results,Tryz.results78,go_sem]) rfl ?_
      exact ⟨HWW.out,by rw [HE.out];rfl⟩
end Go.Proofs.YtppoeiofdmlpeaaGreatDoor
namespace Go.Proofs.YtppoeiofdmlpeaaGreatDoor
open Go Go.RowKit
/-- What next says of the token at offset i. -/
def NextIs (s:ByteArray) (i:Nat) (x:Fnd) (j:Nat):Prop :=
  (x.err = 0→x.pos = (i:Nat)∧i < j∧j≤s.size∧∀ n,lexGo s (n+1) i = x :: lexGo s n j)∧(x.err ≠ 0→∀ n, ∃ y:Fnd,y.err = x.err∧y.pos = (i:Nat)∧lexGo s (n+1) i = [y])
theorem NextIs.ok {s:ByteArray} {i j:Nat} {k:Int} {t:ByteArray} (h1:i < j) (h2:j≤s.size) (h:∀ n,lexGo s (n+1) i = ⟨k,t,i,0⟩ :: lexGo s n j):NextIs s i ⟨k,t,i,0⟩ j :=
  ⟨fun _=>⟨rfl,h1,h2,h⟩,fun h=>absurd rfl h⟩
theorem NextIs.bad {s:ByteArray} {i:Nat} {k er:Int} {t:ByteArray} (h0:er ≠ 0) (h:∀ n,lexGo s (n+1) i = [⟨k,t,i,er⟩]):NextIs s i ⟨0,⟨#[]⟩,0,er⟩ 0 :=
  ⟨fun h=>absurd h h0,fun _ n=>⟨⟨k,t,i,er⟩,rfl,rfl,h n⟩⟩
theorem put3 {B:Nat} {w V:World} {g t:Nat} {a b c:Value} (hb:Below B w V) (hg:B≤g) (h:Has V g t #[a,b,c]) (u v z:Value) :
    Has (((V.setCell ⟨g,0,none⟩ u).setCell ⟨g,1,none⟩ v).setCell ⟨g,2,none⟩ z) g t #[u,v,z]∧Below B w (((V.setCell ⟨g,0,none⟩ u).setCell ⟨g,1,none⟩ v).setCell ⟨g,2,none⟩ z) :=
  ⟨by have h1:=((h.put 0 u).put 1 v).put 2 z;simpa using h1,((hb.setCell (p:=⟨g,0,none⟩) hg u).setCell (p:=⟨g,1,none⟩) hg v).setCell (p:=⟨g,2,none⟩) hg z⟩
theorem wordP_eq {s:ByteArray} {j:Nat} (h:j < s.size):wordP s j = wrdB s[j].toNat:=by
  have hc:=class_eq h
  rw [byteAt_eq s j h] at hc
  obtain ⟨h1,h2,h3⟩:=cls_is s[j].toNat
  unfold wordP wrdB
  rw [hc,Bool.eq_iff_iff]
  simp only [Bool.or_eq_true,beq_iff_eq,decide_eq_true_iff,h1,h2,h3]
theorem digP_eq {s:ByteArray} {j:Nat} (h:j < s.size):digP s j = digB s[j].toNat:=by
  have hc:=class_eq h
  rw [byteAt_eq s j h] at hc
  unfold digP
  rw [hc,Bool.eq_iff_iff,beq_iff_eq,(cls_is s[j].toNat).2.1]
theorem wordP_end {s:ByteArray} {j:Nat} (h:s.size≤j):wordP s j = false:=by
  unfold wordP clsAt;rw [if_neg (by omega)];rfl
theorem digP_end {s:ByteArray} {j:Nat} (h:s.size≤j):digP s j = false:=by
  unfold digP clsAt;rw [if_neg (by omega)];rfl
theorem word_after {s:ByteArray} {j:Nat} (hd:digP s j = false):(clsAt s j = 3∨clsAt s j = 5) ↔ wordP s j = true:=by
  unfold digP at hd
  unfold wordP
  simp only [Bool.or_eq_true,beq_iff_eq]
  have:=beq_eq_false_iff_ne.1 hd
  omega
set_option maxRecDepth 100000 in
set_option maxHeartbeats 8000000 in
theorem next_word (s:ByteArray) (i:Nat) (w:World) (hs:s.size≤1000000) (hi:i < s.size) (hc:clsAt s i = 3) :
    Calls Tryz.prog 49 #[.string s,.int .i64 i] w fun e w'=>Below w.heap.size w w'∧∃ (x:Fnd) (j:Nat),e = .returned (.tuple #[.agg #[.int .i64 x.kind,.string x.text,.int .i64 x.pos],.int .i64 j,.int .i64 x.err])∧NextIs s i x j:=by
  have hii:(i:Int) < (s.size:Int):=by omega
  have hby:=byteAt_eq s i hi
  have hb8:=UInt8.toNat_lt s[i]
  have hcl:=class_eq hi
  rw [hby] at hcl
  obtain ⟨hc3,hc4,hc5⟩:=cls_is s[i].toNat
  have HA0:=Lib.hid (Has.new w 73 #[.int .i64 0,.string ⟨#[]⟩,.int .i64 0])
  have HB0:=Lib.hid ((Below.refl w.heap.size w).alloc (Nat.le_refl _) (.cells #[.int .i64 0,.string ⟨#[]⟩,.int .i64 0] 73))
  have HLT:=Lib.hid (hc3.1 (hcl.symm.trans hc))
  have HC:=Lib.hid hc
  have HW:=Lib.hid (show wordP s i = true by unfold wordP;rw [hc];rfl)
  clear hc hcl hby hc3 hc4 hc5
  go_enter Tryz.func49,Tryz.ntmps49
  go_wp2_with (go_at_call 58;refine (let_any _ _).mono ?_;rintro e w1 ⟨rfl,h⟩;obtain rfl:=h.symm;rw [HLT.out])
  go_loopw [7] (fun e wr=>∃ j:Nat,i+1≤j∧j≤s.size∧e = .int .i64 j∧Hid (∀ q,i≤q→q < j→wordP s q = true)∧Hid (Has wr w.heap.size 73 #[.int .i64 0,.string ⟨#[]⟩,.int .i64 0])∧Hid (Below w.heap.size w wr)) (fun e _=>s.size - (intOf e).toNat)
  case atStart=>exact ⟨i+1,Nat.le_refl _,by omega,by go_num,(fun q h1 h2=>(by obtain rfl:q = i:=(by omega);exact HW.out)),HA0.out,HB0.out⟩
  case round =>
    obtain ⟨j,hij,hj,rfl,hq,HA,HB⟩:=hrel
    obtain ⟨xa,ya⟩:=HA.out.facts
    clear HA0 HB0
    by_cases hgo:j < s.size∧wordP s j = true
    · obtain ⟨hjl,hwp⟩:=hgo
      have hji:(j:Int) < (s.size:Int):=by omega
      have HQ:=Lib.hid (upto_next hq.out hwp)
      have hwp2:=hwp
      rw [wordP_eq hjl] at hwp2
      have HWJ:=Lib.hid hwp2
      clear hwp hwp2 hq xa ya
      go_wp2_with (go_at_call 57;refine (wrd_any _ _).mono ?_;rintro e w3 ⟨rfl,h⟩;obtain rfl:=h.symm;rw [HWJ.out])
      go_roundw
      case rel=>exact ⟨j+1,by omega,by omega,by go_num,HQ.out,HA.out,HB.out⟩
      case measure=>simp [intOf];omega
    · have hwf:wordP s j = false:=by
        by_cases hjl:j < s.size
        · cases h:wordP s j
          · rfl
          · exact absurd ⟨hjl,h⟩ hgo
        · exact wordP_end (by omega)
      have hE:=word_end (by omega) hj hq.out hwf
      have HN:Hid (∀ n,lexGo s (n+1) i = if 24 < j - i then [⟨1,cut s i j,i,7⟩] else ⟨1,cut s i j,i,0⟩ :: lexGo s n j):=fun n=>by
        rw [lexGo_succ,if_neg (by omega),if_neg (by rw [HC.out];decide),if_neg (by rw [HC.out];decide),if_pos HC.out,hE]
      clear hE
      by_cases h24:24 < j - i
      · have h24i:(24:Int) < (j:Int) - (i:Int):=by omega
        have HR:=Lib.hid (NextIs.bad (er:=7) (by decide) fun n=>by rw [HN.out,if_pos h24])
        clear h24
        by_cases hjl:j < s.size
        · have hji:(j:Int) < (s.size:Int):=by omega
          rw [wordP_eq hjl] at hwf
          have HWJ:=Lib.hid hwf
          clear hwf hgo hq
          go_wp2_with (go_at_call 57;refine (wrd_any _ _).mono ?_;rintro e w3 ⟨rfl,h⟩;obtain rfl:=h.symm;rw [HWJ.out])
          obtain ⟨HF,HFB⟩:=put3 HB.out (Nat.le_refl _) HA.out (.int .i64 0) (.string ⟨#[]⟩) (.int .i64 0)
          obtain ⟨xf,yf⟩:=HF.facts
          refine bodyPost_ret (v:=.tuple #[.agg #[.int .i64 0,.string ⟨#[]⟩,.int .i64 0],.int .i64 0,.int .i64 7]) (by simp [results,Tryz.results49,go_sem,xf]) rfl ?_
          exact ⟨HFB,⟨0,⟨#[]⟩,0,7⟩,0,rfl,HR.out⟩
        · have hji:¬ (j:Int) < (s.size:Int):=by omega
          clear hwf hgo hq
          go_wp2_with fail
          obtain ⟨HF,HFB⟩:=put3 HB.out (Nat.le_refl _) HA.out (.int .i64 0) (.string ⟨#[]⟩) (.int .i64 0)
          obtain ⟨xf,yf⟩:=HF.facts
          refine bodyPost_ret (v:=.tuple #[.agg #[.int .i64 0,.string ⟨#[]⟩,.int .i64 0],.int .i64 0,.int .i64 7]) (by simp [results,Tryz.results49,go_sem,xf]) rfl ?_
          exact ⟨HFB,⟨0,⟨#[]⟩,0,7⟩,0,rfl,HR.out⟩
      · have h24i:¬ (24:Int) < (j:Int) - (i:Int):=by omega
        have HR:=Lib.hid (NextIs.ok (show i < j by omega) hj fun n=>by rw [HN.out,if_neg h24])
        have hIJ:(i:Int)≤(j:Int):=by omega
        have hJS:(j:Int)≤(s.size:Int):=by omega
        clear h24
        by_cases hjl:j < s.size
        · have hji:(j:Int) < (s.size:Int):=by omega
          rw [wordP_eq hjl] at hwf
          have HWJ:=Lib.hid hwf
          clear hwf hgo hq
          go_wp2_with (go_at_call 57;refine (wrd_any _ _).mono ?_;rintro e w3 ⟨rfl,h⟩;obtain rfl:=h.symm;rw [HWJ.out])
          obtain ⟨HF,HFB⟩:=put3 HB.out (Nat.le_refl _) HA.out (.int .i64 1) (.string (s.extract i j)) (.int .i64 i)
          obtain ⟨xf,yf⟩:=HF.facts
          refine bodyPost_ret (v:=.tuple #[.agg #[.int .i64 1,.string (s.extract i j),.int .i64 i],.int .i64 j,.int .i64 0]) (by simp [results,Tryz.results49,go_sem,xf]) rfl ?_
          exact ⟨HFB,⟨1,(s.extract i j),i,0⟩,j,rfl,HR.out⟩
        · have hji:¬ (j:Int) < (s.size:Int):=by omega
          clear hwf hgo hq
          go_wp2_with fail
          obtain ⟨HF,HFB⟩:=put3 HB.out (Nat.le_refl _) HA.out (.int .i64 1) (.string (s.extract i j)) (.int .i64 i)
          obtain ⟨xf,yf⟩:=HF.facts
          refine bodyPost_ret (v:=.tuple #[.agg #[.int .i64 1,.string (s.extract i j),.int .i64 i],.int .i64 j,.int .i64 0]) (by simp [results,Tryz.results49,go_sem,xf]) rfl ?_
          exact ⟨HFB,⟨1,(s.extract i j),i,0⟩,j,rfl,HR.out⟩
set_option maxRecDepth 100000 in
set_option maxHeartbeats 8000000 in
theorem next_dig (s:ByteArray) (i:Nat) (w:World) (hs:s.size≤1000000) (hi:i < s.size) (hc:clsAt s i = 4) :
    Calls Tryz.prog 49 #[.string s,.int .i64 i] w fun e w'=>Below w.heap.size w w'∧∃ (x:Fnd) (j:Nat),e = .returned (.tuple #[.agg #[.int .i64 x.kind,.string x.text,.int .i64 x.pos],.int .i64 j,.int .i64 x.err])∧NextIs s i x j:=by
  have hii:(i:Int) < (s.size:Int):=by omega
  have hby:=byteAt_eq s i hi
  have hb8:=UInt8.toNat_lt s[i]
  have hcl:=class_eq hi
  rw [hby] at hcl
  obtain ⟨hc3,hc4,hc5⟩:=cls_is s[i].toNat
  have HA0:=Lib.hid (Has.new w 73 #[.int .i64 0,.string ⟨#[]⟩,.int .i64 0])
  have HB0:=Lib.hid ((Below.refl w.heap.size w).alloc (Nat.le_refl _) (.cells #[.int .i64 0,.string ⟨#[]⟩,.int .i64 0] 73))
  have HLT:Hid (letB s[i].toNat = false):=by
    cases h:letB s[i].toNat
    · exact rfl
    · have:=hc3.2 h;omega
  have HDG:=Lib.hid (hc4.1 (hcl.symm.trans hc))
  have HC:=Lib.hid hc
  have HW:=Lib.hid (show digP s i = true by unfold digP;rw [hc];rfl)
  clear hc hcl hby hc3 hc4 hc5
  go_enter Tryz.func49,Tryz.ntmps49
  go_wp2_with (first | (go_at_call 58;refine (let_any _ _).mono ?_;rintro e w1 ⟨rfl,h⟩;obtain rfl:=h.symm;rw [HLT.out]) | (go_at_call 77;refine (dig_any _ _).mono ?_;rintro e w2 ⟨rfl,h⟩;obtain rfl:=h.symm;rw [HDG.out]))
  go_loopw [7] (fun e wr=>∃ j:Nat,i+1≤j∧j≤s.size∧e = .int .i64 j∧Hid (∀ q,i≤q→q < j→digP s q = true)∧Hid (Has wr w.heap.size 73 #[.int .i64 0,.string ⟨#[]⟩,.int .i64 0])∧Hid (Below w.heap.size w wr)) (fun e _=>s.size - (intOf e).toNat)
  case atStart=>exact ⟨i+1,Nat.le_refl _,by omega,by go_num,(fun q h1 h2=>(by obtain rfl:q = i:=(by omega);exact HW.out)),HA0.out,HB0.out⟩
  case round =>
    obtain ⟨j,hij,hj,rfl,hq,HA,HB⟩:=hrel
    obtain ⟨xa,ya⟩:=HA.out.facts
    clear HA0 HB0
    by_cases hgo:j < s.size∧digP s j = true
    · obtain ⟨hjl,hwp⟩:=hgo
      have hji:(j:Int) < (s.size:Int):=by omega
      have HQ:=Lib.hid (upto_next hq.out hwp)
      have hwp2:=hwp
      rw [digP_eq hjl] at hwp2
      have HDJ:=Lib.hid hwp2
      clear hwp hwp2 hq xa ya
      go_wp2_with (go_at_call 77;refine (dig_any _ _).mono ?_;rintro e w4 ⟨rfl,h⟩;obtain rfl:=h.symm;rw [HDJ.out])
      go_roundw
      case rel=>exact ⟨j+1,by omega,by omega,by go_num,HQ.out,HA.out,HB.out⟩
      case measure=>simp [intOf];omega
    · have hwf:digP s j = false:=by
        by_cases hjl:j < s.size
        · cases h:digP s j
          · rfl
          · exact absurd ⟨hjl,h⟩ hgo
        · exact digP_end (by omega)
      have hE:=dig_end (by omega) hj hq.out hwf
      have hWA:=word_after hwf
      have HN:Hid (∀ n,lexGo s (n+1) i = if 7 < j - i∨clsAt s j = 3∨clsAt s j = 5 then [⟨2,cut s i j,i,11⟩] else ⟨2,cut s i j,i,0⟩ :: lexGo s n j):=fun n=>by
        rw [lexGo_succ,if_neg (by omega),if_neg (by rw [HC.out];decide),if_neg (by rw [HC.out];decide),if_neg (by rw [HC.out];decide),if_pos HC.out,hE]
      clear hE
      by_cases h7:7 < j - i
      · have h7i:(7:Int) < (j:Int) - (i:Int):=by omega
        have HR:=Lib.hid (NextIs.bad (er:=11) (by decide) fun n=>by rw [HN.out,if_pos (.inl h7)])
        clear h7 hWA
        by_cases hjl:j < s.size
        · have hji:(j:Int) < (s.size:Int):=by omega
          rw [digP_eq hjl] at hwf
          have HDJ:=Lib.hid hwf
          clear hwf hgo hq
          go_wp2_with (go_at_call 77;refine (dig_any _ _).mono ?_;rintro e w4 ⟨rfl,h⟩;obtain rfl:=h.symm;rw [HDJ.out])
          obtain ⟨HF,HFB⟩:=put3 HB.out (Nat.le_refl _) HA.out (.int .i64 0) (.string ⟨#[]⟩) (.int .i64 0)
          obtain ⟨xf,yf⟩:=HF.facts
          refine bodyPost_ret (v:=.tuple #[.agg #[.int .i64 0,.string ⟨#[]⟩,.int .i64 0],.int .i64 0,.int .i64 11]) (by simp [results,Tryz.results49,go_sem,xf]) rfl ?_
          exact ⟨HFB,⟨0,⟨#[]⟩,0,11⟩,0,rfl,HR.out⟩
        · have hji:¬ (j:Int) < (s.size:Int):=by omega
          clear hwf hgo hq
          go_wp2_with fail
          obtain ⟨HF,HFB⟩:=put3 HB.out (Nat.le_refl _) HA.out (.int .i64 0) (.string ⟨#[]⟩) (.int .i64 0)
          obtain ⟨xf,yf⟩:=HF.facts
          refine bodyPost_ret (v:=.tuple #[.agg #[.int .i64 0,.string ⟨#[]⟩,.int .i64 0],.int .i64 0,.int .i64 11]) (by simp [results,Tryz.results49,go_sem,xf]) rfl ?_
          exact ⟨HFB,⟨0,⟨#[]⟩,0,11⟩,0,rfl,HR.out⟩
      · have h7i:¬ (7:Int) < (j:Int) - (i:Int):=by omega
        by_cases hjl:j < s.size
        · have hji:(j:Int) < (s.size:Int):=by omega
          rw [digP_eq hjl] at hwf
          have HDJ:=Lib.hid hwf
          by_cases hwj:wordP s j = true
          · have HR:=Lib.hid (NextIs.bad (er:=11) (by decide) fun n=>by rw [HN.out,if_pos (.inr (hWA.2 hwj))])
            rw [wordP_eq hjl] at hwj
            have HWJ:=Lib.hid hwj
            clear hwf hgo hq h7 hWA hwj
            go_wp2_with (first | (go_at_call 77;refine (dig_any _ _).mono ?_;rintro e w4 ⟨rfl,h⟩;obtain rfl:=h.symm;rw [HDJ.out]) | (go_at_call 57;refine (wrd_any _ _).mono ?_;rintro e w3 ⟨rfl,h⟩;obtain rfl:=h.symm;rw [HWJ.out]))
            obtain ⟨HF,HFB⟩:=put3 HB.out (Nat.le_refl _) HA.out (.int .i64 0) (.string ⟨#[]⟩) (.int .i64 0)
            obtain ⟨xf,yf⟩:=HF.facts
            refine bodyPost_ret (v:=.tuple #[.agg #[.int .i64 0,.string ⟨#[]⟩,.int .i64 0],.int .i64 0,.int .i64 11]) (by simp [results,Tryz.results49,go_sem,xf]) rfl ?_
            exact ⟨HFB,⟨0,⟨#[]⟩,0,11⟩,0,rfl,HR.out⟩
          · have HR:=Lib.hid (NextIs.ok (show i < j by omega) hj fun n=>by rw [HN.out,if_neg (by rintro (h | h);exact h7 h;exact hwj (hWA.1 h))])
            have hIJ:(i:Int)≤(j:Int):=by omega
            have hJS:(j:Int)≤(s.size:Int):=by omega
            rw [Bool.not_eq_true,wordP_eq hjl] at hwj
            have HWJ:=Lib.hid hwj
            clear hwf hgo hq h7 hWA hwj
            go_wp2_with (first | (go_at_call 77;refine (dig_any _ _).mono ?_;rintro e w4 ⟨rfl,h⟩;obtain rfl:=h.symm;rw [HDJ.out]) | (go_at_call 57;refine (wrd_any _ _).mono ?_;rintro e w3 ⟨rfl,h⟩;obtain rfl:=h.symm;rw [HWJ.out]))
            obtain ⟨HF,HFB⟩:=put3 HB.out (Nat.le_refl _) HA.out (.int .i64 2) (.string (s.extract i j)) (.int .i64 i)
            obtain ⟨xf,yf⟩:=HF.facts
            refine bodyPost_ret (v:=.tuple #[.agg #[.int .i64 2,.string (s.extract i j),.int .i64 i],.int .i64 j,.int .i64 0]) (by simp [results,Tryz.results49,go_sem,xf]) rfl ?_
            exact ⟨HFB,⟨2,(s.extract i j),i,0⟩,j,rfl,HR.out⟩
        · have hji:¬ (j:Int) < (s.size:Int):=by omega
          have HR:=Lib.hid (NextIs.ok (show i < j by omega) hj fun n=>by rw [HN.out,if_neg (by rintro (h | h);exact h7 h;have h2:=hWA.1 h;rw [wordP_end (by omega)] at h2;cases h2)])
          have hIJ:(i:Int)≤(j:Int):=by omega
          have hJS:(j:Int)≤(s.size:Int):=by omega
          clear hwf hgo hq h7 hWA
          go_wp2_with fail
          obtain ⟨HF,HFB⟩:=put3 HB.out (Nat.le_refl _) HA.out (.int .i64 2) (.string (s.extract i j)) (.int .i64 i)
          obtain ⟨xf,yf⟩:=HF.facts
          refine bodyPost_ret (v:=.tuple #[.agg #[.int .i64 2,.string (s.extract i j),.int .i64 i],.int .i64 j,.int .i64 0]) (by simp [results,Tryz.results49,go_sem,xf]) rfl ?_
          exact ⟨HFB,⟨2,(s.extract i j),i,0⟩,j,rfl,HR.out⟩
set_option maxRecDepth 100000 in
set_option maxHeartbeats 8000000 in
theorem next_str (s:ByteArray) (i:Nat) (w:World) (hs:s.size≤1000000) (hi:i < s.size) (hc:clsAt s i = 7) :
    Calls Tryz.prog 49 #[.string s,.int .i64 i] w fun e w'=>Below w.heap.size w w'∧∃ (x:Fnd) (j:Nat),e = .returned (.tuple #[.agg #[.int .i64 x.kind,.string x.text,.int .i64 x.pos],.int .i64 j,.int .i64 x.err])∧NextIs s i x j:=by
  have hii:(i:Int) < (s.size:Int):=by omega
  have hby:=byteAt_eq s i hi
  have hb8:=UInt8.toNat_lt s[i]
  have hcl:=class_eq hi
  rw [hby] at hcl
  obtain ⟨hc3,hc4,hc5⟩:=cls_is s[i].toNat
  have HA0:=Lib.hid (Has.new w 73 #[.int .i64 0,.string ⟨#[]⟩,.int .i64 0])
  have HB0:=Lib.hid ((Below.refl w.heap.size w).alloc (Nat.le_refl _) (.cells #[.int .i64 0,.string ⟨#[]⟩,.int .i64 0] 73))
  have HLT:Hid (letB s[i].toNat = false):=by
    cases h:letB s[i].toNat
    · exact rfl
    · have:=hc3.2 h;omega
  have HDG:Hid (digB s[i].toNat = false):=by
    cases h:digB s[i].toNat
    · exact rfl
    · have:=hc4.2 h;omega
  have h34:s[i].toNat = 34:=(cls_quote _).1 (hcl.symm.trans hc)
  have HN:Hid (∀ n,lexGo s (n+1) i = match unqL (cut s i s.size) with
      | none=>[⟨0,⟨#[]⟩,i,10⟩]
      | some (t,m)=>⟨3,⟨t.toArray⟩,i,0⟩ :: lexGo s n (i+m)):=fun n=>by
    rw [lexGo_succ,if_neg (by omega),if_neg (by rw [hc];decide),if_neg (by rw [hc];decide),if_neg (by rw [hc];decide),if_neg (by rw [hc];decide),if_pos hc]
    rfl
  have HST:=Lib.hid (fun W=>str_any s i W hs hi)
  have hcs:=cutEnd_len s i
  have hup:∀ l m,unqL (cut s i s.size) = some (l,m)→0 < m∧m≤s.size - i:=fun l m h=>by rw [←hcs];exact unqGo_pos _ _ _ _ _ h
  rw [h34] at HLT HDG
  clear hc hcl hby hc3 hc4 hc5 hcs
  cases hU:unqL (cut s i s.size) with
  | none =>
    rw [hU] at HST HN
    have HR:=Lib.hid (NextIs.bad (er:=10) (by decide) HN.out)
    clear hU hup
    go_enter Tryz.func49,Tryz.ntmps49
    go_wp2_with (first | (go_at_call 58;refine (let_any _ _).mono ?_;rintro e w1 ⟨rfl,h⟩;obtain rfl:=h.symm;rw [HLT.out]) | (go_at_call 77;refine (dig_any _ _).mono ?_;rintro e w2 ⟨rfl,h⟩;obtain rfl:=h.symm;rw [HDG.out]) | (go_at_call 78;refine (HST.out _).mono ?_;rintro e w5 ⟨h,rfl⟩;obtain rfl:=h.symm;unfold strEnd))
    refine bodyPost_ret (v:=.tuple #[.agg #[.int .i64 0,.string ⟨#[]⟩,.int .i64 0],.int .i64 0,.int .i64 10]) (by simp [results,Tryz.results49,go_sem]) rfl ?_
    exact ⟨(Below.refl w.heap.size w).alloc (Nat.le_refl _) _,⟨0,⟨#[]⟩,0,10⟩,0,rfl,HR.out⟩
  | some p =>
    obtain ⟨l,m⟩:=p
    rw [hU] at HST HN
    have hm:=hup l m hU
    have HR:=Lib.hid (NextIs.ok (show i < i+m by omega) (show i+m≤s.size by omega) HN.out)
    have hse:strEnd i (some (l,m)) = .tuple #[.string ⟨l.toArray⟩,.int .i64 ((i+m:Nat):Int),.bool true]:=rfl
    rw [hse] at HST
    clear hU hup hse
    generalize i+m = j at *
    go_enter Tryz.func49,Tryz.ntmps49
    go_wp2_with (first | (go_at_call 58;refine (let_any _ _).mono ?_;rintro e w1 ⟨rfl,h⟩;obtain rfl:=h.symm;rw [HLT.out]) | (go_at_call 77;refine (dig_any _ _).mono ?_;rintro e w2 ⟨rfl,h⟩;obtain rfl:=h.symm;rw [HDG.out]) | (go_at_call 78;refine (HST.out _).mono ?_;rintro e w5 ⟨h,rfl⟩;obtain rfl:=h.symm))
    refine bodyPost_ret (v:=.tuple #[.agg #[.int .i64 3,.string ⟨l.toArray⟩,.int .i64 i],.int .i64 j,.int .i64 0]) (by simp [results,Tryz.results49,go_sem]) rfl ?_
    exact ⟨(Below.refl w.heap.size w).alloc (Nat.le_refl _) _,⟨3,⟨l.toArray⟩,i,0⟩,j,rfl,HR.out⟩
set_option maxRecDepth 100000 in
set_option maxHeartbeats 8000000 in
theorem next_sym (s:ByteArray) (i:Nat) (w:World) (hs:s.size≤1000000) (hi:i < s.size) (hc:clsAt s i = 6) :
    Calls Tryz.prog 49 #[.string s,.int .i64 i] w fun e w'=>Below w.heap.size w w'∧∃ (x:Fnd) (j:Nat),e = .returned (.tuple #[.agg #[.int .i64 x.kind,.string x.text,.int .i64 x.pos],.int .i64 j,.int .i64 x.err])∧NextIs s i x j:=by
  have hii:(i:Int) < (s.size:Int):=by omega
  have hby:=byteAt_eq s i hi
  have hb8:=UInt8.toNat_lt s[i]
  have hcl:=class_eq hi
  rw [hby] at hcl
  obtain ⟨hc3,hc4,hc5⟩:=cls_is s[i].toNat
  have HA0:=Lib.hid (Has.new w 73 #[.int .i64 0,.string ⟨#[]⟩,.int .i64 0])
  have HB0:=Lib.hid ((Below.refl w.heap.size w).alloc (Nat.le_refl _) (.cells #[.int .i64 0,.string ⟨#[]⟩,.int .i64 0] 73))
  have HLT:Hid (letB s[i].toNat = false):=by
    cases h:letB s[i].toNat
    · exact rfl
    · have:=hc3.2 h;omega
  have HDG:Hid (digB s[i].toNat = false):=by
    cases h:digB s[i].toNat
    · exact rfl
    · have:=hc4.2 h;omega
  have h34:s[i].toNat ≠ 34:=fun h=>by have:=(cls_quote _).2 h;omega
  have HAS:=Lib.hid (fun W=>rhas_any ⟨#[59,44,46,58,40,41,123,125,91,93,61,60,62,47,43,45,42]⟩ s[i].toNat W (by decide) hb8)
  rw [cls_sym _ hb8,decide_eq_true (by omega)] at HAS
  have HR:Hid (NextIs s i ⟨4,cut s i (i+1),i,0⟩ (i+1)):=NextIs.ok (by omega) (by omega) fun n=>by
    rw [lexGo_succ,if_neg (by omega),if_neg (by rw [hc];decide),if_neg (by rw [hc];decide),if_neg (by rw [hc];decide),if_neg (by rw [hc];decide),if_neg (by rw [hc];decide),if_pos hc]
  clear hc hcl hby hc3 hc4 hc5
  go_enter Tryz.func49,Tryz.ntmps49
  go_wp2_with (first | (go_at_call 58;refine (let_any _ _).mono ?_;rintro e w1 ⟨rfl,h⟩;obtain rfl:=h.symm;rw [HLT.out]) | (go_at_call 77;refine (dig_any _ _).mono ?_;rintro e w2 ⟨rfl,h⟩;obtain rfl:=h.symm;rw [HDG.out]) | (go_at_call 76;refine (HAS.out _).mono ?_;rintro e w6 ⟨rfl,h⟩;obtain rfl:=h.symm))
  refine bodyPost_ret (v:=.tuple #[.agg #[.int .i64 4,.string (s.extract i (i+1)),.int .i64 i],.int .i64 ((i:Int)+1),.int .i64 0]) (by simp [results,Tryz.results49,go_sem]) rfl ?_
  exact ⟨(Below.refl w.heap.size w).alloc (Nat.le_refl _) _,⟨4,cut s i (i+1),i,0⟩,i+1,rfl,HR.out⟩
set_option maxRecDepth 100000 in
set_option maxHeartbeats 8000000 in
theorem next_none (s:ByteArray) (i:Nat) (w:World) (hs:s.size≤1000000) (hi:i < s.size) (hc1:clsAt s i ≠ 1) (hc2:clsAt s i ≠ 2) (h3:clsAt s i ≠ 3) (h4:clsAt s i ≠ 4) (h6:clsAt s i ≠ 6) (h7:clsAt s i ≠ 7) :
    Calls Tryz.prog 49 #[.string s,.int .i64 i] w fun e w'=>Below w.heap.size w w'∧∃ (x:Fnd) (j:Nat),e = .returned (.tuple #[.agg #[.int .i64 x.kind,.string x.text,.int .i64 x.pos],.int .i64 j,.int .i64 x.err])∧NextIs s i x j:=by
  have hii:(i:Int) < (s.size:Int):=by omega
  have hby:=byteAt_eq s i hi
  have hb8:=UInt8.toNat_lt s[i]
  have hcl:=class_eq hi
  rw [hby] at hcl
  obtain ⟨hc3,hc4,hc5⟩:=cls_is s[i].toNat
  have HA0:=Lib.hid (Has.new w 73 #[.int .i64 0,.string ⟨#[]⟩,.int .i64 0])
  have HB0:=Lib.hid ((Below.refl w.heap.size w).alloc (Nat.le_refl _) (.cells #[.int .i64 0,.string ⟨#[]⟩,.int .i64 0] 73))
  have HLT:Hid (letB s[i].toNat = false):=by
    cases h:letB s[i].toNat
    · exact rfl
    · have:=hc3.2 h;omega
  have HDG:Hid (digB s[i].toNat = false):=by
    cases h:digB s[i].toNat
    · exact rfl
    · have:=hc4.2 h;omega
  have h34:s[i].toNat ≠ 34:=fun h=>by have:=(cls_quote _).2 h;omega
  have HAS:=Lib.hid (fun W=>rhas_any ⟨#[59,44,46,58,40,41,123,125,91,93,61,60,62,47,43,45,42]⟩ s[i].toNat W (by decide) hb8)
  rw [cls_sym _ hb8,decide_eq_false (by omega)] at HAS
  have HR:=Lib.hid (NextIs.bad (s:=s) (i:=i) (er:=10) (k:=0) (t:=⟨#[]⟩) (by decide) fun n=>by
    rw [lexGo_succ,if_neg (by omega),if_neg hc1,if_neg hc2,if_neg h3,if_neg h4,if_neg h7,if_neg h6])
  clear hc1 hc2 h3 h4 h6 h7 hcl hby hc3 hc4 hc5
  go_enter Tryz.func49,Tryz.ntmps49
  go_wp2_with (first | (go_at_call 58;refine (let_any _ _).mono ?_;rintro e w1 ⟨rfl,h⟩;obtain rfl:=h.symm;rw [HLT.out]) | (go_at_call 77;refine (dig_any _ _).mono ?_;rintro e w2 ⟨rfl,h⟩;obtain rfl:=h.symm;rw [HDG.out]) | (go_at_call 76;refine (HAS.out _).mono ?_;rintro e w6 ⟨rfl,h⟩;obtain rfl:=h.symm))
  refine bodyPost_ret (v:=.tuple #[.agg #[.int .i64 0,.string ⟨#[]⟩,.int .i64 0],.int .i64 0,.int .i64 10]) (by simp [results,Tryz.results49,go_sem]) rfl ?_
  exact ⟨(Below.refl w.heap.size w).alloc (Nat.le_refl _) _,⟨0,⟨#[]⟩,0,10⟩,0,rfl,HR.out⟩
theorem next_any (s:ByteArray) (i:Nat) (w:World) (hs:s.size≤1000000) (hi:i < s.size) (h1:clsAt s i ≠ 1) (h2:clsAt s i ≠ 2) :
    Calls Tryz.prog 49 #[.string s,.int .i64 i] w fun e w'=>Below w.heap.size w w'∧∃ (x:Fnd) (j:Nat),e = .returned (.tuple #[.agg #[.int .i64 x.kind,.string x.text,.int .i64 x.pos],.int .i64 j,.int .i64 x.err])∧NextIs s i x j:=by
  by_cases h3:clsAt s i = 3
  · exact next_word s i w hs hi h3
  by_cases h4:clsAt s i = 4
  · exact next_dig s i w hs hi h4
  by_cases h7:clsAt s i = 7
  · exact next_str s i w hs hi h7
  by_cases h6:clsAt s i = 6
  · exact next_sym s i w hs hi h6
  exact next_none s i w hs hi h1 h2 h3 h4 h6 h7
end Go.Proofs.YtppoeiofdmlpeaaGreatDoor
