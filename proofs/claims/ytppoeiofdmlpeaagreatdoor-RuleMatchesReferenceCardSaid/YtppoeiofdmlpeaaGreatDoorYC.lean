/- bogieref05.Lex: the reference's tokens are the lexer's. Condition: the text lies in memory. bogieref05.Quote: the reference quotes as the lexer does. Condition: the string is not too long. bogieref20.number, Reserved, and bogieref05.Number. No condition but that the text is short. -/
import Derived.IntWalk
import Derived.Lib.IndexBytes
import Derived.Test.YtppoeiofdmlpeaaGreatDoorU01
import Derived.Test.YtppoeiofdmlpeaaGreatDoorU11
import Derived.Test.YtppoeiofdmlpeaaGreatDoorYA
import Derived.Test.YtppoeiofdmlpeaaGreatDoorYB
namespace Go.Proofs.YtppoeiofdmlpeaaGreatDoor
open Go Go.RowKit
set_option maxRecDepth 100000 in
set_option maxHeartbeats 8000000 in
theorem refLex_any (s:ByteArray) (w:World) (_hs:s.size≤maxLen) :
    Calls Tryz.prog 25 #[.string s] w fun e w'=>∃ v,e = .returned (.tuple #[v,.int .i64 (lexL s).2.1,.int .i64 (lexL s).2.2])∧w'.ownsRow w.heap.size 73 3 v (lexL s).1.length (tokCells (lexL s).1)∧Below w.heap.size w w':=by
  by_cases hbig:20000 < s.size
  · have hbi:(20000:Int) < (s.size:Int):=by omega
    have HE:=Lib.hid (show lexL s = ([],7, -1) by unfold lexL;rw [if_pos hbig])
    go_enter Tryz.func25,Tryz.ntmps25
    go_wp2_with fail
    refine bodyPost_ret (v:=.tuple #[.slice none 0 0,.int .i64 7,.int .i64 (-1)]) (by simp [results,Tryz.results25,go_sem]) rfl ?_
    exact ⟨_,by rw [HE.out],by rw [HE.out];exact World.ownsRow_nil _ _ _ _,Below.refl _ _⟩
  · have hbi:¬ (20000:Int) < (s.size:Int):=by omega
    have HE:=Lib.hid (show lexL s = takeF (lexF s) [] by unfold lexL;rw [if_neg hbig])
    have HGAP:=Lib.hid (fun i W (hi:i≤s.size)=>gap_any s i W (by omega) hi)
    have HNX:=Lib.hid (fun i W (hi:i < s.size) h1 h2=>next_any s i W (by omega) hi h1 h2)
    obtain ⟨i0,hi0,hz0,hq1,hq2⟩:=info_parts infoT
    have HI:=Lib.hid hi0
    have HZ:=Lib.hid hz0
    clear hi0 hz0
    have HF:Hid (lexF s = lexGo s (s.size+1) 0):=(rfl:lexF s = lexGo s (s.size+1) 0)
    go_enter Tryz.func25,Tryz.ntmps25
    go_wp2_with (go_at_call 48;refine (HGAP.out 0 _ (Nat.zero_le _)).mono ?_;rintro e w1 ⟨j0,rfl,h,hg0,hj0,hc0⟩;obtain rfl:=h.symm;have HG0:=Lib.hid hg0;have HC0:=Lib.hid hc0;clear hg0 hc0)
    go_loopw [5,6] (fun v i wr=>∃ (fs:List Fnd) (k n:Nat) (A:Option Addr) (cc:Nat),v = .slice A fs.length cc∧i = .int .i64 k∧k≤s.size∧Hid (k < s.size→clsAt s k ≠ 1∧clsAt s k ≠ 2)∧Hid (lexL s = takeF (lexGo s n k) fs)∧Hid (s.size < n+k)∧fs.length≤5000∧Hid (wr.ownsRow w.heap.size 73 3 (.slice A fs.length cc) fs.length (tokCells fs))∧Hid (Below w.heap.size w wr)) (fun _ i _=>s.size - (intOf i).toNat)
    case atStart =>
      obtain ⟨m,hm,e⟩:=HG0.out.2 (s.size+1) (by omega)
      exact ⟨[],j0,m,none,0,rfl,rfl,hj0,HC0.out,(by rw [HE.out,HF.out,e];exact rfl),hm,Nat.zero_le _,World.ownsRow_nil _ _ _ _,Below.refl _ _⟩
    case round =>
      obtain ⟨fs,k,n,A,cc,rfl,rfl,hk,HCL,HL,HN,hfs,HO,HB⟩:=hrel
      clear HG0 HC0 hj0
      by_cases hlt:k < s.size
      · have hki:(k:Int) < (s.size:Int):=by omega
        have HNK:=Lib.hid (fun W=>HNX.out k W hlt (HCL.out hlt).1 (HCL.out hlt).2)
        go_wp2_with fail
        refine (HNK.out _).mono ?_
        rintro e w2 ⟨hb2,⟨xk,xt,xp,xe⟩,j,rfl,hx⟩
        dsimp only at hx ⊢
        have HO2:=Lib.hid (HO.out.kept (row:=none) (below_grown hb2) (by cases Value.ownBlock _ <;> simp))
        have HB2:=Lib.hid (HB.out.trans (hb2.mono HB.out.size))
        obtain ⟨m,hm⟩:∃ m,n = m+1:=⟨n - 1,by have:=HN.out;omega⟩
        have HM:=Lib.hid hm
        clear hb2 HB HO HNK hm
        by_cases he:xe = 0
        · subst he
          obtain ⟨hxp,hkj,hjs,hlx⟩:=hx.1 rfl
          dsimp only at hxp hlx
          subst hxp
          have HL2:Hid (lexL s = if fs.length = 5000 then ([],7,(k:Int)) else takeF (lexGo s m j) (fs++[⟨xk,xt,k,0⟩])):=by
            have h:=HL.out
            rw [HM.out,hlx m] at h
            unfold takeF at h
            rw [if_neg (by simp)] at h
            exact h
          by_cases h5:fs.length = 5000
          · have h5i:((fs.length:Int) == 5000) = true:=by rw [beq_iff_eq];omega
            have HL3:Hid (lexL s = ([],7,(k:Int))):=by
              have h:=HL2.out
              rw [if_pos h5] at h
              exact h
            clear hx hlx h5
            go_wp2_with fail
            refine bodyPost_ret (v:=.tuple #[.slice none 0 0,.int .i64 7,.int .i64 k]) (by simp [results,Tryz.results25,go_sem]) rfl ?_
            exact ⟨_,by rw [HL3.out],by rw [HL3.out];exact World.ownsRow_nil _ _ _ _,HB2.out.alloc HB2.out.size _⟩
          · have h5i:((fs.length:Int) == 5000) = false:=by rw [beq_eq_false_iff_ne];omega
            have HL3:Hid (lexL s = takeF (lexGo s m j) (fs++[⟨xk,xt,k,0⟩])):=by
              have h:=HL2.out
              rw [if_neg h5] at h
              exact h
            have HNM:Hid (s.size < m+j):=by show s.size < m+j;have:=HN.out;have:=HM.out;omega
            have HGJ:=Lib.hid (fun W=>HGAP.out j W hjs)
            clear hx hlx
            go_wp2_with (at_builtin;refine wpList_append_own _ rfl (.tmp 34) (.tmp 36) 44 rfl w.heap.size 73 i0 (.agg #[.int .i64 0,.string ⟨#[]⟩,.int .i64 0]) 3 32 Tryz.underlying44 HI.out HZ.out hq1 hq2 rfl (by decide) _ _ _ rfl ((HO2.out.alloc _).alloc _) ⟨w2.heap.size+1,0,none⟩ 1 1 [.int .i64 xk,.string xt,.int .i64 k] rfl rfl ?c1 ?c2 ?c3 ?c4 ?c5 ?_)
            case c1 =>
              intro q u hq
              rw [Addr.add_mid,Nat.zero_add]
              have h1:=(Has.new (w2.alloc (.cells #[.int .i64 xk,.string xt,.int .i64 k] 73)) 73 #[.int .i64 xk,.string xt,.int .i64 k]).cell q
              rw [World.size_alloc] at h1
              exact h1.trans (by simpa using hq)
            case c2=>intro u hu;simp at hu;rcases hu with rfl | rfl | rfl <;> rfl
            case c3=>unfold maxLen;omega
            case c4=>omega
            case c5=>have:=HB2.out.size;simp;omega
            · intro v' w6 hown6 hg6 _
              have HB6:=Lib.hid ((((HB2.out.alloc HB2.out.size (.cells #[.int .i64 xk,.string xt,.int .i64 k] 73)).alloc (by have:=HB2.out.size;simp;omega) (.cells #[.int .i64 xk,.string xt,.int .i64 k] 73))).grown hg6 (by have:=HB2.out.size;simp;omega) (fun j hj=>(HO2.out.lt j hj).1))
              obtain ⟨g6,c6,rfl⟩:∃ g c,v' = .slice (some ⟨g,0,none⟩) (fs.length+1) c:=by
                rcases hown6.2 with ⟨_,h⟩ | ⟨g,cap,cur,rfl,_⟩
                · omega
                · exact ⟨_,_,rfl⟩
              have HO6:=Lib.hid hown6
              clear hown6 hg6
              go_wp2_with fail
              refine (HGJ.out _).mono ?_
              rintro e w7 ⟨j2,rfl,h,hg2,hj2,hc2⟩
              obtain rfl:=h.symm
              have HG2:=Lib.hid hg2
              have HC2:=Lib.hid hc2
              have hgle:=hg2.1
              clear hg2 hc2
              go_wp2_with fail
              go_roundw
              case rel =>
                obtain ⟨m2,hm2,e2⟩:=HG2.out.2 m HNM.out
                exact ⟨fs++[⟨xk,xt,k,0⟩],j2,m2,some ⟨g6,0,none⟩,c6,by simp,rfl,hj2,HC2.out,by rw [←e2];exact HL3.out,hm2,by simp;omega,by
                  rw [tok_snoc,List.length_append];exact HO6.out,HB6.out⟩
              case measure=>simp [intOf];omega
        · have hei:(xe != 0) = true:=by rw [bne_iff_ne];exact he
          obtain ⟨y,hy1,hy2,hy3⟩:=hx.2 he m
          dsimp only at hy1
          have HL3:Hid (lexL s = ([],xe,(k:Int))):=by
            have h:=HL.out
            rw [HM.out,hy3] at h
            unfold takeF at h
            rw [if_pos (by rw [hy1];exact he),hy1,hy2] at h
            exact h
          clear hx hy3
          go_wp2_with fail
          refine bodyPost_ret (v:=.tuple #[.slice none 0 0,.int .i64 xe,.int .i64 k]) (by simp [results,Tryz.results25,go_sem]) rfl ?_
          exact ⟨_,by rw [HL3.out],by rw [HL3.out];exact World.ownsRow_nil _ _ _ _,HB2.out.alloc HB2.out.size _⟩
      · have hki:¬ (k:Int) < (s.size:Int):=by omega
        have HE2:Hid (lexL s = (fs,0,0)):=by
          have h:=HL.out
          have hn:=HN.out
          obtain ⟨m,rfl⟩:∃ m,n = m+1:=⟨n - 1,by omega⟩
          rw [lexGo_succ,if_pos (by omega)] at h
          exact h
        go_wp2_with fail
        refine bodyPost_ret (v:=.tuple #[.slice A fs.length cc,.int .i64 0,.int .i64 0]) (by simp [results,Tryz.results25,go_sem]) rfl ?_
        exact ⟨_,by rw [HE2.out],by rw [HE2.out];exact HO.out,HB.out⟩
end Go.Proofs.YtppoeiofdmlpeaaGreatDoor
namespace Go.Proofs.YtppoeiofdmlpeaaGreatDoor
open Go Go.RowKit
theorem mid_data (s:ByteArray) (f k:Nat):(s.extract f k).data.toList = (s.data.toList.take k).drop f:=by
  rw [Lib.extract_data,List.drop_take]
theorem mid_size (s:ByteArray) (f k:Nat) (hk:k≤s.size):(s.extract f k).size = k - f:=by
  rw [ByteArray.size_extract];omega
theorem take_next {l:List UInt8} {k:Nat} (h:k < l.length):l.take (k+1) = l.take k++[l[k]]:=by
  rw [List.take_add_one,List.getElem?_eq_getElem h];rfl
/-- What the reference has written up to offset k, and what it still has to write. -/
def QuoAt (s b:ByteArray) (f k:Nat):Prop:=f≤k∧b.data.toList++(s.data.toList.take k).drop f = 34 :: (s.data.toList.take k).flatMap escL∧b.size+(k - f)≤2*k+1
theorem quo_next {s:ByteArray} {k:Nat} (hk:k < s.size):(s.data.toList.take (k+1)).flatMap escL = (s.data.toList.take k).flatMap escL++escL s[k]:=by
  have hk2:k < s.data.toList.length:=hk
  rw [take_next hk2,List.flatMap_append,List.flatMap_singleton]
  rfl
theorem QuoAt.plain {s b:ByteArray} {f k:Nat} (h:QuoAt s b f k) (hk:k < s.size) (he:escL s[k] = [s[k]]):QuoAt s b f (k+1):=by
  obtain ⟨h0,h1,hz⟩:=h
  have hk2:k < s.data.toList.length:=hk
  refine ⟨by omega,?_,by omega⟩
  rw [quo_next hk,he,take_next hk2,List.drop_append_of_le_length (by rw [List.length_take];omega), ← List.append_assoc,h1]
  rfl
theorem QuoAt.line {s b:ByteArray} {f k:Nat} (h:QuoAt s b f k) (hk:k < s.size) (he:escL s[k] = [92,110]):QuoAt s ((b++s.extract f k)++⟨#[92,110]⟩) (k+1) (k+1):=by
  obtain ⟨h0,h1,hz⟩:=h
  refine ⟨Nat.le_refl _,?_,?_⟩
  · rw [quo_next hk,he,app_data,app_data,mid_data,h1,List.drop_of_length_le (by rw [List.length_take];omega)]
    simp
  · rw [ByteArray.size_append,ByteArray.size_append,mid_size s f k (by omega)]
    show b.size+(k - f)+2+_≤_
    omega
theorem QuoAt.mark {s b:ByteArray} {f k:Nat} (h:QuoAt s b f k) (hk:k < s.size) (he:escL s[k] = [92,s[k]]):QuoAt s ((b++s.extract f k)++⟨#[92]⟩) k (k+1):=by
  obtain ⟨h0,h1,hz⟩:=h
  have hk2:k < s.data.toList.length:=hk
  refine ⟨Nat.le_succ _,?_,?_⟩
  · rw [quo_next hk,he,app_data,app_data,mid_data,h1,take_next hk2,List.drop_append_of_le_length (by rw [List.length_take];omega),List.drop_of_length_le (by rw [List.length_take];omega)]
    simp
    rfl
  · rw [ByteArray.size_append,ByteArray.size_append,mid_size s f k (by omega)]
    show b.size+(k - f)+1+_≤_
    omega
theorem QuoAt.fin {s b:ByteArray} {f:Nat} (h:QuoAt s b f s.size):(b++s.extract f s.size)++⟨#[34]⟩ = quoteB s:=by
  obtain ⟨h0,h1,hz⟩:=h
  have hl:s.data.toList.take s.size = s.data.toList:=List.take_of_length_le (Nat.le_refl _)
  have e:((b++s.extract f s.size)++⟨#[34]⟩).data.toList = quoteL s.data.toList:=by
    rw [app_data,app_data,mid_data,h1,hl]
    rfl
  generalize (b++s.extract f s.size)++⟨#[34]⟩ = x at *
  unfold quoteB
  rw [←e]
set_option maxRecDepth 100000 in
set_option maxHeartbeats 8000000 in
theorem refQuote_any (s:ByteArray) (w:World) (hs:s.size≤1000000) :
    Calls Tryz.prog 41 #[.string s] w fun e w'=>e = .returned (.string (quoteB s))∧w' = w:=by
  go_enter Tryz.func41,Tryz.ntmps41
  go_wp2_with fail
  go_loopw [3,4,5] (fun o f i wr=>∃ (b:ByteArray) (f' k:Nat),o = .string b∧f = .int .i64 f'∧i = .int .i64 k∧k≤s.size∧Hid (QuoAt s b f' k)∧Hid (wr = w)) (fun _ _ i _=>s.size - (intOf i).toNat)
  case atStart=>exact ⟨⟨#[34]⟩,0,0,rfl,rfl,rfl,Nat.zero_le _,⟨Nat.le_refl _,rfl,Nat.le_refl _⟩,rfl⟩
  case round =>
    obtain ⟨b,f,k,rfl,rfl,rfl,hk,HQ,HWW⟩:=hrel
    have hfk:=HQ.out.1
    have hqz:=HQ.out.2.2
    have hbz:(b.size:Int)≤8388608:=by omega
    have hez:((s.extract f k).size:Int)≤8388608:=by rw [mid_size s f k hk];omega
    have hcz:((b++s.extract f k).size:Int)≤8388608:=by rw [ByteArray.size_append,mid_size s f k hk];omega
    have hfi:(f:Int)≤(k:Int):=by omega
    have hkS:(k:Int)≤(s.size:Int):=by omega
    clear hqz hfk
    by_cases hlt:k < s.size
    · have hki:(k:Int) < (s.size:Int):=by omega
      by_cases e1:s[k].toNat = 10
      · have he:s[k] = 10:=UInt8.toNat_inj.1 e1
        have HN:=Lib.hid (HQ.out.line hlt (by rw [he];decide))
        clear he
        go_wp2_with fail
        go_roundw
        case rel=>exact ⟨_,k+1,k+1,rfl,by go_num,by go_num,by omega,HN.out,HWW.out⟩
        case measure=>simp [intOf];omega
      · by_cases e2:s[k].toNat = 34
        · have he:s[k] = 34:=UInt8.toNat_inj.1 e2
          have HN:=Lib.hid (HQ.out.mark hlt (by rw [he];decide))
          clear he
          go_wp2_with fail
          go_roundw
          case rel=>exact ⟨_,k,k+1,rfl,by go_num,by go_num,by omega,HN.out,HWW.out⟩
          case measure=>simp [intOf];omega
        · by_cases e3:s[k].toNat = 92
          · have he:s[k] = 92:=UInt8.toNat_inj.1 e3
            have HN:=Lib.hid (HQ.out.mark hlt (by rw [he];decide))
            clear he
            go_wp2_with fail
            go_roundw
            case rel=>exact ⟨_,k,k+1,rfl,by go_num,by go_num,by omega,HN.out,HWW.out⟩
            case measure=>simp [intOf];omega
          · have hb34:((s[k].toNat:Int) == 34) = false:=by rw [beq_eq_false_iff_ne];omega
            have hb92:((s[k].toNat:Int) == 92) = false:=by rw [beq_eq_false_iff_ne];omega
            have HN:=Lib.hid (HQ.out.plain hlt (by
              unfold escL
              rw [if_neg (fun h=>e1 (by rw [h];decide)),if_neg (by rintro (h | h);exact e2 (by rw [h];decide);exact e3 (by rw [h];decide))]))
            go_wp2_with fail
            go_roundw
            case rel=>exact ⟨b,f,k+1,rfl,rfl,by go_num,by omega,HN.out,HWW.out⟩
            case measure=>simp [intOf];omega
    · have hke:k = s.size:=by omega
      have HF:=Lib.hid (show (b++s.extract f s.size)++⟨#[34]⟩ = quoteB s from QuoAt.fin (hke ▸ HQ.out))
      have hki:¬ (k:Int) < (s.size:Int):=by omega
      have hfS:(f:Int)≤(s.size:Int):=by omega
      rw [hke] at hez hcz
      clear hke
      go_wp2_with fail
      go_ret
      exact ⟨by rw [←HF.out];rfl,HWW.out⟩
end Go.Proofs.YtppoeiofdmlpeaaGreatDoor
namespace Go.Proofs.YtppoeiofdmlpeaaGreatDoor
open Go Go.RowKit
set_option maxRecDepth 100000 in
set_option maxHeartbeats 1000000 in
theorem refNumber_any (n low:Int) (w:World):Calls Tryz.prog 93 #[.int .i64 n,.int .i64 low] w fun e w'=>e = .returned (.bool (decide (low≤n∧n≤9999999)))∧w' = w:=by
  by_cases h1:low≤n
  · by_cases h2:n≤9999999
    · rw [decide_eq_true ⟨h1,h2⟩]
      go_enter Tryz.func93,Tryz.ntmps93
      go_wp2_with fail
      go_ret
      exact ⟨rfl,rfl⟩
    · rw [decide_eq_false (fun h=>h2 h.2)]
      go_enter Tryz.func93,Tryz.ntmps93
      go_wp2_with fail
      go_ret
      exact ⟨rfl,rfl⟩
  · rw [decide_eq_false (fun h=>h1 h.1)]
    go_enter Tryz.func93,Tryz.ntmps93
    go_wp2_with fail
    go_ret
    exact ⟨rfl,rfl⟩
theorem res_get (k:Nat) (hk:k < 11):(resL.map Value.string)[k]? = some (.string (resL[k]'hk)):=by
  rw [List.getElem?_map,List.getElem?_eq_getElem (show k < resL.length from hk)];rfl
set_option maxRecDepth 100000 in
set_option maxHeartbeats 4000000 in
theorem refReserved_any (s:ByteArray) (w:World):Calls Tryz.prog 80 #[.string s] w fun e w'=>e = .returned (.bool (resB s))∧Below w.heap.size w w':=by
  have HX:=Lib.hid (show Has (w.alloc (.cells (resL.map Value.string).toArray 9)) w.heap.size 9 (resL.map Value.string).toArray from Has.new _ _ _)
  have HB:=Lib.hid (show Below w.heap.size w (w.alloc (.cells (resL.map Value.string).toArray 9)) from (Below.refl _ _).alloc (Nat.le_refl _) _)
  go_enter Tryz.func80,Tryz.ntmps80
  go_wp2_with fail
  change Code.wp _ _ _ _ (w.alloc (.cells (resL.map Value.string).toArray 9))
  generalize w.alloc (.cells (resL.map Value.string).toArray 9) = w0 at *
  go_loop [4] (fun i=>∃ k:Nat,i = .int .i64 k∧k≤11∧Hid (∀ j (h:j < 11),j < k→s ≠ resL[j]'h)) (fun i=>11 - (intOf i).toNat)
  case atStart=>exact ⟨0,rfl,Nat.zero_le _,fun j _ h=>absurd h (Nat.not_lt_zero j)⟩
  case round =>
    obtain ⟨k,rfl,hk,HK⟩:=hrel
    by_cases hlt:k < 11
    · have hki:(k:Int) < 11:=by omega
      have hs3:IntKind.i64.wrap ((k:Int)+1) = (k:Int)+1:=IntWalk.i64_in _ (by omega)
      have hc:=(HX.out.cell k).trans ((List.getElem?_toArray ..).trans (res_get k hlt))
      by_cases he:s = resL[k]'hlt
      · have HR:=Lib.hid (show resB s = true from List.any_eq_true.2 ⟨resL[k]'hlt,List.getElem_mem _,decide_eq_true he⟩)
        rw [←he] at hc
        clear he
        go_wp2_with fail
        go_ret
        exact ⟨ret_bool HR.out.symm,HB.out⟩
      · have HN:=Lib.hid (show ∀ j (h:j < 11),j < k+1→s ≠ resL[j]'h from fun j h h2=>by
          rcases Nat.lt_or_ge j k with h3 | h3
          · exact HK.out j h h3
          · have:j = k:=by omega
            subst this
            exact he)
        generalize resL[k]'hlt = x at *
        have hx:¬ x.toList = s.toList:=fun h=>he (by
          rw [_root_.Go.ByteArray.toList_eq,_root_.Go.ByteArray.toList_eq] at h
          exact (ByteArray.ext (Array.toList_inj.1 h)).symm)
        have hxb:(x.toList == s.toList) = false:=by simpa using hx
        clear he
        go_wp2_with fail
        go_round
        case rel=>exact ⟨k+1,by go_num,hlt,HN.out⟩
        case measure=>simp [intOf];omega
    · have hki:¬ (k:Int) < 11:=by omega
      have HR:=Lib.hid (show resB s = false from List.any_eq_false.2 fun x hx=>by
        obtain ⟨j,hj,rfl⟩:=List.getElem_of_mem hx
        have:=HK.out j hj (by have:j < 11:=hj;omega)
        simpa using this)
      go_wp2_with fail
      go_ret
      exact ⟨ret_bool HR.out.symm,HB.out⟩
end Go.Proofs.YtppoeiofdmlpeaaGreatDoor
