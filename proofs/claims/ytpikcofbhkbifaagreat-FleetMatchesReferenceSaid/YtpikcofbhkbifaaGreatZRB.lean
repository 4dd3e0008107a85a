/- bogieref08.Find, In, get, Takes. No condition but sizes. bogieref08.slot: is a slot right behind some kinds? No condition but sizes; the kinds' names are different. bogieref08.Valid: the reference's valid catalogs are the catalog package's. No condition but sizes. -/
import Derived.Deep.RegionHeld3
import Derived.Test.YtpikcofbhkbifaaGreatU03
import Derived.Test.YtpikcofbhkbifaaGreatU25
import Derived.Test.YtpikcofbhkbifaaGreatU27
import Derived.Test.YtpikcofbhkbifaaGreatZRA
namespace Go.Proofs.YtpikcofbhkbifaaGreat
open Go Go.RowKit
theorem find_at {α:Type} (f:α→ByteArray) {l:List α} {d:α} {x:ByteArray} {k:Nat} (hk:k < l.length) (h:∀ q∈l.take k,f q ≠ x) (he:f (l.getD k d) = x):(l.find? fun q=>decide (f q = x)) = some (l.getD k d):=by
  have hg:l.getD k d = l[k]:=by rw [List.getD_eq_getElem?_getD,List.getElem?_eq_getElem hk];rfl
  rw [hg] at he ⊢
  rw [List.find?_eq_some_iff_getElem]
  refine ⟨by simpa using he,k,hk,rfl,fun j hj=>?_⟩
  have:=h l[j] (List.mem_take_iff_getElem.2 ⟨j,by omega,rfl⟩)
  simpa using this
theorem find_all {α:Type} (f:α→ByteArray) {l:List α} {x:ByteArray} (h:∀ q∈l.take l.length,f q ≠ x):(l.find? fun q=>decide (f q = x)) = none:=by
  rw [List.take_length] at h
  rw [List.find?_eq_none]
  intro q hq;simpa using h q hq
theorem find_next {α:Type} (f:α→ByteArray) {l:List α} {d:α} {x:ByteArray} {k:Nat} (hk:k < l.length) (h:∀ q∈l.take k,f q ≠ x) (he:f (l.getD k d) ≠ x):∀ q∈l.take (k+1),f q ≠ x:=by
  intro q hq
  rw [List.take_succ_eq_append_getElem hk,List.mem_append,List.mem_singleton] at hq
  rcases hq with hq | rfl
  · exact h q hq
  · rwa [List.getD_eq_getElem?_getD,List.getElem?_eq_getElem hk] at he
theorem hasB_at {l:List ByteArray} {x:ByteArray} {k:Nat} (hk:k < l.length) (he:l.getD k eS = x):hasB l x = true:=by
  unfold hasB;rw [List.any_eq_true]
  exact ⟨_,getD_mem l k eS hk,decide_eq_true he⟩
theorem hasB_all {l:List ByteArray} {x:ByteArray} (h:∀ q∈l.take l.length,q ≠ x):hasB l x = false:=by
  rw [List.take_length] at h
  unfold hasB;rw [List.any_eq_false]
  intro q hq;simpa using h q hq
set_option maxRecDepth 100000 in
set_option maxHeartbeats 2000000 in
theorem refIn_any (v:Value) (l:List ByteArray) (x:ByteArray) (w:World) (hv:Sl w v l.length 1 (strF l)) (hl:l.length≤100000) :
    Calls Tryz.prog 87 #[v,.string x] w fun e w'=>e = .returned (.bool (hasB l x))∧w' = w:=by
  obtain ⟨A,c,rfl,hn,hc⟩:=hv
  have HC:=Lib.hid hc
  clear hc
  go_enter Tryz.func87,Tryz.ntmps87
  go_wp2_with fail
  go_loopw [5] (fun i wr=>∃ k:Nat,k≤l.length∧i = .int .i64 k∧Hid (∀ q∈l.take k,q ≠ x)∧wr = w) (fun i _=>l.length - (intOf i).toNat)
  case atStart=>exact ⟨0,Nat.zero_le _,rfl,fun q hq=>by simp at hq,rfl⟩
  case round =>
    obtain ⟨k,hk,rfl,HT,rfl⟩:=hrel
    by_cases hlt:k < l.length
    · rcases HC.out with h0 | ⟨b,o,rfl,hcc⟩
      · omega
      have hck:wr.cell? ⟨b,o+k,none⟩ = some (.string (l.getD k eS)):=hcc k (by omega)
      have HAT:=Lib.hid (fun he=>hasB_at (x:=x) hlt he)
      have HNX:=Lib.hid (fun he=>find_next id hlt HT.out (d:=eS) he)
      have hki:(k:Int) < (l.length:Int):=by omega
      clear hcc
      generalize l.getD k eS = q at *
      cases he:(q.toList == x.toList)
      · have hne:q ≠ x:=by rw [beq_bytes] at he;exact of_decide_eq_false he
        have HN:=Lib.hid (HNX.out hne)
        clear hne
        go_wp2_with fail
        go_roundw
        case rel=>exact ⟨k+1,by omega,by go_num,HN.out,trivial⟩
        case measure=>simp [intOf];omega
      · have heq:q = x:=by rw [beq_bytes] at he;exact of_decide_eq_true he
        have HE:=Lib.hid (HAT.out heq)
        clear heq
        go_wp2_with fail
        go_ret
        exact ⟨ret_bool (by rw [HE.out]),rfl⟩
    · obtain rfl:k = l.length:=by omega
      have HE:=Lib.hid (hasB_all HT.out)
      go_wp2_with fail
      go_ret
      exact ⟨ret_bool (by rw [HE.out]),rfl⟩
theorem sizeKd:(Tryz.prog.info? 79).map (·.size) = some 3:=by kernel_rfl
theorem oneKd (a:ByteArray) (b:Bool) (A:Option Addr) (n m:Nat):(#[.string a,.bool b,.slice A n m]:Array Value).all (·.oneCell') = true:=by
  simp [Value.oneCell']
theorem sizeSk:(Tryz.prog.info? 102).map (·.size) = some 3:=by kernel_rfl
theorem oneSk (a:ByteArray) (b:Int) (A:Option Addr) (n m:Nat):(#[.string a,.slice A n m,.int .i64 b]:Array Value).all (·.oneCell') = true:=by
  simp [Value.oneCell']
set_option maxRecDepth 100000 in
set_option maxHeartbeats 2000000 in
theorem refFind_any (w0:World) (v:Value) (c:List Kd) (x:ByteArray) (w:World) (hb0:Below w0.heap.size w0 w) (hv:Cat w0 v c) (hl:c.length≤100000) :
    Calls Tryz.prog 78 #[.agg #[v],.string x] w fun e w'=>∃ A m,e = .returned (.tuple #[.agg #[.string ((kfind c x).getD noKd).name,.bool ((kfind c x).getD noKd).veh,.slice A ((kfind c x).getD noKd).slots.length m],.bool (kfind c x).isSome])∧Rd 3 SkR w0 (.slice A ((kfind c x).getD noKd).slots.length m) ((kfind c x).getD noKd).slots∧Below w.heap.size w w':=by
  obtain ⟨A,cc,rfl,hn⟩:=hv.form
  have h1:=(Has.new w 24 #[.slice A c.length cc]).alloc (.cells #[.string ⟨#[]⟩,.bool false,.slice none 0 0] 79)
  have h2:=Has.new (w.alloc (.cells #[.slice A c.length cc] 24)) 79 #[.string ⟨#[]⟩,.bool false,.slice none 0 0]
  simp only [World.size_alloc] at h2
  have hb:Below w.heap.size w ((w.alloc (.cells #[.slice A c.length cc] 24)).alloc (.cells #[.string ⟨#[]⟩,.bool false,.slice none 0 0] 79)):=((Below.refl _ _).alloc (Nat.le_refl _) _).alloc (by simp) _
  have HV:=Lib.hid hv
  have HB0:=Lib.hid hb0
  have HC1:=Lib.hid h1
  have HP1:=Lib.hid h2
  have HB1:=Lib.hid hb
  clear hv hb0 h1 h2 hb
  go_enter Tryz.func78,Tryz.ntmps78
  go_wp2_with fail
  go_loopw [6] (fun i wr=>∃ k:Nat,k≤c.length∧i = .int .i64 k∧Hid (∀ q∈c.take k,q.name ≠ x)∧Hid (Has wr w.heap.size 24 #[.slice A c.length cc])∧Hid (Has wr (w.heap.size+1) 79 #[.string ⟨#[]⟩,.bool false,.slice none 0 0])∧Hid (Below w.heap.size w wr)) (fun i _=>c.length - (intOf i).toNat)
  case atStart=>exact ⟨0,Nat.zero_le _,rfl,fun q hq=>by simp at hq,HC1.out,HP1.out,HB1.out⟩
  case round =>
    obtain ⟨k,hk,rfl,HT,HC,HP,HB⟩:=hrel
    clear HC1 HP1 HB1
    have hwr:w.heap.size+1 < wr.heap.size:=HP.out.lt
    obtain ⟨x1,y1⟩:=HC.out.facts
    by_cases hlt:k < c.length
    · obtain ⟨b,o,c',cs,he,_,⟨sv,rfl,hsv⟩,_,hrg⟩:=HV.out.get hlt noKd
      injection he with e1 e2 e3
      subst e1;subst e3
      obtain ⟨A2,c2,rfl,hn2⟩:=hsv.form
      have HSV:=Lib.hid hsv
      have hrg':=range_later hrg (HB0.out.trans (HB.out.mono HB0.out.size))
      have HAT:=Lib.hid (fun he=>show kfind c x = some (c.getD k noKd) from find_at Kd.name hlt HT.out he)
      have HNX:=Lib.hid (fun he=>find_next Kd.name hlt HT.out (d:=noKd) he)
      have hki:(k:Int) < (c.length:Int):=by omega
      clear hrg hsv
      generalize c.getD k noKd = q at *
      obtain ⟨name,veh,slots⟩:=q
      replace hrg':wr.rangeAt b (o+k*3) [.string name,.bool veh,.slice A2 slots.length c2]:=hrg'
      have r0:wr.cell? ⟨b,o+k*3,none⟩ = some (.string name):=hrg' 0 _ rfl
      cases he:(name.toList == x.toList)
      · have hne:name ≠ x:=by rw [beq_bytes] at he;exact of_decide_eq_false he
        have HN:=Lib.hid (HNX.out hne)
        clear hne
        go_wp2_with fail
        go_roundw
        case rel=>exact ⟨k+1,by omega,by go_num,HN.out,HC.out,HP.out,HB.out⟩
        case measure=>simp [intOf];omega
      · have heq:name = x:=by rw [beq_bytes] at he;exact of_decide_eq_true he
        have HE:=Lib.hid (HAT.out heq)
        clear heq
        have HT7:=Lib.hid (thereH (n:=3) HP.out (by simp))
        obtain ⟨W,hWe,hW,hB⟩:=stored HP.out HB.out (by omega:w.heap.size≤w.heap.size+1) #[.string name,.bool veh,.slice A2 slots.length c2] rfl
        obtain ⟨n4,n5⟩:=hW.facts
        have HB9:=Lib.hid hB
        clear hB hW
        go_wp2_with (first | ((with_reducible show wpList _ _ _ (Oper.mk (some 26) _ _ _ _ _ :: _) _ _);refine wpList_load_mid rfl 79 _ rfl b (o+k*3) rfl _ _ hrg' Tryz.underlying79 rfl rfl ?_) | ((with_reducible show wpList _ _ _ (Oper.mk none (Op.store 79 (Operand.tmp 4) _) _ _ _ _ :: _) _ _);refine wpList_store_mid rfl 79 _ _ rfl (w.heap.size+1) 0 #[.string name,.bool veh,.slice A2 slots.length c2] rfl rfl HT7.out sizeKd (oneKd ..) ?_;rw [hWe]))
        refine bodyPost_ret (v:=.tuple #[.agg #[.string name,.bool veh,.slice A2 slots.length c2],.bool true]) (by simp [results,Tryz.results78,go_sem,n4]) rfl ?_
        exact ⟨A2,c2,by rw [HE.out];rfl,by rw [HE.out];exact HSV.out,HB9.out⟩
    · obtain rfl:k = c.length:=by omega
      have HE:=Lib.hid (show kfind c x = none from find_all Kd.name HT.out)
      have HT7:=Lib.hid (thereH (n:=3) HP.out (by simp))
      obtain ⟨W,hWe,hW,hB⟩:=stored HP.out HB.out (by omega:w.heap.size≤w.heap.size+1) #[.string ⟨#[]⟩,.bool false,.slice none 0 0] rfl
      obtain ⟨n4,n5⟩:=hW.facts
      have HB9:=Lib.hid hB
      clear hB hW
      go_wp2_with ((with_reducible show wpList _ _ _ (Oper.mk none (Op.store 79 (Operand.tmp 4) _) _ _ _ _ :: _) _ _);refine wpList_store_mid rfl 79 _ _ rfl (w.heap.size+1) 0 #[.string ⟨#[]⟩,.bool false,.slice none 0 0] rfl rfl HT7.out sizeKd (oneKd ..) ?_;rw [hWe])
      refine bodyPost_ret (v:=.tuple #[.agg #[.string ⟨#[]⟩,.bool false,.slice none 0 0],.bool false]) (by simp [results,Tryz.results78,go_sem,n4]) rfl ?_
      exact ⟨none,0,by rw [HE.out];rfl,by rw [HE.out];exact Rd.nil _ _,HB9.out⟩
set_option maxRecDepth 100000 in
set_option maxHeartbeats 2000000 in
theorem refGet_any (w0:World) (v:Value) (c:List Kd) (x y:ByteArray) (w:World) (hb0:Below w0.heap.size w0 w) (hv:Cat w0 v c) (hl:c.length≤100000) (hs:∀ k∈c,k.short) :
    Calls Tryz.prog 89 #[.agg #[v],.string x,.string y] w fun e w'=>∃ A m,e = .returned (.tuple #[.agg #[.string ((sfind ((kfind c x).getD noKd).slots y).getD noSk).name,.slice A ((sfind ((kfind c x).getD noKd).slots y).getD noSk).kinds.length m,.int .i64 ((sfind ((kfind c x).getD noKd).slots y).getD noSk).norm],.bool (sfind ((kfind c x).getD noKd).slots y).isSome])∧Sl w0 (.slice A ((sfind ((kfind c x).getD noKd).slots y).getD noSk).kinds.length m) ((sfind ((kfind c x).getD noKd).slots y).getD noSk).kinds.length 1 (strF ((sfind ((kfind c x).getD noKd).slots y).getD noSk).kinds)∧Below w.heap.size w w':=by
  obtain ⟨A,cc,rfl,hn⟩:=hv.form
  have h2:=Has.new (w.alloc (.cells #[.slice A c.length cc] 24)) 102 #[.string ⟨#[]⟩,.slice none 0 0,.int .i64 0]
  simp only [World.size_alloc] at h2
  have hb:Below w.heap.size w ((w.alloc (.cells #[.slice A c.length cc] 24)).alloc (.cells #[.string ⟨#[]⟩,.slice none 0 0,.int .i64 0] 102)):=((Below.refl _ _).alloc (Nat.le_refl _) _).alloc (by simp) _
  have HB0:=Lib.hid hb0
  have HP1:=Lib.hid h2
  have HB1:=Lib.hid hb
  have HF:=Lib.hid (fun W (h:Below w0.heap.size w0 W)=>refFind_any w0 _ c x W h hv hl)
  have hks:=kfind_short hs x
  clear hv hb0 h2 hb
  generalize (kfind c x).getD noKd = q at *
  generalize (kfind c x).isSome = qb at *
  obtain ⟨s,vb,ss⟩:=q
  obtain ⟨_,hsl,_⟩:=hks
  dsimp only at hsl HF ⊢
  go_enter Tryz.func89,Tryz.ntmps89
  go_wp2_with fail
  refine (HF.out _ (HB0.out.trans (HB1.out.mono HB0.out.size))).mono ?_
  rintro e w1 ⟨A1,m1,rfl,hr1,hb1⟩
  have HR1:=Lib.hid hr1
  have HP2:=Lib.hid ((HP1.out.below hb1 HP1.out.lt).alloc (.cells #[.string s,.bool vb,.slice A1 ss.length m1] 79))
  have HB2:=Lib.hid ((HB1.out.trans (hb1.mono HB1.out.size)).alloc (HB1.out.trans (hb1.mono HB1.out.size)).size (.cells #[.string s,.bool vb,.slice A1 ss.length m1] 79))
  have HK2:=Lib.hid (Has.new w1 79 #[.string s,.bool vb,.slice A1 ss.length m1])
  have hz1:w.heap.size+1 < w1.heap.size:=(HP1.out.below hb1 HP1.out.lt).lt
  clear hb1 hr1 HP1 HB1
  go_wp2_with fail
  go_loopw [10] (fun i wr=>∃ k:Nat,k≤ss.length∧i = .int .i64 k∧Hid (∀ q∈ss.take k,q.name ≠ y)∧Hid (Has wr (w.heap.size+1) 102 #[.string ⟨#[]⟩,.slice none 0 0,.int .i64 0])∧Hid (Has wr w1.heap.size 79 #[.string s,.bool vb,.slice A1 ss.length m1])∧Hid (Below w.heap.size w wr)) (fun i _=>ss.length - (intOf i).toNat)
  case atStart=>exact ⟨0,Nat.zero_le _,rfl,fun q hq=>by simp at hq,HP2.out,HK2.out,HB2.out⟩
  case round =>
    obtain ⟨k,hk,rfl,HT,HP,HK,HB⟩:=hrel
    clear HP2 HK2 HB2
    have hwr:w1.heap.size < wr.heap.size:=HK.out.lt
    obtain ⟨x1,y1⟩:=HK.out.facts
    by_cases hlt:k < ss.length
    · obtain ⟨b,o,c',cs,he,_,⟨sv,rfl,hsv⟩,_,hrg⟩:=HR1.out.get hlt noSk
      injection he with e1 e2 e3
      subst e1;subst e3
      obtain ⟨A2,c2,hsv2,hn2,hsv3⟩:=id hsv
      subst hsv2
      have HSV:=Lib.hid hsv
      have hrg':=range_later hrg (HB0.out.trans (HB.out.mono HB0.out.size))
      have HAT:=Lib.hid (fun he=>show sfind ss y = some (ss.getD k noSk) from find_at Sk.name hlt HT.out he)
      have HNX:=Lib.hid (fun he=>find_next Sk.name hlt HT.out (d:=noSk) he)
      have hki:(k:Int) < (ss.length:Int):=by omega
      clear hrg hsv hsv3
      generalize ss.getD k noSk = q at *
      obtain ⟨name,kinds,norm⟩:=q
      replace hrg':wr.rangeAt b (o+k*3) [.string name,.slice A2 kinds.length c2,.int .i64 norm]:=hrg'
      have r0:wr.cell? ⟨b,o+k*3,none⟩ = some (.string name):=hrg' 0 _ rfl
      cases he:(name.toList == y.toList)
      · have hne:name ≠ y:=by rw [beq_bytes] at he;exact of_decide_eq_false he
        have HN:=Lib.hid (HNX.out hne)
        clear hne
        go_wp2_with fail
        go_roundw
        case rel=>exact ⟨k+1,by omega,by go_num,HN.out,HP.out,HK.out,HB.out⟩
        case measure=>simp [intOf];omega
      · have heq:name = y:=by rw [beq_bytes] at he;exact of_decide_eq_true he
        have HE:=Lib.hid (HAT.out heq)
        clear heq
        have HT7:=Lib.hid (thereH (n:=3) HP.out (by simp))
        obtain ⟨W,hWe,hW,hB⟩:=stored HP.out HB.out (by omega:w.heap.size≤w.heap.size+1) #[.string name,.slice A2 kinds.length c2,.int .i64 norm] rfl
        obtain ⟨n4,n5⟩:=hW.facts
        have HB9:=Lib.hid hB
        clear hB hW
        go_wp2_with (first | ((with_reducible show wpList _ _ _ (Oper.mk (some 36) _ _ _ _ _ :: _) _ _);refine wpList_load_mid rfl 102 _ rfl b (o+k*3) rfl _ _ hrg' Tryz.underlying102 rfl rfl ?_) | ((with_reducible show wpList _ _ _ (Oper.mk none (Op.store 102 (Operand.tmp 6) _) _ _ _ _ :: _) _ _);refine wpList_store_mid rfl 102 _ _ rfl (w.heap.size+1) 0 #[.string name,.slice A2 kinds.length c2,.int .i64 norm] rfl rfl HT7.out sizeSk (oneSk ..) ?_;rw [hWe]))
        refine bodyPost_ret (v:=.tuple #[.agg #[.string name,.slice A2 kinds.length c2,.int .i64 norm],.bool true]) (by simp [results,Tryz.results89,go_sem,n4]) rfl ?_
        exact ⟨A2,c2,by rw [HE.out];rfl,by rw [HE.out];exact HSV.out,HB9.out⟩
    · obtain rfl:k = ss.length:=by omega
      have HE:=Lib.hid (show sfind ss y = none from find_all Sk.name HT.out)
      have HT7:=Lib.hid (thereH (n:=3) HP.out (by simp))
      obtain ⟨W,hWe,hW,hB⟩:=stored HP.out HB.out (by omega:w.heap.size≤w.heap.size+1) #[.string ⟨#[]⟩,.slice none 0 0,.int .i64 0] rfl
      obtain ⟨n4,n5⟩:=hW.facts
      have HB9:=Lib.hid hB
      clear hB hW
      go_wp2_with ((with_reducible show wpList _ _ _ (Oper.mk none (Op.store 102 (Operand.tmp 6) _) _ _ _ _ :: _) _ _);refine wpList_store_mid rfl 102 _ _ rfl (w.heap.size+1) 0 #[.string ⟨#[]⟩,.slice none 0 0,.int .i64 0] rfl rfl HT7.out sizeSk (oneSk ..) ?_;rw [hWe])
      refine bodyPost_ret (v:=.tuple #[.agg #[.string ⟨#[]⟩,.slice none 0 0,.int .i64 0],.bool false]) (by simp [results,Tryz.results89,go_sem,n4]) rfl ?_
      exact ⟨none,0,by rw [HE.out];rfl,by rw [HE.out];exact ⟨_,_,rfl,by decide,.inl rfl⟩,HB9.out⟩
set_option maxRecDepth 100000 in
set_option maxHeartbeats 1000000 in
theorem refTakes_any (w0:World) (v:Value) (c:List Kd) (x y z:ByteArray) (w:World) (hb0:Below w0.heap.size w0 w) (hv:Cat w0 v c) (hl:c.length≤100000) (hs:∀ k∈c,k.short) :
    Calls Tryz.prog 53 #[.agg #[v],.string x,.string y,.string z] w fun e w'=>e = .returned (.bool (takesB c x y z))∧Below w.heap.size w w':=by
  have hks:=kfind_short hs x
  obtain ⟨_,hsl,hss⟩:=hks
  have hsh:=sfind_short hss y
  have HF:=Lib.hid (fun W (h:Below w0.heap.size w0 W)=>refGet_any w0 _ c x y W h hv hl hs)
  obtain ⟨A,cc,rfl,hn⟩:=hv.form
  have hb:Below w.heap.size w (w.alloc (.cells #[.slice A c.length cc] 24)):=(Below.refl _ _).alloc (Nat.le_refl _) _
  have HB:=Lib.hid hb
  have HB0:=Lib.hid hb0
  have ht:takesB c x y z = ((sfind ((kfind c x).getD noKd).slots y).isSome && hasB ((sfind ((kfind c x).getD noKd).slots y).getD noSk).kinds z):=by
    unfold takesB
    cases sfind ((kfind c x).getD noKd).slots y <;> rfl
  rw [ht]
  clear ht hv hb hb0 hss hsl
  generalize (sfind ((kfind c x).getD noKd).slots y).isSome = tb at *
  generalize (sfind ((kfind c x).getD noKd).slots y).getD noSk = q at *
  obtain ⟨sn,ks,nm⟩:=q
  obtain ⟨_,hkl,_⟩:=hsh
  dsimp only at hkl HF ⊢
  go_enter Tryz.func53,Tryz.ntmps53
  go_wp2_with fail
  refine (HF.out _ (HB0.out.trans (HB.out.mono HB0.out.size))).mono ?_
  rintro e w1 ⟨A1,m1,rfl,hs1,hb1⟩
  have HS1:=Lib.hid hs1
  have HB2:=Lib.hid ((HB.out.trans (hb1.mono HB.out.size)).alloc (HB.out.trans (hb1.mono HB.out.size)).size (.cells #[.string sn,.slice A1 ks.length m1,.int .i64 nm] 102))
  clear hb1 hs1 HB
  cases tb
  · go_wp2_with fail
    go_ret
    exact ⟨rfl,HB2.out⟩
  · go_wp2_with (go_at_call 87;refine (refIn_any _ ks z _ (HS1.out.below (HB0.out.trans (HB2.out.mono HB0.out.size))) hkl).mono ?_;rintro e w2 ⟨rfl,rfl⟩)
    go_ret
    exact ⟨rfl,HB2.out⟩
end Go.Proofs.YtpikcofbhkbifaaGreat
namespace Go.Proofs.YtpikcofbhkbifaaGreat
open Go Go.RowKit
theorem hasB_iff (l:List ByteArray) (x:ByteArray):hasB l x = true ↔ x∈l:=by
  unfold hasB;rw [List.any_eq_true]
  exact ⟨fun ⟨y,h1,h2⟩=>by rw [←of_decide_eq_true h2];exact h1,fun h=>⟨x,h,decide_eq_true rfl⟩⟩
theorem kind_free:∀ {l:List Kd},(l.map Kd.name).Nodup→∀ x,(l.any fun k=>decide (k.name = x) && !k.veh) = ((kfind l x).isSome && !((kfind l x).getD noKd).veh)
  | [],_,_=>rfl
  | k :: l,h,x=>by
    rw [List.map_cons,List.nodup_cons] at h
    by_cases e:k.name = x
    · have h2:kfind (k :: l) x = some k:=by unfold kfind;simp [e]
      have h3:(l.any fun k=>decide (k.name = x) && !k.veh) = false:=by
        rw [List.any_eq_false]
        intro q hq hc
        rw [Bool.and_eq_true,decide_eq_true_eq] at hc
        exact h.1 (by rw [e, ← hc.1];exact List.mem_map.2 ⟨q,hq,rfl⟩)
      rw [List.any_cons,h3,h2];simp [e]
    · have h2:kfind (k :: l) x = kfind l x:=by unfold kfind;simp [e]
      rw [List.any_cons,h2,kind_free h.2 x];simp [e]
theorem slotOk_head {pre:List Kd} {s:Sk} (h:nameB s.name = false∨s.norm < 1∨(s.kinds.length:Int) < s.norm):slotOk pre s = false:=by
  unfold slotOk
  rcases h with h | h | h
  · rw [h];rfl
  · rw [decide_eq_false (show ¬ 1≤s.norm by omega)];simp
  · rw [decide_eq_false (show ¬ s.norm≤s.kinds.length by omega)];simp
theorem Sl.front {w:World} {A:Option Addr} {l:List ByteArray} {c k:Nat} (h:Sl w (.slice A l.length c) l.length 1 (strF l)) (hk:k≤l.length):Sl w (.slice A k c) (l.take k).length 1 (strF (l.take k)):=by
  obtain ⟨A',c',he,hn,hc⟩:=h
  injection he with e1 _ e3
  subst e1;subst e3
  have hlen:(l.take k).length = k:=by rw [List.length_take];omega
  refine ⟨A,c,by rw [hlen],by omega,?_⟩
  rcases hc with h0 | ⟨b,o,hA,hc⟩
  · exact .inl (by omega)
  · refine .inr ⟨b,o,hA,fun j hj=>?_⟩
    rw [hc j (by omega)]
    unfold strF
    rw [List.getD_eq_getElem?_getD,List.getD_eq_getElem?_getD,List.getElem?_take_of_lt (by omega)]
theorem Rd.front {α:Type} {C:Nat} {R:World→List Value→α→Prop} {w:World} {A:Option Addr} {l:List α} {c k:Nat} (h:Rd C R w (.slice A l.length c) l) (hk:k≤l.length):Rd C R w (.slice A k c) (l.take k):=by
  obtain ⟨A',c',he,hn,hc⟩:=h
  injection he with e1 _ e3
  subst e1;subst e3
  have hlen:(l.take k).length = k:=by rw [List.length_take];omega
  refine ⟨A,c,by rw [hlen],by omega,?_⟩
  rcases hc with h0 | ⟨b,o,hA,hc⟩
  · exact .inl (by omega)
  · refine .inr ⟨b,o,hA,fun i a hi=>hc i a ?_⟩
    by_cases hik:i < k
    · rwa [List.getElem?_take_of_lt hik] at hi
    · rw [List.getElem?_eq_none (by omega)] at hi;cases hi
set_option maxRecDepth 100000 in
set_option maxHeartbeats 4000000 in
theorem refSlot_any (w0:World) (cv:Value) (pre:List Kd) (name:ByteArray) (ks:List ByteArray) (nm:Int) (A:Option Addr) (m:Nat) (w:World) (hb0:Below w0.heap.size w0 w) (hv:Cat w0 cv pre) (hl:pre.length≤100000) (hnd:(pre.map Kd.name).Nodup) (hk:Sl w0 (.slice A ks.length m) ks.length 1 (strF ks)) (hkl:ks.length≤100000) (hs:name.size≤maxLen) :
    Calls Tryz.prog 86 #[.agg #[cv],.agg #[.string name,.slice A ks.length m,.int .i64 nm]] w fun e w'=>e = .returned (.bool (slotOk pre ⟨name,ks,nm⟩))∧Below w.heap.size w w':=by
  obtain ⟨A',cc,rfl,hn⟩:=hv.form
  have k1:=(Has.new w 24 #[.slice A' pre.length cc]).alloc (.cells #[.string name,.slice A ks.length m,.int .i64 nm] 102)
  have k2:=Has.new (w.alloc (.cells #[.slice A' pre.length cc] 24)) 102 #[.string name,.slice A ks.length m,.int .i64 nm]
  simp only [World.size_alloc] at k2
  have K1:=Lib.hid k1
  have K2:=Lib.hid k2
  have HB:=Lib.hid (((Below.refl w.heap.size w).alloc (Nat.le_refl _) (.cells #[.slice A' pre.length cc] 24)).alloc (by simp) (.cells #[.string name,.slice A ks.length m,.int .i64 nm] 102))
  have HB0:=Lib.hid hb0
  have HK:=Lib.hid hk
  have HND:=Lib.hid hnd
  have HNO:=Lib.hid (fun h=>slotOk_head (pre:=pre) (s:=⟨name,ks,nm⟩) h)
  have HF:=Lib.hid (fun x W (h:Below w0.heap.size w0 W)=>refFind_any w0 _ pre x W h hv hl)
  clear k1 k2 hb0 hv hk hnd
  cases hnb:nameB name
  · have HN:=Lib.hid hnb
    clear hnb
    go_enter Tryz.func86,Tryz.ntmps86
    go_wp2_with (go_at_call 76;refine (refName_any name _ hs).mono ?_;rintro e wn ⟨rfl,rfl⟩;rw [HN.out])
    go_ret
    exact ⟨ret_bool (HNO.out (.inl HN.out)).symm,HB.out⟩
  have HN:=Lib.hid hnb
  clear hnb
  by_cases n1:nm < 1
  · go_enter Tryz.func86,Tryz.ntmps86
    go_wp2_with (go_at_call 76;refine (refName_any name _ hs).mono ?_;rintro e wn ⟨rfl,rfl⟩;rw [HN.out])
    go_ret
    exact ⟨ret_bool (HNO.out (.inr (.inl n1))).symm,HB.out⟩
  by_cases n2:(ks.length:Int) < nm
  · go_enter Tryz.func86,Tryz.ntmps86
    go_wp2_with (go_at_call 76;refine (refName_any name _ hs).mono ?_;rintro e wn ⟨rfl,rfl⟩;rw [HN.out])
    go_ret
    exact ⟨ret_bool (HNO.out (.inr (.inr n2))).symm,HB.out⟩
  have HG:=Lib.hid (fun h=>slotOk_good (pre:=pre) (s:=⟨name,ks,nm⟩) HN.out (by show (1:Int)≤nm;omega) (by show nm≤(ks.length:Int);omega) h)
  have HBD:=Lib.hid (fun n h hb=>slotOk_bad (pre:=pre) (s:=⟨name,ks,nm⟩) (n:=n) h hb)
  go_enter Tryz.func86,Tryz.ntmps86
  go_wp2_with (go_at_call 76;refine (refName_any name _ hs).mono ?_;rintro e wn ⟨rfl,rfl⟩;rw [HN.out])
  clear n1 n2 HNO HN
  go_loopw [5] (fun i wr=>∃ k:Nat,k≤ks.length∧i = .int .i64 k∧Hid (kindsOk pre ks k)∧Hid (Has wr w.heap.size 24 #[.slice A' pre.length cc])∧Hid (Has wr (w.heap.size+1) 102 #[.string name,.slice A ks.length m,.int .i64 nm])∧Hid (Below w.heap.size w wr)) (fun i _=>ks.length - (intOf i).toNat)
  case atStart=>exact ⟨0,Nat.zero_le _,rfl,⟨by simp,fun x hx=>by simp at hx⟩,K1.out,K2.out,HB.out⟩
  case round =>
    obtain ⟨k,hk,rfl,HT,HC,HP,HBB⟩:=hrel
    clear K1 K2 HB
    obtain ⟨w1,rfl⟩:∃ w1,w1 = wr:=⟨_,rfl⟩
    obtain ⟨x1,y1⟩:=HC.out.facts
    obtain ⟨x2,y2⟩:=HP.out.facts
    by_cases hlt:k < ks.length
    · obtain ⟨A2,m2,he,hn2,hc⟩:=id HK.out
      injection he with e1 _ e3
      subst e1;subst e3
      rcases hc with h0 | ⟨b,o,rfl,hc⟩
      · omega
      have HB1:=Lib.hid (HB0.out.trans (HBB.out.mono HB0.out.size))
      have hq:w1.cell? ⟨b,o+k,none⟩ = some (.string (ks.getD k eS)):=cell_later HB1.out (hc k (by omega))
      have HFR:=Lib.hid (HK.out.front hk)
      have HLT:=Lib.hid (show (ks.take k).length = k by rw [List.length_take];omega)
      have HD:=Lib.hid (HBD.out k hlt)
      have HSTP:=Lib.hid (kindsOk_step HT.out hlt)
      have hki:(k:Int) < (ks.length:Int):=by omega
      have hk0:(0:Int)≤(k:Int):=by omega
      have HIN:=Lib.hid (hasB_iff (ks.take k) (ks.getD k eS))
      have HKF:=Lib.hid (kind_free HND.out (ks.getD k eS))
      have hbb:Below w1.heap.size w1 w1:=Below.refl _ _
      clear hc HG

      have HFQ:=Lib.hid (HF.out (ks.getD k eS))
      generalize ks.getD k eS = q at *
      generalize (kfind pre q).isSome = fb at HFQ HKF
      generalize (kfind pre q).getD noKd = fk at HFQ HKF
      obtain ⟨fn,fv,fs⟩:=fk
      dsimp only at HFQ HKF
      have HQI:=Lib.hid (fun W (h:Below w1.heap.size w1 W)=>refIn_any _ (ks.take k) q W (HFR.out.below (HB1.out.trans (h.mono HB1.out.size))) (by rw [HLT.out];omega))
      generalize hasB (ks.take k) q = hb at HIN HQI
      go_wp2_with fail
      have HKs:=Lib.hid (fun W (h:Below w1.heap.size w1 W)=>(⟨h,cell_later h (x1 0),cell_later h (x2 1),cell_later h hq⟩:Below w1.heap.size w1 W∧W.cell? ⟨w.heap.size,0,none⟩ = some (.slice A' pre.length cc)∧W.cell? ⟨w.heap.size+1,1,none⟩ = some (.slice (some ⟨b,o,none⟩) ks.length m)∧W.cell? ⟨b,o+k,none⟩ = some (.string q)))
      refine wp_region_held_drew (S:=fun W=>Below w1.heap.size w1 W∧W.cell? ⟨w.heap.size,0,none⟩ = some (.slice A' pre.length cc)∧W.cell? ⟨w.heap.size+1,1,none⟩ = some (.slice (some ⟨b,o,none⟩) ks.length m)∧W.cell? ⟨b,o+k,none⟩ = some (.string q)) (by kernel_rfl) (HKs.out _ hbb.drew) (fun hHeld=>?_)
      refine plI [(0,false),(1,false),(2,false),(3,false),(4,false),(5,false)] ?_
      repeat ((first | refine plF ?_ | (refine plR (v:=?_) ?_ ?_;rotate_left;focus (intro W hSW;(try dsimp only at hSW);go_simp;all_goals (with_reducible rfl))));try simp only [Act.put,List.setIfInBounds_toArray,List.set_cons_zero,List.set_cons_succ])
      refine plE ?_
      refine wpAnyH_ready (rs:=[6,10]) (by kernel_rfl) (by simp) ?_
      refine AllReadyH.cons (o:=⟨_,_,_,_,_,_⟩) rfl (fun K hK=>?_) ?_
      · go_simp
        go_at_call 78;refine (HFQ.out _ (HB1.out.trans ((hbb.drew).mono HB1.out.size))).mono ?_;rintro e w5 ⟨A5,m5,rfl,_,hb5⟩;have hbw5:Below w1.heap.size w1 w5:=(hbb.drew).trans (hb5.mono (hbb.drew).size);clear hb5
        refine hK.out _ _ (HKs.out _ hbw5) (fun hHeld=>?_)
        clear hK K
        try simp only [Act.put,List.setIfInBounds_toArray,List.set_cons_zero,List.set_cons_succ]
        refine plI [(7,false),(8,false),(9,false)] ?_
        repeat ((first | refine plF ?_ | (refine plR (v:=?_) ?_ ?_;rotate_left;focus (intro W hSW;(try dsimp only at hSW);go_simp;all_goals (with_reducible rfl))));try simp only [Act.put,List.setIfInBounds_toArray,List.set_cons_zero,List.set_cons_succ])
        refine plE ?_
        refine wpAnyH_ready (rs:=[10]) (by kernel_rfl) (by simp) ?_
        refine AllReadyH.cons (o:=⟨_,_,_,_,_,_⟩) rfl (fun K hK=>?_) AllReadyH.nil
        go_simp
        have hbA:Below w1.heap.size w1 (w5.alloc (.cells #[.string ⟨#[]⟩,.bool false,.slice none 0 0] 79)):=hbw5.alloc hbw5.size _
        have hA:=Has.new w5 79 #[.string ⟨#[]⟩,.bool false,.slice none 0 0]
        refine hK.out _ _ (HKs.out _ hbA) (fun hHeld=>?_)
        clear hK K
        try simp only [Act.put,List.setIfInBounds_toArray,List.set_cons_zero,List.set_cons_succ]
        refine wpAnyH_ready (rs:=[11]) (by kernel_rfl) (by simp) ?_
        refine AllReadyH.cons (o:=⟨_,_,_,_,_,_⟩) rfl (fun K hK=>?_) AllReadyH.nil
        rw [if_pos (show Region.wanted _ _ = true by rfl)]
        obtain ⟨W,hWe,hW,hBW⟩:=stored hA hbA hbw5.size #[.string fn,.bool fv,.slice A5 fs.length m5] rfl
        have hTh:=thereH (n:=3) hA (by simp)
        refine wp_store_mid 79 _ _ rfl (w5.heap.size) 0 #[.string fn,.bool fv,.slice A5 fs.length m5] rfl rfl hTh sizeKd (oneKd ..) ?_
        rw [hWe]
        refine hK.out _ _ (HKs.out _ hBW) (fun hHeld=>?_)
        clear hK K
        try simp only [Act.put]
        refine plI [(12,false)] ?_
        repeat ((first | refine plF ?_ | (refine plR (v:=?_) ?_ ?_;rotate_left;focus (intro W hSW;(try dsimp only at hSW);go_simp;all_goals (with_reducible rfl))));try simp only [Act.put,List.setIfInBounds_toArray,List.set_cons_zero,List.set_cons_succ])
        refine plE ?_
        refine wpAnyH_done (by kernel_rfl) ?_ _
        clear hHeld hA hTh hWe
        have HW:=Lib.hid hBW
        obtain ⟨x6,y6⟩:=hW.facts
        have HX:=Lib.hid (HP.out.below hBW HP.out.lt)
        have HY:=Lib.hid (HC.out.below hBW HC.out.lt)
        have hq6:=cell_later hBW hq
        obtain ⟨x7,y7⟩:=HX.out.facts
        clear hW x1 y1 x2 y2 hq
        cases fb
        · have HDD:=Lib.hid (HD.out (.inr (by rw [HKF.out];rfl)))
          go_wp2_with fail
          go_quiet (fail)
          go_wp2_with fail
          go_ret
          exact ⟨ret_bool (by rw [HDD.out]),below_drewN (HBB.out.trans (HW.out.mono HBB.out.size)) _⟩
        cases fv
        rotate_left
        · have HDD:=Lib.hid (HD.out (.inr (by rw [HKF.out];rfl)))
          go_wp2_with fail
          go_quiet (fail)
          go_wp2_with fail
          go_ret
          exact ⟨ret_bool (by rw [HDD.out]),below_drewN (HBB.out.trans (HW.out.mono HBB.out.size)) _⟩
        cases hb
        · have HDD:=Lib.hid (HSTP.out (fun h=>by have:=HIN.out.2 h;cases this) (by rw [HKF.out];rfl))
          go_wp2_with fail
          go_quiet ((go_at_call 87;exact Calls.quiet_of_same (HQI.out _ (below_drewN HW.out _))))
          go_wp2_with fail
          go_roundw
          case rel=>exact ⟨k+1,by omega,by go_num,HDD.out,HY.out.drewN _,HX.out.drewN _,below_drewN (HBB.out.trans (HW.out.mono HBB.out.size)) _⟩
          case measure=>simp [intOf];omega
        · have HDD:=Lib.hid (HD.out (.inl (HIN.out.1 rfl)))
          go_wp2_with fail
          go_quiet ((go_at_call 87;exact Calls.quiet_of_same (HQI.out _ (below_drewN HW.out _))))
          go_wp2_with fail
          go_ret
          exact ⟨ret_bool (by rw [HDD.out]),below_drewN (HBB.out.trans (HW.out.mono HBB.out.size)) _⟩
      refine AllReadyH.cons (o:=⟨_,_,_,_,_,_⟩) rfl (fun K hK=>?_) AllReadyH.nil
      go_simp
      have hbA:Below w1.heap.size w1 ((w1.drew).alloc (.cells #[.string ⟨#[]⟩,.bool false,.slice none 0 0] 79)):=(hbb.drew).alloc (Nat.le_refl _) _
      have hA:Has ((w1.drew).alloc (.cells #[.string ⟨#[]⟩,.bool false,.slice none 0 0] 79)) w1.heap.size 79 #[.string ⟨#[]⟩,.bool false,.slice none 0 0]:=Has.new w1.drew 79 #[.string ⟨#[]⟩,.bool false,.slice none 0 0]
      refine hK.out _ _ (HKs.out _ hbA) (fun hHeld=>?_)
      clear hK K
      try simp only [Act.put,List.setIfInBounds_toArray,List.set_cons_zero,List.set_cons_succ]
      refine wpAnyH_ready (rs:=[6]) (by kernel_rfl) (by simp) ?_
      refine AllReadyH.cons (o:=⟨_,_,_,_,_,_⟩) rfl (fun K hK=>?_) AllReadyH.nil
      go_simp
      go_at_call 78;refine (HFQ.out _ (HB1.out.trans ((hbA).mono HB1.out.size))).mono ?_;rintro e w5 ⟨A5,m5,rfl,_,hb5⟩;have hbw5:Below w1.heap.size w1 w5:=(hbA).trans (hb5.mono (hbA).size);replace hA:=hA.below hb5 hA.lt;clear hb5
      refine hK.out _ _ (HKs.out _ hbw5) (fun hHeld=>?_)
      clear hK K
      try simp only [Act.put,List.setIfInBounds_toArray,List.set_cons_zero,List.set_cons_succ]
      refine plI [(7,false),(8,false),(9,false)] ?_
      repeat ((first | refine plF ?_ | (refine plR (v:=?_) ?_ ?_;rotate_left;focus (intro W hSW;(try dsimp only at hSW);go_simp;all_goals (with_reducible rfl))));try simp only [Act.put,List.setIfInBounds_toArray,List.set_cons_zero,List.set_cons_succ])
      refine plE ?_
      refine wpAnyH_ready (rs:=[11]) (by kernel_rfl) (by simp) ?_
      refine AllReadyH.cons (o:=⟨_,_,_,_,_,_⟩) rfl (fun K hK=>?_) AllReadyH.nil
      rw [if_pos (show Region.wanted _ _ = true by rfl)]
      obtain ⟨W,hWe,hW,hBW⟩:=stored hA hbw5 (Nat.le_refl _) #[.string fn,.bool fv,.slice A5 fs.length m5] rfl
      have hTh:=thereH (n:=3) hA (by simp)
      refine wp_store_mid 79 _ _ rfl (w1.heap.size) 0 #[.string fn,.bool fv,.slice A5 fs.length m5] rfl rfl hTh sizeKd (oneKd ..) ?_
      rw [hWe]
      refine hK.out _ _ (HKs.out _ hBW) (fun hHeld=>?_)
      clear hK K
      try simp only [Act.put]
      refine plI [(12,false)] ?_
      repeat ((first | refine plF ?_ | (refine plR (v:=?_) ?_ ?_;rotate_left;focus (intro W hSW;(try dsimp only at hSW);go_simp;all_goals (with_reducible rfl))));try simp only [Act.put,List.setIfInBounds_toArray,List.set_cons_zero,List.set_cons_succ])
      refine plE ?_
      refine wpAnyH_done (by kernel_rfl) ?_ _
      clear hHeld hA hTh hWe
      have HW:=Lib.hid hBW
      obtain ⟨x6,y6⟩:=hW.facts
      have HX:=Lib.hid (HP.out.below hBW HP.out.lt)
      have HY:=Lib.hid (HC.out.below hBW HC.out.lt)
      have hq6:=cell_later hBW hq
      obtain ⟨x7,y7⟩:=HX.out.facts
      clear hW x1 y1 x2 y2 hq
      cases fb
      · have HDD:=Lib.hid (HD.out (.inr (by rw [HKF.out];rfl)))
        go_wp2_with fail
        go_quiet (fail)
        go_wp2_with fail
        go_ret
        exact ⟨ret_bool (by rw [HDD.out]),below_drewN (HBB.out.trans (HW.out.mono HBB.out.size)) _⟩
      cases fv
      rotate_left
      · have HDD:=Lib.hid (HD.out (.inr (by rw [HKF.out];rfl)))
        go_wp2_with fail
        go_quiet (fail)
        go_wp2_with fail
        go_ret
        exact ⟨ret_bool (by rw [HDD.out]),below_drewN (HBB.out.trans (HW.out.mono HBB.out.size)) _⟩
      cases hb
      · have HDD:=Lib.hid (HSTP.out (fun h=>by have:=HIN.out.2 h;cases this) (by rw [HKF.out];rfl))
        go_wp2_with fail
        go_quiet ((go_at_call 87;exact Calls.quiet_of_same (HQI.out _ (below_drewN HW.out _))))
        go_wp2_with fail
        go_roundw
        case rel=>exact ⟨k+1,by omega,by go_num,HDD.out,HY.out.drewN _,HX.out.drewN _,below_drewN (HBB.out.trans (HW.out.mono HBB.out.size)) _⟩
        case measure=>simp [intOf];omega
      · have HDD:=Lib.hid (HD.out (.inl (HIN.out.1 rfl)))
        go_wp2_with fail
        go_quiet ((go_at_call 87;exact Calls.quiet_of_same (HQI.out _ (below_drewN HW.out _))))
        go_wp2_with fail
        go_ret
        exact ⟨ret_bool (by rw [HDD.out]),below_drewN (HBB.out.trans (HW.out.mono HBB.out.size)) _⟩
    · obtain rfl:k = ks.length:=by omega
      have HDD:=Lib.hid (HG.out HT.out)
      go_wp2_with fail
      go_ret
      exact ⟨ret_bool (by rw [HDD.out]),HBB.out⟩
end Go.Proofs.YtpikcofbhkbifaaGreat
namespace Go.Proofs.YtpikcofbhkbifaaGreat
open Go Go.RowKit
theorem own_belowR {w w':World} {base size n:Nat} {e:TypeId} {v:Value} {xs:List Value} (h:w.ownsRow base e size v n xs) (hb:Below w.heap.size w w'):w'.ownsRow base e size v n xs:=by
  refine ⟨h.1,?_⟩
  rcases h.2 with h0 | ⟨g,cap,cur,h1,h2,h3,h4⟩
  · exact .inl h0
  · exact .inr ⟨g,cap,cur,h1,h2,(hb.block g (Has.lt h3)).trans h3,h4⟩
theorem kfind_any (l:List Kd) (x:ByteArray):(l.any fun q=>decide (q.name = x)) = (kfind l x).isSome:=by
  unfold kfind
  rw [Bool.eq_iff_iff,List.any_eq_true,List.find?_isSome]
theorem kindOk_head {pre:List Kd} {k:Kd} (h:(kfind pre k.name).isSome = true∨nameB k.name = false∨12 < k.slots.length):kindOk pre k = false:=by
  unfold kindOk
  rw [kfind_any]
  rcases h with h | h | h
  · rw [h];rfl
  · rw [h];simp
  · rw [decide_eq_false (show ¬ k.slots.length≤12 by omega)];simp
theorem names_next (ss:List Sk) (j:Nat) (h:j < ss.length):(ss.take (j+1)).map Sk.name = (ss.take j).map Sk.name++[(ss.getD j noSk).name]:=by
  rw [take_getD ss j noSk h,List.map_append];rfl
set_option maxRecDepth 100000 in
set_option maxHeartbeats 8000000 in
theorem refCat_any (w0:World) (v:Value) (c:List Kd) (w:World) (hb0:Below w0.heap.size w0 w) (hv:Cat w0 v c) (hl:c.length≤100000) (hs:∀ k∈c,k.short) :
    Calls Tryz.prog 50 #[.agg #[v]] w fun e w'=>e = .returned (.bool (catB c))∧Below w.heap.size w w':=by
  obtain ⟨A,cc,rfl,hn⟩:=hv.form
  have HV:=Lib.hid hv
  have HS:=Lib.hid hs
  have HB0:=Lib.hid hb0
  have HC:=Lib.hid (Has.new w 24 #[.slice A c.length cc])
  have HB:=Lib.hid ((Below.refl w.heap.size w).alloc (Nat.le_refl _) (.cells #[.slice A c.length cc] 24))
  clear hv hs hb0
  by_cases h60:60 < c.length
  · have HD:=Lib.hid (show catB c = false by unfold catB;rw [decide_eq_false (show ¬ c.length≤60 by omega)];simp)
    have h60':(60:Int) < (c.length:Int):=by omega
    go_enter Tryz.func50,Tryz.ntmps50
    go_wp2_with fail
    go_ret
    exact ⟨ret_bool (by rw [HD.out]),HB.out⟩
  have h60':¬ (60:Int) < (c.length:Int):=by omega
  obtain ⟨i0,hi,hz0,hq1,hq2⟩:=info_parts info_strI
  have hI:=Lib.hid hi
  have hZ:=Lib.hid hz0
  clear hi hz0
  go_enter Tryz.func50,Tryz.ntmps50
  go_wp2_with fail
  go_loopw [3] (fun i wr=>∃ k:Nat,k≤c.length∧i = .int .i64 k∧Hid (catTo c k = true)∧Hid (Has wr w.heap.size 24 #[.slice A c.length cc])∧Hid (Below w.heap.size w wr)) (fun i _=>c.length - (intOf i).toNat)
  case atStart=>exact ⟨0,Nat.zero_le _,rfl,rfl,HC.out,HB.out⟩
  case round =>
    obtain ⟨k,hk,rfl,HT,HR,HBB⟩:=hrel
    clear HC HB
    obtain ⟨w1,rfl⟩:∃ w1,w1 = wr:=⟨_,rfl⟩
    obtain ⟨x1,y1⟩:=HR.out.facts
    have hz1:=HR.out.lt
    by_cases hlt:k < c.length
    · obtain ⟨b,o,c',cs,he,_,⟨sv,rfl,hsv⟩,_,hrg⟩:=HV.out.get hlt noKd
      injection he with e1 e2 e3
      subst e1;subst e3
      obtain ⟨A2,c2,rfl,hn2⟩:=hsv.form
      have HB1:=Lib.hid (HB0.out.trans (HBB.out.mono HB0.out.size))
      have hrg':=range_later hrg HB1.out
      have HSV:=Lib.hid hsv
      have hsh:=HS.out _ (getD_mem c k noKd hlt)
      have HBAD:=Lib.hid (fun h=>catTo_bad hlt h)
      have HSTP:=Lib.hid (fun h=>catTo_step HT.out h)
      have HNOD:=Lib.hid (catTo_names hk HT.out)
      have HPC:=Lib.hid (show Cat w0 (.slice (some ⟨b,o,none⟩) k cc) (c.take k) from HV.out.front hk)
      have HPL:=Lib.hid (show (c.take k).length = k by rw [List.length_take];omega)
      have hki:(k:Int) < (c.length:Int):=by omega
      have hk0:(0:Int)≤(k:Int):=by omega
      have hkc:(k:Int)≤(cc:Int):=by omega
      clear hrg hsv
      generalize c.getD k noKd = q at *
      generalize c.take k = pre at *
      obtain ⟨s,vb,ss⟩:=q
      obtain ⟨hs1,hs2,hs3⟩:=hsh
      have HS3:=Lib.hid hs3
      dsimp only at hs1 hs2
      replace hrg':w1.rangeAt b (o+k*3) [.string s,.bool vb,.slice A2 ss.length c2]:=hrg'
      have HFQ:=Lib.hid (fun W (h:Below w0.heap.size w0 W)=>refFind_any w0 _ pre s W h HPC.out (by rw [HPL.out];omega))
      have HHD:=Lib.hid (fun h=>HBAD.out (kindOk_head (pre:=pre) (k:=⟨s,vb,ss⟩) h))
      clear hs3
      generalize htw:(kfind pre s).isSome = tw at HFQ HHD
      have HTW:=Lib.hid htw
      clear htw
      generalize (kfind pre s).getD noKd = fk at HFQ
      obtain ⟨fn,fv,fs⟩:=fk
      dsimp only at HFQ HHD
      have HK2:=Lib.hid ((Has.new w1 79 #[.string s,.bool vb,.slice A2 ss.length c2]).alloc (.cells #[.slice (some ⟨b,o,none⟩) k cc] 24))
      have hc2:=Has.new (w1.alloc (.cells #[.string s,.bool vb,.slice A2 ss.length c2] 79)) 24 #[.slice (some ⟨b,o,none⟩) k cc]
      simp only [World.size_alloc] at hc2
      have HC2:=Lib.hid hc2
      have HB2:=Lib.hid (((Below.refl w1.heap.size w1).alloc (Nat.le_refl _) (.cells #[.string s,.bool vb,.slice A2 ss.length c2] 79)).alloc (by simp) (.cells #[.slice (some ⟨b,o,none⟩) k cc] 24))
      clear hc2
      go_wp2_with ((with_reducible show wpList _ _ _ (Oper.mk (some 25) _ _ _ _ _ :: _) _ _);refine wpList_load_mid rfl 79 _ rfl b (o+k*3) rfl _ _ hrg' Tryz.underlying79 rfl rfl ?_)
      refine (HFQ.out _ (HB1.out.trans (HB2.out.mono HB1.out.size))).mono ?_
      rintro e w2 ⟨A5,m5,rfl,_,hb2⟩
      have HK3:=Lib.hid ((HK2.out.below hb2 HK2.out.lt).alloc (.cells #[.string fn,.bool fv,.slice A5 fs.length m5] 79))
      have HC3:=Lib.hid ((HC2.out.below hb2 HC2.out.lt).alloc (.cells #[.string fn,.bool fv,.slice A5 fs.length m5] 79))
      have HB3:=Lib.hid ((HB2.out.trans (hb2.mono HB2.out.size)).alloc (HB2.out.trans (hb2.mono HB2.out.size)).size (.cells #[.string fn,.bool fv,.slice A5 fs.length m5] 79))
      obtain ⟨x3,y3⟩:=(HK2.out.below hb2 HK2.out.lt).facts
      obtain ⟨x4,y4⟩:=(HC2.out.below hb2 HC2.out.lt).facts
      have z3:=(HK2.out.below hb2 HK2.out.lt).lt
      have z4:=(HC2.out.below hb2 HC2.out.lt).lt
      clear hb2 x1 y1 hrg'
      cases tw
      rotate_left
      · go_wp2_with fail
        go_ret
        exact ⟨ret_bool (HHD.out (by simp)).symm,HBB.out.trans (HB3.out.mono HBB.out.size)⟩
      cases hnm:nameB s
      · have HN:=Lib.hid hnm
        clear hnm
        go_wp2_with (go_at_call 76;refine (refName_any s _ hs1).mono ?_;rintro e wn ⟨rfl,rfl⟩;rw [HN.out])
        go_ret
        exact ⟨ret_bool (HHD.out (.inr (.inl HN.out))).symm,HBB.out.trans (HB3.out.mono HBB.out.size)⟩
      have HN:=Lib.hid hnm
      clear hnm
      by_cases h12:12 < ss.length
      · have h12':(12:Int) < (ss.length:Int):=by omega
        go_wp2_with (go_at_call 76;refine (refName_any s _ hs1).mono ?_;rintro e wn ⟨rfl,rfl⟩;rw [HN.out])
        go_ret
        exact ⟨ret_bool (HHD.out (.inr (.inr h12))).symm,HBB.out.trans (HB3.out.mono HBB.out.size)⟩
      have HGOOD:=Lib.hid (fun h=>kindOk_good (pre:=pre) (k:=⟨s,vb,ss⟩) (by
        have h1:=HHD.out
        rw [kfind_any];exact HTW.out) HN.out (by show ss.length≤12;omega) h)
      have h12':¬ (12:Int) < (ss.length:Int):=by omega
      go_wp2_with (go_at_call 76;refine (refName_any s _ hs1).mono ?_;rintro e wn ⟨rfl,rfl⟩;rw [HN.out])
      obtain ⟨w3,hw3⟩:∃ w3,w3 = w2.alloc (.cells #[.string fn,.bool fv,.slice A5 fs.length m5] 79):=⟨_,rfl⟩
      rw [←hw3] at HK3 HC3 HB3
      rw [←hw3]
      clear hw3 x3 y3 x4 y4 z3 z4
      go_loopw [8,9] (fun nv jv wr=>∃ (j:Nat) (M:List ByteArray),j≤ss.length∧jv = .int .i64 j∧Hid (M = (ss.take j).map Sk.name)∧Hid (slotsOk pre ss j)∧Hid (wr.ownsRow w3.heap.size 9 1 nv M.length (M.map .string))∧Hid (Below w3.heap.size w3 wr)) (fun _ jv _=>ss.length - (intOf jv).toNat)
      case atStart=>exact ⟨0,[],Nat.zero_le _,rfl,rfl,⟨fun x hx=>by simp at hx,by simp⟩,World.ownsRow_nil _ _ _ _,Below.refl _ _⟩
      case round =>
        obtain ⟨j,M,hj,rfl,HM,HSL,HO,HB4⟩:=hrel
        obtain ⟨w4,rfl⟩:∃ w4,w4 = wr:=⟨_,rfl⟩
        have HK4:=Lib.hid (HK3.out.below HB4.out HK3.out.lt)
        have HC4:=Lib.hid (HC3.out.below HB4.out HC3.out.lt)
        obtain ⟨x4,y4⟩:=HK4.out.facts
        obtain ⟨x5,y5⟩:=HC4.out.facts
        have HB14:=Lib.hid ((HB1.out.trans (HB3.out.mono HB1.out.size)).trans (HB4.out.mono (HB1.out.trans (HB3.out.mono HB1.out.size)).size))
        have HBw4:=Lib.hid ((HBB.out.trans (HB3.out.mono HBB.out.size)).trans (HB4.out.mono (HBB.out.trans (HB3.out.mono HBB.out.size)).size))
        by_cases hltj:j < ss.length
        · obtain ⟨b2,o2,c2',cs2,he2,_,⟨sv2,rfl,hsv2⟩,_,hrg2⟩:=HSV.out.get hltj noSk
          injection he2 with e1 e2 e3
          subst e1;subst e3
          obtain ⟨A6,c6,hsv6,hn6,hsv7⟩:=id hsv2
          subst hsv6
          have HKS:=Lib.hid hsv2
          have hrg4:=range_later hrg2 HB14.out
          have hsh2:=HS3.out _ (getD_mem ss j noSk hltj)
          have HKB:=Lib.hid (fun h=>HBAD.out (kindOk_bad (pre:=pre) (k:=⟨s,vb,ss⟩) (n:=j) hltj h))
          have HSS:=Lib.hid (slotsOk_step HSL.out hltj)
          have HNX:=Lib.hid (names_next ss j hltj)
          have hji:(j:Int) < (ss.length:Int):=by omega
          have HML:=Lib.hid (show M.length = j by rw [HM.out,List.length_map,List.length_take];omega)
          clear hrg2 hsv2 hsv7
          dsimp only at HKB
          rw [←HM.out] at HKB HSS HNX
          generalize ss.getD j noSk = q at *
          obtain ⟨sn,ks,norm⟩:=q
          obtain ⟨hsn,hkl,_⟩:=hsh2
          dsimp only at hsn hkl HKS HKB HSS HNX
          replace hrg4:w4.rangeAt b2 (o2+j*3) [.string sn,.slice A6 ks.length c6,.int .i64 norm]:=hrg4
          have r0:w4.cell? ⟨b2,o2+j*3,none⟩ = some (.string sn):=hrg4 0 _ rfl
          have r1:w4.cell? ⟨b2,o2+j*3+1,none⟩ = some (.slice A6 ks.length c6):=hrg4 1 _ rfl
          have r2:w4.cell? ⟨b2,o2+j*3+2,none⟩ = some (.int .i64 norm):=hrg4 2 _ rfl
          have HSQ:=Lib.hid (fun W (h:Below w4.heap.size w4 W)=>refSlot_any w0 _ pre sn ks norm A6 c6 W (HB14.out.trans (h.mono HB14.out.size)) HPC.out (by rw [HPL.out];omega) HNOD.out HKS.out hkl hsn)
          have HIQ:=Lib.hid (fun W (h:Below w4.heap.size w4 W)=>refIn_any _ M sn W ((str_ownI HO.out).below h) (by rw [HML.out];omega))
          have HIM:=Lib.hid (hasB_iff M sn)
          have hbb:Below w4.heap.size w4 w4:=Below.refl _ _
          clear hrg4
          have HKs:=Lib.hid (fun W (h:Below w4.heap.size w4 W)=>(⟨h,cell_later h (x5 0),cell_later h (x4 2),cell_later h r0,cell_later h r1,cell_later h r2⟩:Below w4.heap.size w4 W∧W.cell? ⟨w1.heap.size+1,0,none⟩ = some (.slice (some ⟨b,o,none⟩) k cc)∧W.cell? ⟨w1.heap.size,2,none⟩ = some (.slice (some ⟨b2,o2,none⟩) ss.length c2)∧W.cell? ⟨b2,o2+j*3,none⟩ = some (.string sn)∧W.cell? ⟨b2,o2+j*3+1,none⟩ = some (.slice A6 ks.length c6)∧W.cell? ⟨b2,o2+j*3+2,none⟩ = some (.int .i64 norm)))
          generalize slotOk pre ⟨sn,ks,norm⟩ = so at HSQ HKB HSS
          generalize hasB M sn = hb at HIQ HIM
          go_wp2_with fail
          cases so
          · clear HIQ
            refine wp_region_held_drew (S:=fun W=>Below w4.heap.size w4 W∧W.cell? ⟨w1.heap.size+1,0,none⟩ = some (.slice (some ⟨b,o,none⟩) k cc)∧W.cell? ⟨w1.heap.size,2,none⟩ = some (.slice (some ⟨b2,o2,none⟩) ss.length c2)∧W.cell? ⟨b2,o2+j*3,none⟩ = some (.string sn)∧W.cell? ⟨b2,o2+j*3+1,none⟩ = some (.slice A6 ks.length c6)∧W.cell? ⟨b2,o2+j*3+2,none⟩ = some (.int .i64 norm)) (by kernel_rfl) (HKs.out _ hbb.drew) (fun hHeld=>?_)
            refine plI [(0,false),(1,false),(2,false),(3,false),(4,false),(5,false)] ?_
            repeat ((first | ((with_reducible show Plan ((_,true) :: _) _);refine plF ?_) | (refine plR (v:=?_) ?_ ?_;rotate_left;focus (intro W hSW;(try dsimp only at hSW);go_simp;all_goals (with_reducible rfl))));try simp only [Act.put,List.setIfInBounds_toArray,List.set_cons_zero,List.set_cons_succ])
            refine plE ?_
            refine wpAnyH_ready (rs:=[6]) (by kernel_rfl) (by simp) ?_
            refine AllReadyH.cons (o:=⟨_,_,_,_,_,_⟩) rfl (fun K hK=>?_) AllReadyH.nil
            go_simp
            go_at_call 86;refine (HSQ.out _ hbb.drew).mono ?_;rintro e w5 ⟨rfl,hb5⟩;have hbw5:Below w4.heap.size w4 w5:=hbb.drew.trans hb5;clear hb5
            refine hK.out _ _ (HKs.out _ hbw5) (fun hHeld=>?_)
            clear hK K
            try simp only [Act.put,List.setIfInBounds_toArray,List.set_cons_zero,List.set_cons_succ]
            refine plI [(7,false),(8,false),(9,true),(10,true),(11,true),(12,true),(13,true),(14,true),(15,true),(16,true),(17,false)] ?_
            repeat ((first | ((with_reducible show Plan ((_,true) :: _) _);refine plF ?_) | (refine plR (v:=?_) ?_ ?_;rotate_left;focus (intro W hSW;(try dsimp only at hSW);go_simp;all_goals (with_reducible rfl))));try simp only [Act.put,List.setIfInBounds_toArray,List.set_cons_zero,List.set_cons_succ])
            refine plE ?_
            refine wpAnyH_done (by kernel_rfl) ?_ _
            clear hHeld
            have HDD:=Lib.hid (HKB.out (.inl rfl))
            go_wp2_with fail
            go_ret
            exact ⟨ret_bool (by rw [HDD.out]),HBw4.out.trans (hbw5.mono HBw4.out.size)⟩
          · cases hb
            · skip
              refine wp_region_held_drew (S:=fun W=>Below w4.heap.size w4 W∧W.cell? ⟨w1.heap.size+1,0,none⟩ = some (.slice (some ⟨b,o,none⟩) k cc)∧W.cell? ⟨w1.heap.size,2,none⟩ = some (.slice (some ⟨b2,o2,none⟩) ss.length c2)∧W.cell? ⟨b2,o2+j*3,none⟩ = some (.string sn)∧W.cell? ⟨b2,o2+j*3+1,none⟩ = some (.slice A6 ks.length c6)∧W.cell? ⟨b2,o2+j*3+2,none⟩ = some (.int .i64 norm)) (by kernel_rfl) (HKs.out _ hbb.drew) (fun hHeld=>?_)
              refine plI [(0,false),(1,false),(2,false),(3,false),(4,false),(5,false)] ?_
              repeat ((first | ((with_reducible show Plan ((_,true) :: _) _);refine plF ?_) | (refine plR (v:=?_) ?_ ?_;rotate_left;focus (intro W hSW;(try dsimp only at hSW);go_simp;all_goals (with_reducible rfl))));try simp only [Act.put,List.setIfInBounds_toArray,List.set_cons_zero,List.set_cons_succ])
              refine plE ?_
              refine wpAnyH_ready (rs:=[6]) (by kernel_rfl) (by simp) ?_
              refine AllReadyH.cons (o:=⟨_,_,_,_,_,_⟩) rfl (fun K hK=>?_) AllReadyH.nil
              go_simp
              go_at_call 86;refine (HSQ.out _ hbb.drew).mono ?_;rintro e w5 ⟨rfl,hb5⟩;have hbw5:Below w4.heap.size w4 w5:=hbb.drew.trans hb5;clear hb5
              refine hK.out _ _ (HKs.out _ hbw5) (fun hHeld=>?_)
              clear hK K
              try simp only [Act.put,List.setIfInBounds_toArray,List.set_cons_zero,List.set_cons_succ]
              refine plI [(7,false),(8,false),(9,false),(10,false),(11,false),(12,false),(13,false),(14,false),(15,false)] ?_
              repeat ((first | ((with_reducible show Plan ((_,true) :: _) _);refine plF ?_) | (refine plR (v:=?_) ?_ ?_;rotate_left;focus (intro W hSW;(try dsimp only at hSW);go_simp;all_goals (with_reducible rfl))));try simp only [Act.put,List.setIfInBounds_toArray,List.set_cons_zero,List.set_cons_succ])
              refine plE ?_
              refine wpAnyH_ready (rs:=[16]) (by kernel_rfl) (by simp) ?_
              refine AllReadyH.cons (o:=⟨_,_,_,_,_,_⟩) rfl (fun K hK=>?_) AllReadyH.nil
              go_simp
              go_at_call 87;refine (HIQ.out _ hbw5).mono ?_;rintro e w6 ⟨rfl,rfl⟩
              refine hK.out _ _ (HKs.out _ hbw5) (fun hHeld=>?_)
              clear hK K
              try simp only [Act.put,List.setIfInBounds_toArray,List.set_cons_zero,List.set_cons_succ]
              refine plI [(17,false)] ?_
              repeat ((first | ((with_reducible show Plan ((_,true) :: _) _);refine plF ?_) | (refine plR (v:=?_) ?_ ?_;rotate_left;focus (intro W hSW;(try dsimp only at hSW);go_simp;all_goals (with_reducible rfl))));try simp only [Act.put,List.setIfInBounds_toArray,List.set_cons_zero,List.set_cons_succ])
              refine plE ?_
              refine wpAnyH_done (by kernel_rfl) ?_ _
              clear hHeld
              have HO5:=Lib.hid (own_belowR HO.out hbw5)
              have HB5:=Lib.hid (HB4.out.trans (hbw5.mono HB4.out.size))
              have HDD:=Lib.hid (HSS.out rfl (fun h=>by have:=HIM.out.2 h;cases this))
              obtain ⟨x6,y6⟩:=(HK4.out.below hbw5 HK4.out.lt).facts
              have r6:=cell_later hbw5 r0
              clear x4 y4 x5 y5 r0 r1 r2
              have hMl:M.length≤12:=by rw [HML.out];omega
              go_wp2_with (at_builtin;refine wpList_app rfl (.tmp 76) (.tmp 83) 55 rfl w3.heap.size 9 i0 (.string ⟨#[]⟩) 1 16 Tryz.underlying55 hI.out hZ.out hq1 hq2 rfl (by decide) _ M.length (M.map .string) rfl (HO5.out.alloc _) (some ⟨w6.heap.size,0,none⟩) 1 1 [.string sn] rfl rfl (.inr ⟨_,rfl,own_src _ _ _⟩) (one_str _) (by unfold maxLen;omega) (by omega) (by have:=HB5.out.size;simp;omega) ?_;intro v9 w9 hown9 hg9;have HO9:=Lib.hid hown9;have HG9:=Lib.hid hg9;clear hown9 hg9)
              have HB9:=Lib.hid ((HB5.out.alloc HB5.out.size (.cells #[.string sn] 9)).grown HG9.out (by have:=HB5.out.size;simp;omega) (fun j hj=>((HO5.out.alloc (.cells #[.string sn] 9)).lt j hj).1))
              go_roundw
              case rel=>exact ⟨j+1,M++[sn],by omega,by go_num,HNX.out.symm,HDD.out,own_more HO9.out,HB9.out⟩
              case measure=>simp [intOf];omega
            · skip
              refine wp_region_held_drew (S:=fun W=>Below w4.heap.size w4 W∧W.cell? ⟨w1.heap.size+1,0,none⟩ = some (.slice (some ⟨b,o,none⟩) k cc)∧W.cell? ⟨w1.heap.size,2,none⟩ = some (.slice (some ⟨b2,o2,none⟩) ss.length c2)∧W.cell? ⟨b2,o2+j*3,none⟩ = some (.string sn)∧W.cell? ⟨b2,o2+j*3+1,none⟩ = some (.slice A6 ks.length c6)∧W.cell? ⟨b2,o2+j*3+2,none⟩ = some (.int .i64 norm)) (by kernel_rfl) (HKs.out _ hbb.drew) (fun hHeld=>?_)
              refine plI [(0,false),(1,false),(2,false),(3,false),(4,false),(5,false)] ?_
              repeat ((first | ((with_reducible show Plan ((_,true) :: _) _);refine plF ?_) | (refine plR (v:=?_) ?_ ?_;rotate_left;focus (intro W hSW;(try dsimp only at hSW);go_simp;all_goals (with_reducible rfl))));try simp only [Act.put,List.setIfInBounds_toArray,List.set_cons_zero,List.set_cons_succ])
              refine plE ?_
              refine wpAnyH_ready (rs:=[6]) (by kernel_rfl) (by simp) ?_
              refine AllReadyH.cons (o:=⟨_,_,_,_,_,_⟩) rfl (fun K hK=>?_) AllReadyH.nil
              go_simp
              go_at_call 86;refine (HSQ.out _ hbb.drew).mono ?_;rintro e w5 ⟨rfl,hb5⟩;have hbw5:Below w4.heap.size w4 w5:=hbb.drew.trans hb5;clear hb5
              refine hK.out _ _ (HKs.out _ hbw5) (fun hHeld=>?_)
              clear hK K
              try simp only [Act.put,List.setIfInBounds_toArray,List.set_cons_zero,List.set_cons_succ]
              refine plI [(7,false),(8,false),(9,false),(10,false),(11,false),(12,false),(13,false),(14,false),(15,false)] ?_
              repeat ((first | ((with_reducible show Plan ((_,true) :: _) _);refine plF ?_) | (refine plR (v:=?_) ?_ ?_;rotate_left;focus (intro W hSW;(try dsimp only at hSW);go_simp;all_goals (with_reducible rfl))));try simp only [Act.put,List.setIfInBounds_toArray,List.set_cons_zero,List.set_cons_succ])
              refine plE ?_
              refine wpAnyH_ready (rs:=[16]) (by kernel_rfl) (by simp) ?_
              refine AllReadyH.cons (o:=⟨_,_,_,_,_,_⟩) rfl (fun K hK=>?_) AllReadyH.nil
              go_simp
              go_at_call 87;refine (HIQ.out _ hbw5).mono ?_;rintro e w6 ⟨rfl,rfl⟩
              refine hK.out _ _ (HKs.out _ hbw5) (fun hHeld=>?_)
              clear hK K
              try simp only [Act.put,List.setIfInBounds_toArray,List.set_cons_zero,List.set_cons_succ]
              refine plI [(17,false)] ?_
              repeat ((first | ((with_reducible show Plan ((_,true) :: _) _);refine plF ?_) | (refine plR (v:=?_) ?_ ?_;rotate_left;focus (intro W hSW;(try dsimp only at hSW);go_simp;all_goals (with_reducible rfl))));try simp only [Act.put,List.setIfInBounds_toArray,List.set_cons_zero,List.set_cons_succ])
              refine plE ?_
              refine wpAnyH_done (by kernel_rfl) ?_ _
              clear hHeld
              have HDD:=Lib.hid (HKB.out (.inr (HIM.out.1 rfl)))
              go_wp2_with fail
              go_ret
              exact ⟨ret_bool (by rw [HDD.out]),HBw4.out.trans (hbw5.mono HBw4.out.size)⟩
        · obtain rfl:j = ss.length:=by omega
          have HDD:=Lib.hid (HSTP.out (HGOOD.out HSL.out))
          go_wp2_with fail
          go_roundw
          case rel=>exact ⟨k+1,by omega,by go_num,HDD.out,HR.out.below (HB3.out.trans (HB4.out.mono HB3.out.size)) HR.out.lt,HBw4.out⟩
          case measure=>simp [intOf];omega
    · obtain rfl:k = c.length:=by omega
      have HDD:=Lib.hid (show catB c = true by unfold catB;rw [HT.out,decide_eq_true (show c.length≤60 by omega)];rfl)
      go_wp2_with fail
      go_ret
      exact ⟨ret_bool (by rw [HDD.out]),HBB.out⟩
end Go.Proofs.YtpikcofbhkbifaaGreat
