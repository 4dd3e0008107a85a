/- bogielaw20.RuleMatchesReference answers true. Condition: the table of powers of ten, and the error variables; the rule lies in memory, its strings fit. -/
import Derived.Test.YtppoeiofdmlpeaaGreatDoorU17
import Derived.Test.YtppoeiofdmlpeaaGreatDoorYA
import Derived.Test.YtppoeiofdmlpeaaGreatDoorYG
import Derived.Test.YtppoeiofdmlpeaaGreatDoorYM
namespace Go.Proofs.YtppoeiofdmlpeaaGreatDoor
open Go Go.RowKit
/-- What stays: the rule in its block. -/
structure MP (w:World) (r:Ru) (kv:Value) (W:World):Prop where
  bl:Below w.heap.size w W
  ha:Has W w.heap.size 26 (ruA r kv)
  la:LayS (fun k=>k < w.heap.size) W kv r.cond.kids
section
variable {w W W':World} {r:Ru} {kv:Value}
theorem MP.later (h:MP w r kv W) (hb:Below W.heap.size W W'):MP w r kv W':=⟨h.bl.trans (hb.mono h.bl.size),h.ha.below hb h.ha.lt,h.la.later hb⟩
theorem MP.alloc (h:MP w r kv W) (o:Obj):MP w r kv (W.alloc o):=h.later ((Below.refl _ _).alloc (Nat.le_refl _) _)
theorem MP.start (hl:Lay w kv r.cond.kids):MP w r kv (w.alloc (.cells (ruA r kv) 26)) :=
  ⟨(Below.refl _ _).alloc (Nat.le_refl _) _,Has.new _ _ _,hl.on (fun b _ hb=>Below.heap_alloc w _ b hb) fun _ _ hb=>hb⟩
/-- The rule, and the two that were parsed. -/
structure MQ (w:World) (r q:Ru) (kv kx ky:Value) (g k:Nat) (W:World):Prop where
  p:MP w r kv W
  hx:Has W g 26 (ruA q kx)
  hy:Has W k 26 (ruA q ky)
  lx:Lay W kx q.cond.kids
  ly:Lay W ky q.cond.kids
theorem MQ.later {q:Ru} {kx ky:Value} {g k:Nat} (h:MQ w r q kv kx ky g k W) (hb:Below W.heap.size W W'):MQ w r q kv kx ky g k W' :=
  ⟨h.p.later hb,h.hx.below hb h.hx.lt,h.hy.below hb h.hy.lt,h.lx.later hb,h.ly.later hb⟩
end
theorem mt_one {W:World} {g t:Nat} {r:Ru} {kv:Value} (h:Has W g t (ruA r kv)) (hl:Lay W kv r.cond.kids):RuL W (.slice (some ⟨g,0,none⟩) 1 1) [r]:=by
  refine ⟨_,1,rfl,Nat.le_refl _,.inr ⟨g,0,rfl,fun i hi=>?_⟩⟩
  match i,hi with
  | 0,_ =>
    refine ⟨kv,fun j hj=>?_,hl⟩
    rcases (by omega:j = 0∨j = 1∨j = 2∨j = 3∨j = 4∨j = 5∨j = 6∨j = 7) with rfl | rfl | rfl | rfl | rfl | rfl | rfl | rfl
    all_goals exact h.cell _
theorem mt_cnt {r:Ru} {rs:List Ru} (h:fewsU rs = true) (hr:r∈rs):cnt r.cond≤80:=by
  unfold fewsU at h
  rw [Bool.and_eq_true,List.all_eq_true] at h
  have h2:=h.2 r hr
  unfold fewU fewE at h2
  simp only [Bool.and_eq_true,decide_eq_true_eq] at h2
  exact h2.2.1
theorem parsed_cnt (s:ByteArray):cnt (parseU s).1.cond≤60:=by
  unfold parseU
  split
  · show cnt ex0≤60;rw [cnt_eq];decide
  · split
    · show cnt ex0≤60;rw [cnt_eq];decide
    · split
      · show cnt ex0≤60;rw [cnt_eq];decide
      · rename_i h;exact Nat.le_of_not_lt h
set_option maxRecDepth 100000 in
set_option maxHeartbeats 8000000 in
theorem mt_few (w0:World) (ht:Tab w0) (hv:Evs w0) (r:Ru) (kv:Value) (tx:ByteArray) (w:World) (hb0:Below w0.heap.size w0 w) (hl:Lay w kv r.cond.kids) (hw:fewsU [r] = false) :
    Calls Tryz.prog 3 #[.agg (ruA r kv),.string tx] w fun e w'=>e = .returned (.bool true)∧Below w.heap.size w w':=by
  have hsz0:=hb0.size
  have HHD:=Lib.hid (fun W (hb:Below w.heap.size w W)=>head_any w0 W ht hv (hb0.trans (hb.mono hsz0)))
  have HFW:=Lib.hid (fun (g:Nat) W (h:RuL W (.slice (some ⟨g,0,none⟩) 1 1) [r])=>few_any _ [r] W h (show 1≤5 by decide))
  have HS:=Lib.hid (MP.start hl)
  rw [hw] at HFW
  obtain ⟨A,c,rfl,_⟩:=hl.slice
  dsimp only [ruA] at *
  clear hl hb0 ht hv
  go_enter Tryz.func3,Tryz.ntmps3
  go_wp2_with (first
    | (go_at_call 7;refine (HHD.out _ HS.out.bl).mono ?_;rintro e w2 ⟨rfl,hb⟩;have HP2:=Lib.hid (HS.out.later hb);obtain ⟨d2,f2⟩:=HP2.out.ha.facts;(try dsimp only [ruA] at d2);clear hb)
    | (go_at_call 8;refine (HFW.out _ _ (mt_one (Has.new w2 26 #[.string r.name,.string r.kind,.int .i64 r.cond.op,.string r.cond.name,.string r.cond.value,.int .i64 r.cond.n,.int .i64 r.cond.extra,.slice A r.cond.kids.length c]) (HP2.out.alloc (.cells #[.string r.name,.string r.kind,.int .i64 r.cond.op,.string r.cond.name,.string r.cond.value,.int .i64 r.cond.n,.int .i64 r.cond.extra,.slice A r.cond.kids.length c] 26)).la.any)).mono ?_;rintro e w3 ⟨rfl,hb⟩;have HP3:=Lib.hid ((HP2.out.alloc (.cells #[.string r.name,.string r.kind,.int .i64 r.cond.op,.string r.cond.name,.string r.cond.value,.int .i64 r.cond.n,.int .i64 r.cond.extra,.slice A r.cond.kids.length c] 26)).later hb);clear d2 f2;obtain ⟨d3,f3⟩:=HP3.out.ha.facts;(try dsimp only [ruA] at d3);clear hb))
  go_ret
  exact ⟨rfl,HP3.out.bl⟩
set_option maxRecDepth 100000 in
set_option maxHeartbeats 8000000 in
theorem mt_long (w0:World) (ht:Tab w0) (hv:Evs w0) (r:Ru) (kv:Value) (tx:ByteArray) (w:World) (hb0:Below w0.heap.size w0 w) (hl:Lay w kv r.cond.kids) (hw:fewsU [r] = true) (htx:3000 < tx.size) :
    Calls Tryz.prog 3 #[.agg (ruA r kv),.string tx] w fun e w'=>e = .returned (.bool true)∧Below w.heap.size w w':=by
  have hsz0:=hb0.size
  have HHD:=Lib.hid (fun W (hb:Below w.heap.size w W)=>head_any w0 W ht hv (hb0.trans (hb.mono hsz0)))
  have HFW:=Lib.hid (fun (g:Nat) W (h:RuL W (.slice (some ⟨g,0,none⟩) 1 1) [r])=>few_any _ [r] W h (show 1≤5 by decide))
  have HS:=Lib.hid (MP.start hl)
  rw [hw] at HFW
  have htz:(3000:Int) < (tx.size:Int):=by omega
  obtain ⟨A,c,rfl,_⟩:=hl.slice
  dsimp only [ruA] at *
  clear hl hb0 ht hv
  go_enter Tryz.func3,Tryz.ntmps3
  go_wp2_with (first
    | (go_at_call 7;refine (HHD.out _ HS.out.bl).mono ?_;rintro e w2 ⟨rfl,hb⟩;have HP2:=Lib.hid (HS.out.later hb);obtain ⟨d2,f2⟩:=HP2.out.ha.facts;(try dsimp only [ruA] at d2);clear hb)
    | (go_at_call 8;refine (HFW.out _ _ (mt_one (Has.new w2 26 #[.string r.name,.string r.kind,.int .i64 r.cond.op,.string r.cond.name,.string r.cond.value,.int .i64 r.cond.n,.int .i64 r.cond.extra,.slice A r.cond.kids.length c]) (HP2.out.alloc (.cells #[.string r.name,.string r.kind,.int .i64 r.cond.op,.string r.cond.name,.string r.cond.value,.int .i64 r.cond.n,.int .i64 r.cond.extra,.slice A r.cond.kids.length c] 26)).la.any)).mono ?_;rintro e w3 ⟨rfl,hb⟩;have HP3:=Lib.hid ((HP2.out.alloc (.cells #[.string r.name,.string r.kind,.int .i64 r.cond.op,.string r.cond.name,.string r.cond.value,.int .i64 r.cond.n,.int .i64 r.cond.extra,.slice A r.cond.kids.length c] 26)).later hb);clear d2 f2;obtain ⟨d3,f3⟩:=HP3.out.ha.facts;(try dsimp only [ruA] at d3);clear hb))
  go_ret
  exact ⟨rfl,HP3.out.bl⟩
set_option maxRecDepth 100000 in
set_option maxHeartbeats 8000000 in
theorem mt_main (w0:World) (ht:Tab w0) (hv:Evs w0) (r:Ru) (kv:Value) (tx:ByteArray) (w:World) (hb0:Below w0.heap.size w0 w) (hf:FitE r.cond) (hn:r.name.size≤maxLen) (hk:r.kind.size≤maxLen) (hl:Lay w kv r.cond.kids) (hw:fewsU [r] = true) (htx:tx.size≤3000) :
    Calls Tryz.prog 3 #[.agg (ruA r kv),.string tx] w fun e w'=>e = .returned (.bool true)∧Below w.heap.size w w':=by
  have hsz0:=hb0.size
  have HHD:=Lib.hid (fun W (hb:Below w.heap.size w W)=>head_any w0 W ht hv (hb0.trans (hb.mono hsz0)))
  have HFW:=Lib.hid (fun (g:Nat) W (h:RuL W (.slice (some ⟨g,0,none⟩) 1 1) [r])=>few_any _ [r] W h (show 1≤5 by decide))
  have HS:=Lib.hid (MP.start hl)
  rw [hw] at HFW
  have hc:=mt_cnt hw (List.mem_cons_self ..)
  have htz:¬ (3000:Int) < (tx.size:Int):=by omega
  have htm:tx.size≤maxLen:=Nat.le_trans htx (by decide)
  have HTA:=Lib.hid (fun W (h:MP w r kv W)=>rtext_any w0 ht r kv W (hb0.trans (h.bl.mono hsz0)) (by omega) hf hn hk h.la.any)
  have HTR:=Lib.hid (fun W (h:MP w r kv W)=>rftext_any r kv W hf hn hk h.la.any)
  have HVA:=Lib.hid (fun W (h:Lay W kv r.cond.kids)=>valid_any r kv W (by omega) hf hn hk h)
  have HVR:=Lib.hid (fun W (h:Lay W kv r.cond.kids)=>rvalid_any r kv W hf hn hk h)
  have HPT:=Lib.hid (fun W (h:MP w r kv W)=>(show Calls Tryz.prog 11 #[.string tx] W (PaR tx W) from parse_any w0 hv tx W (hb0.trans (h.bl.mono hsz0)) htm))
  have HPR:=Lib.hid (fun W=>(show Calls Tryz.prog 12 #[.string tx] W (PaR tx W) from rparse_any tx W htm))
  have HSM:=Lib.hid (fun (va vb:Value) W (h1:Lay W va (parseU tx).1.cond.kids) (h2:Lay W vb (parseU tx).1.cond.kids)=>same_any (parseU tx).1 (parseU tx).1 va vb W (Nat.le_trans (parsed_cnt tx) (by decide)) h1 h2)
  rw [(sameU_iff (parseU tx).1 (parseU tx).1).2 rfl] at HSM
  unfold PaR at HPT HPR
  generalize (parseU tx).1 = q at *
  generalize (parseU tx).2.1 = er at *
  generalize (parseU tx).2.2 = pa at *
  generalize (textU r).1 = sT at *
  generalize (textU r).2 = eT at *
  generalize ruleB r = rb at *
  obtain ⟨A,c,rfl,_⟩:=hl.slice
  dsimp only [ruA] at *
  clear hl hb0 ht hv hf hn hk hc htx htm hw
  go_enter Tryz.func3,Tryz.ntmps3
  go_wp2_with (first
    | (go_at_call 7;refine (HHD.out _ HS.out.bl).mono ?_;rintro e w2 ⟨rfl,hb⟩;have HP2:=Lib.hid (HS.out.later hb);obtain ⟨d2,f2⟩:=HP2.out.ha.facts;(try dsimp only [ruA] at d2);clear hb)
    | (go_at_call 8;refine (HFW.out _ _ (mt_one (Has.new w2 26 #[.string r.name,.string r.kind,.int .i64 r.cond.op,.string r.cond.name,.string r.cond.value,.int .i64 r.cond.n,.int .i64 r.cond.extra,.slice A r.cond.kids.length c]) (HP2.out.alloc (.cells #[.string r.name,.string r.kind,.int .i64 r.cond.op,.string r.cond.name,.string r.cond.value,.int .i64 r.cond.n,.int .i64 r.cond.extra,.slice A r.cond.kids.length c] 26)).la.any)).mono ?_;rintro e w3 ⟨rfl,hb⟩;have HP3:=Lib.hid ((HP2.out.alloc (.cells #[.string r.name,.string r.kind,.int .i64 r.cond.op,.string r.cond.name,.string r.cond.value,.int .i64 r.cond.n,.int .i64 r.cond.extra,.slice A r.cond.kids.length c] 26)).later hb);clear d2 f2;obtain ⟨d3,f3⟩:=HP3.out.ha.facts;(try dsimp only [ruA] at d3);clear hb)
    | (go_at_call 9;refine (HTA.out _ HP3.out).mono ?_;rintro e w4 ⟨rfl,hb⟩;have HP4:=Lib.hid (HP3.out.later hb);clear d3 f3;obtain ⟨d4,f4⟩:=HP4.out.ha.facts;(try dsimp only [ruA] at d4);clear hb)
    | (go_at_call 10;refine (HTR.out _ HP4.out).mono ?_;rintro e w5 ⟨rfl,hb⟩;have HP5:=Lib.hid (HP4.out.later hb);clear d4 f4 hb)
    | (go_at_call 11;refine (HPT.out _ HP5.out).mono ?_;rintro e w6 ⟨kx,rfl,hl,hb⟩;obtain ⟨Ax,cx,rfl,_⟩:=hl.slice;have HP6:=Lib.hid ((HP5.out.later hb).alloc (.cells #[.string q.name,.string q.kind,.int .i64 q.cond.op,.string q.cond.name,.string q.cond.value,.int .i64 q.cond.n,.int .i64 q.cond.extra,.slice Ax q.cond.kids.length cx] 26));have HX6:=Lib.hid (show Has (w6.alloc (.cells #[.string q.name,.string q.kind,.int .i64 q.cond.op,.string q.cond.name,.string q.cond.value,.int .i64 q.cond.n,.int .i64 q.cond.extra,.slice Ax q.cond.kids.length cx] 26)) w6.heap.size 26 (ruA q (.slice Ax q.cond.kids.length cx)) from Has.new w6 26 #[.string q.name,.string q.kind,.int .i64 q.cond.op,.string q.cond.name,.string q.cond.value,.int .i64 q.cond.n,.int .i64 q.cond.extra,.slice Ax q.cond.kids.length cx]);have LX6:=Lib.hid (hl.later ((Below.refl _ _).alloc (Nat.le_refl _) (.cells #[.string q.name,.string q.kind,.int .i64 q.cond.op,.string q.cond.name,.string q.cond.value,.int .i64 q.cond.n,.int .i64 q.cond.extra,.slice Ax q.cond.kids.length cx] 26)));clear hl hb)
    | (go_at_call 12;refine (HPR.out _).mono ?_;rintro e w7 ⟨ky,rfl,hl,hb⟩;obtain ⟨Ay,cy,rfl,_⟩:=hl.slice;have HQ8:=Lib.hid ((show MQ w r q (.slice A r.cond.kids.length c) (.slice Ax q.cond.kids.length cx) (.slice Ay q.cond.kids.length cy) w6.heap.size w7.heap.size (w7.alloc (.cells #[.string q.name,.string q.kind,.int .i64 q.cond.op,.string q.cond.name,.string q.cond.value,.int .i64 q.cond.n,.int .i64 q.cond.extra,.slice Ay q.cond.kids.length cy] 26)) from ⟨(HP6.out.later hb).alloc _,(HX6.out.below hb HX6.out.lt).alloc _,Has.new w7 26 #[.string q.name,.string q.kind,.int .i64 q.cond.op,.string q.cond.name,.string q.cond.value,.int .i64 q.cond.n,.int .i64 q.cond.extra,.slice Ay q.cond.kids.length cy],(LX6.out.any.later hb).later ((Below.refl _ _).alloc (Nat.le_refl _) _),hl.any.later ((Below.refl _ _).alloc (Nat.le_refl _) _)⟩));clear hl hb))
  change Code.wp _ _ _ _ (w7.alloc (.cells #[.string q.name,.string q.kind,.int .i64 q.cond.op,.string q.cond.name,.string q.cond.value,.int .i64 q.cond.n,.int .i64 q.cond.extra,.slice Ay q.cond.kids.length cy] 26))
  generalize (w7.alloc (.cells #[.string q.name,.string q.kind,.int .i64 q.cond.op,.string q.cond.name,.string q.cond.value,.int .i64 q.cond.n,.int .i64 q.cond.extra,.slice Ay q.cond.kids.length cy] 26)) = w8 at *
  generalize w6.heap.size = gx at *
  generalize w7.heap.size = gy at *
  have HQd:=Lib.hid (HQ8.out.later (Below.refl _ _).drew)
  have HK8:=Lib.hid (fun W (q8:MQ w r q (.slice A r.cond.kids.length c) (.slice Ax q.cond.kids.length cx) (.slice Ay q.cond.kids.length cy) gx gy W)=>((⟨q8.hx.cell 0,q8.hx.cell 1,q8.hx.cell 2,q8.hx.cell 3,q8.hx.cell 4,q8.hx.cell 5,q8.hx.cell 6,q8.hx.cell 7,q8.hy.cell 0,q8.hy.cell 1,q8.hy.cell 2,q8.hy.cell 3,q8.hy.cell 4,q8.hy.cell 5,q8.hy.cell 6,q8.hy.cell 7,q8.p.ha.cell 0,q8.p.ha.cell 1,q8.p.ha.cell 2,q8.p.ha.cell 3,q8.p.ha.cell 4,q8.p.ha.cell 5,q8.p.ha.cell 6,q8.p.ha.cell 7⟩):(fun W=>W.cell? ⟨gx,0,none⟩ = some (.string q.name)∧W.cell? ⟨gx,1,none⟩ = some (.string q.kind)∧W.cell? ⟨gx,2,none⟩ = some (.int .i64 q.cond.op)∧W.cell? ⟨gx,3,none⟩ = some (.string q.cond.name)∧W.cell? ⟨gx,4,none⟩ = some (.string q.cond.value)∧W.cell? ⟨gx,5,none⟩ = some (.int .i64 q.cond.n)∧W.cell? ⟨gx,6,none⟩ = some (.int .i64 q.cond.extra)∧W.cell? ⟨gx,7,none⟩ = some (.slice Ax q.cond.kids.length cx)∧W.cell? ⟨gy,0,none⟩ = some (.string q.name)∧W.cell? ⟨gy,1,none⟩ = some (.string q.kind)∧W.cell? ⟨gy,2,none⟩ = some (.int .i64 q.cond.op)∧W.cell? ⟨gy,3,none⟩ = some (.string q.cond.name)∧W.cell? ⟨gy,4,none⟩ = some (.string q.cond.value)∧W.cell? ⟨gy,5,none⟩ = some (.int .i64 q.cond.n)∧W.cell? ⟨gy,6,none⟩ = some (.int .i64 q.cond.extra)∧W.cell? ⟨gy,7,none⟩ = some (.slice Ay q.cond.kids.length cy)∧W.cell? ⟨w.heap.size,0,none⟩ = some (.string r.name)∧W.cell? ⟨w.heap.size,1,none⟩ = some (.string r.kind)∧W.cell? ⟨w.heap.size,2,none⟩ = some (.int .i64 r.cond.op)∧W.cell? ⟨w.heap.size,3,none⟩ = some (.string r.cond.name)∧W.cell? ⟨w.heap.size,4,none⟩ = some (.string r.cond.value)∧W.cell? ⟨w.heap.size,5,none⟩ = some (.int .i64 r.cond.n)∧W.cell? ⟨w.heap.size,6,none⟩ = some (.int .i64 r.cond.extra)∧W.cell? ⟨w.heap.size,7,none⟩ = some (.slice A r.cond.kids.length c)) W))
  refine wp_region_held_drew (S:=fun W=>W.cell? ⟨gx,0,none⟩ = some (.string q.name)∧W.cell? ⟨gx,1,none⟩ = some (.string q.kind)∧W.cell? ⟨gx,2,none⟩ = some (.int .i64 q.cond.op)∧W.cell? ⟨gx,3,none⟩ = some (.string q.cond.name)∧W.cell? ⟨gx,4,none⟩ = some (.string q.cond.value)∧W.cell? ⟨gx,5,none⟩ = some (.int .i64 q.cond.n)∧W.cell? ⟨gx,6,none⟩ = some (.int .i64 q.cond.extra)∧W.cell? ⟨gx,7,none⟩ = some (.slice Ax q.cond.kids.length cx)∧W.cell? ⟨gy,0,none⟩ = some (.string q.name)∧W.cell? ⟨gy,1,none⟩ = some (.string q.kind)∧W.cell? ⟨gy,2,none⟩ = some (.int .i64 q.cond.op)∧W.cell? ⟨gy,3,none⟩ = some (.string q.cond.name)∧W.cell? ⟨gy,4,none⟩ = some (.string q.cond.value)∧W.cell? ⟨gy,5,none⟩ = some (.int .i64 q.cond.n)∧W.cell? ⟨gy,6,none⟩ = some (.int .i64 q.cond.extra)∧W.cell? ⟨gy,7,none⟩ = some (.slice Ay q.cond.kids.length cy)∧W.cell? ⟨w.heap.size,0,none⟩ = some (.string r.name)∧W.cell? ⟨w.heap.size,1,none⟩ = some (.string r.kind)∧W.cell? ⟨w.heap.size,2,none⟩ = some (.int .i64 r.cond.op)∧W.cell? ⟨w.heap.size,3,none⟩ = some (.string r.cond.name)∧W.cell? ⟨w.heap.size,4,none⟩ = some (.string r.cond.value)∧W.cell? ⟨w.heap.size,5,none⟩ = some (.int .i64 r.cond.n)∧W.cell? ⟨w.heap.size,6,none⟩ = some (.int .i64 r.cond.extra)∧W.cell? ⟨w.heap.size,7,none⟩ = some (.slice A r.cond.kids.length c)) (by kernel_rfl) (HK8.out _ HQd.out) (fun hHeld=>?_)
  refine plI [(0,false),(1,false),(2,false),(3,false),(4,false),(5,false),(6,false),(7,false),(8,false),(9,false),(10,false),(11,false),(12,false),(13,false),(14,false),(15,false),(16,false),(17,false),(18,false),(19,false),(20,false),(21,false),(22,false),(23,false)] ?_
  repeat ((first | ((with_reducible show Plan ((_,true) :: _) _);refine plF ?_) | (refine plR (v:=?_) ?_ ?_;rotate_left;focus (intro W hSW;(try dsimp only at hSW);go_simp;all_goals (with_reducible rfl))));try simp only [Act.put,List.setIfInBounds_toArray,List.set_cons_zero,List.set_cons_succ])
  refine plE ?_
  refine wpAnyH_ready (rs:=[24]) (by kernel_rfl) (by simp) ?_
  refine AllReadyH.cons (o:=⟨_,_,_,_,_,_⟩) rfl (fun K hK=>?_) AllReadyH.nil
  go_simp
  go_at_call 13;refine (HSM.out _ _ _ HQd.out.lx HQd.out.ly).mono ?_;rintro e wd24 ⟨rfl,hb⟩;have HQc24:=Lib.hid ((HQd.out).later hb);clear hb
  refine hK.out _ _ (HK8.out _ HQc24.out) (fun hHeld=>?_)
  clear hK K
  try simp only [Act.put,List.setIfInBounds_toArray,List.set_cons_zero,List.set_cons_succ]
  refine plI [(25,false),(26,false),(27,false),(29,false)] ?_
  repeat ((first | ((with_reducible show Plan ((_,true) :: _) _);refine plF ?_) | (refine plR (v:=?_) ?_ ?_;rotate_left;focus (intro W hSW;(try dsimp only at hSW);go_simp;all_goals (with_reducible rfl))));try simp only [Act.put,List.setIfInBounds_toArray,List.set_cons_zero,List.set_cons_succ])
  refine plE ?_
  refine wpAnyH_ready (rs:=[28]) (by kernel_rfl) (by simp) ?_
  refine AllReadyH.cons (o:=⟨_,_,_,_,_,_⟩) rfl (fun K hK=>?_) AllReadyH.nil
  go_simp
  go_at_call 14;refine (HVA.out _ HQc24.out.p.la.any).mono ?_;rintro e wd28 ⟨rfl,hb⟩;have HQc28:=Lib.hid ((HQc24.out).later hb);clear hb
  refine hK.out _ _ (HK8.out _ HQc28.out) (fun hHeld=>?_)
  clear hK K
  try simp only [Act.put,List.setIfInBounds_toArray,List.set_cons_zero,List.set_cons_succ]
  refine wpAnyH_ready (rs:=[30]) (by kernel_rfl) (by simp) ?_
  refine AllReadyH.cons (o:=⟨_,_,_,_,_,_⟩) rfl (fun K hK=>?_) AllReadyH.nil
  go_simp
  go_at_call 15;refine (HVR.out _ HQc28.out.p.la.any).mono ?_;rintro e wd30 ⟨rfl,hb⟩;have HQc30:=Lib.hid ((HQc28.out).later hb);clear hb
  refine hK.out _ _ (HK8.out _ HQc30.out) (fun hHeld=>?_)
  clear hK K
  try simp only [Act.put,List.setIfInBounds_toArray,List.set_cons_zero,List.set_cons_succ]
  refine plI [(31,false),(32,false),(33,false)] ?_
  repeat ((first | ((with_reducible show Plan ((_,true) :: _) _);refine plF ?_) | (refine plR (v:=?_) ?_ ?_;rotate_left;focus (intro W hSW;(try dsimp only at hSW);go_simp;all_goals (with_reducible rfl))));try simp only [Act.put,List.setIfInBounds_toArray,List.set_cons_zero,List.set_cons_succ])
  refine plE ?_
  refine wpAnyH_done (by kernel_rfl) ?_ _
  clear hHeld HK8
  go_wp2_with fail
  go_ret
  exact ⟨by simp,HQc30.out.p.bl⟩
/-- bogielaw20.RuleMatchesReference answers true. -/
theorem mt_any (w0:World) (ht:Tab w0) (hv:Evs w0) (r:Ru) (kv:Value) (tx:ByteArray) (w:World) (hb0:Below w0.heap.size w0 w) (hf:FitE r.cond) (hn:r.name.size≤maxLen) (hk:r.kind.size≤maxLen) (hl:Lay w kv r.cond.kids) :
    Calls Tryz.prog 3 #[.agg (ruA r kv),.string tx] w fun e w'=>e = .returned (.bool true)∧Below w.heap.size w w':=by
  cases hw:fewsU [r] with
  | false=>exact mt_few w0 ht hv r kv tx w hb0 hl hw
  | true =>
    by_cases htx:3000 < tx.size
    · exact mt_long w0 ht hv r kv tx w hb0 hl hw htx
    · exact mt_main w0 ht hv r kv tx w hb0 hf hn hk hl hw (Nat.le_of_not_lt htx)
end Go.Proofs.YtppoeiofdmlpeaaGreatDoor
