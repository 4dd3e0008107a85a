/- bogieref20.Text: the text of a rule, or an error. Condition: the table of powers of ten; the rule lies in memory, its strings fit. -/
import Derived.Test.YtppoeiofdmlpeaaGreatDoorYE
import Derived.Test.YtppoeiofdmlpeaaGreatDoorYF
namespace Go.Proofs.YtppoeiofdmlpeaaGreatDoor
open Go Go.RowKit
set_option maxRecDepth 100000 in
set_option maxHeartbeats 8000000 in
theorem rftext_no (r:Ru) (kv:Value) (w:World) (hf:FitE r.cond) (hn:r.name.size≤maxLen) (hk:r.kind.size≤maxLen) (hl:Lay w kv r.cond.kids) (hr:ruleB r = false) :
    Calls Tryz.prog 10 #[.agg (ruA r kv)] w fun e w'=>e = .returned (.tuple #[.string (textU r).1,.int .i64 (textU r).2])∧Below w.heap.size w w':=by
  have hb:Below w.heap.size w (w.alloc (.cells (ruA r kv) 26)):=(Below.refl _ _).alloc (Nat.le_refl _) _
  have HB:=Lib.hid hb
  have HX:=Lib.hid (Has.new w 26 (ruA r kv))
  have HL:=Lib.hid (hl.later hb)
  have HV:=Lib.hid (fun W h=>rvalid_any r kv W hf hn hk h)
  obtain ⟨A,c,rfl,_⟩:=hl.slice
  have HE:=Lib.hid (show textU r = (⟨#[]⟩,1) by unfold textU;rw [if_neg (by rw [hr];decide)];rfl)
  rw [hr] at HV
  dsimp only [ruA] at *
  clear hb hl hn hk hf hr
  go_enter Tryz.func10,Tryz.ntmps10
  go_wp2_with (go_at_call 15;refine (HV.out _ HL.out).mono ?_;rintro e w2 ⟨rfl,hb2⟩;have HW2:=Lib.hid (HB.out.trans (hb2.mono HB.out.size));clear hb2)
  go_ret2
  exact ⟨by rw [HE.out];rfl,HW2.out⟩
set_option maxRecDepth 100000 in
set_option maxHeartbeats 8000000 in
theorem rftext_ok (r:Ru) (kv:Value) (w:World) (hf:FitE r.cond) (hn:r.name.size≤maxLen) (hk:r.kind.size≤maxLen) (hl:Lay w kv r.cond.kids) (hr:ruleB r = true) :
    Calls Tryz.prog 10 #[.agg (ruA r kv)] w fun e w'=>e = .returned (.tuple #[.string (textU r).1,.int .i64 (textU r).2])∧Below w.heap.size w w':=by
  obtain ⟨h1,h2,h3,h4⟩:nameB r.name = true∧nameB r.kind = true∧cnt r.cond≤60∧allB r.cond = true:=by
    have h:=hr
    unfold ruleB condB at h
    simpa only [Bool.and_eq_true,decide_eq_true_eq] using h
  have hnl:=name_le h1
  have hkl:=name_le h2
  have htl:=texE_len r.cond h4
  have HT:=Lib.hid (fun W (hl:Lay W kv r.cond.kids)=>reftx_rec 100 r.cond kv W (by omega) (by decide) h4 hl)
  have hb:Below w.heap.size w (w.alloc (.cells (ruA r kv) 26)):=(Below.refl _ _).alloc (Nat.le_refl _) _
  have HB:=Lib.hid hb
  have HX:=Lib.hid (Has.new w 26 (ruA r kv))
  have HL:=Lib.hid (hl.later hb)
  have HV:=Lib.hid (fun W h=>rvalid_any r kv W hf hn hk h)
  obtain ⟨A,c,rfl,_⟩:=hl.slice
  have HE:∀ tq,ruleT r = tq→textU r = if 20000 < tq.size then (⟨#[]⟩,7) else (tq,0):=fun tq h=>by unfold textU;rw [if_pos hr,h];rfl
  rw [hr] at HV
  have htx:(texE r.cond).size≤100000:=by omega
  have HR:ruleT r = ⟨#[114,117,108,101,32]⟩++r.name++⟨#[32,102,111,114,32]⟩++r.kind++⟨#[58,32]⟩++texE r.cond++⟨#[59,10]⟩:=rfl
  generalize texE r.cond = tx at *
  have m1:¬ 9223372036854775807 < 5+r.name.size:=by omega
  have m2:¬ 9223372036854775807 < 5+r.name.size+5:=by omega
  have m3:¬ 9223372036854775807 < 5+r.name.size+5+r.kind.size:=by omega
  have m4:¬ 9223372036854775807 < 5+r.name.size+5+r.kind.size+2:=by omega
  have m5:¬ 9223372036854775807 < 5+r.name.size+5+r.kind.size+2+tx.size:=by omega
  have m6:¬ 9223372036854775807 < 5+r.name.size+5+r.kind.size+2+tx.size+2:=by omega
  dsimp only [ruA] at *
  clear hb hl hn hk hf hr h1 h2 h3 h4 htl
  go_enter Tryz.func10,Tryz.ntmps10
  go_wp2_with (go_at_call 15;refine (HV.out _ HL.out).mono ?_;rintro e w2 ⟨rfl,hb2⟩;have HW2:=Lib.hid (HB.out.trans (hb2.mono HB.out.size));have HX2:=Lib.hid (HX.out.below hb2 HX.out.lt);have HL2:=Lib.hid (HL.out.later hb2);clear hb2)
  refine wp_region_held_drew (S:=fun W=>W.cell? ⟨w.heap.size,0,none⟩ = some (.string r.name)∧W.cell? ⟨w.heap.size,1,none⟩ = some (.string r.kind)∧W.cell? ⟨w.heap.size,2,none⟩ = some (.int .i64 r.cond.op)∧W.cell? ⟨w.heap.size,3,none⟩ = some (.string r.cond.name)∧W.cell? ⟨w.heap.size,4,none⟩ = some (.string r.cond.value)∧W.cell? ⟨w.heap.size,5,none⟩ = some (.int .i64 r.cond.n)∧W.cell? ⟨w.heap.size,6,none⟩ = some (.int .i64 r.cond.extra)∧W.cell? ⟨w.heap.size,7,none⟩ = some (.slice A r.cond.kids.length c)) (by kernel_rfl) (⟨HX2.out.drew.cell 0,HX2.out.drew.cell 1,HX2.out.drew.cell 2,HX2.out.drew.cell 3,HX2.out.drew.cell 4,HX2.out.drew.cell 5,HX2.out.drew.cell 6,HX2.out.drew.cell 7⟩) (fun hHeld=>?_)
  refine plI [(0,false),(1,false),(2,false),(3,false),(4,false),(5,false),(6,false),(7,false),(8,false),(9,false)] ?_
  repeat ((first | ((with_reducible show Plan ((_,true) :: _) _);refine plF ?_) | (refine plR (v:=?_) ?_ ?_;rotate_left;focus (intro W hSW;(try dsimp only at hSW);go_simp;all_goals (with_reducible rfl))));try simp only [Act.put,List.setIfInBounds_toArray,List.set_cons_zero,List.set_cons_succ])
  refine plE ?_
  refine wpAnyH_ready (rs:=[10]) (by kernel_rfl) (by simp) ?_
  refine AllReadyH.cons (o:=⟨_,_,_,_,_,_⟩) rfl (fun K hK=>?_) AllReadyH.nil
  go_simp
  go_at_call 20;refine (HT.out _ (HL2.out.keeps (KeepsC.refl _).drew)).mono ?_;rintro e w4 ⟨rfl,hb4⟩;have HX4:=Lib.hid (HX2.out.drew.below hb4 HX2.out.drew.lt);have HB4:=Lib.hid (HW2.out.drew.trans (hb4.mono HW2.out.drew.size));clear hb4
  refine hK.out _ _ (⟨HX4.out.cell 0,HX4.out.cell 1,HX4.out.cell 2,HX4.out.cell 3,HX4.out.cell 4,HX4.out.cell 5,HX4.out.cell 6,HX4.out.cell 7⟩) (fun hHeld=>?_)
  clear hK K
  try simp only [Act.put,List.setIfInBounds_toArray,List.set_cons_zero,List.set_cons_succ]
  refine plI [(11,false),(12,false),(13,false)] ?_
  repeat ((first | ((with_reducible show Plan ((_,true) :: _) _);refine plF ?_) | (refine plR (v:=?_) ?_ ?_;rotate_left;focus (intro W hSW;(try dsimp only at hSW);go_simp;all_goals (with_reducible rfl))));try simp only [Act.put,List.setIfInBounds_toArray,List.set_cons_zero,List.set_cons_succ])
  refine plE ?_
  refine wpAnyH_done (by kernel_rfl) ?_ _
  clear hHeld
  obtain ⟨tq,htq⟩:∃ tq,ruleT r = tq:=⟨_,rfl⟩
  have HEq:=HE _ htq
  rw [show ⟨#[114,117,108,101,32]⟩++r.name++⟨#[32,102,111,114,32]⟩++r.kind++⟨#[58,32]⟩++tx++⟨#[59,10]⟩ = tq from HR.symm.trans htq]
  clear HE HR m1 m2 m3 m4 m5 m6
  by_cases hq:20000 < tq.size
  · have hqi:(20000:Int) < (tq.size:Int):=by omega
    rw [if_pos hq] at HEq
    go_wp2_with fail
    go_ret2
    exact ⟨by first | rfl | (rw [HEq];rfl),HB4.out⟩
  · have hqi:¬ (20000:Int) < (tq.size:Int):=by omega
    rw [if_neg hq] at HEq
    go_wp2_with fail
    go_ret2
    exact ⟨by first | rfl | (rw [HEq];rfl),HB4.out⟩
theorem rftext_any (r:Ru) (kv:Value) (w:World) (hf:FitE r.cond) (hn:r.name.size≤maxLen) (hk:r.kind.size≤maxLen) (hl:Lay w kv r.cond.kids) :
    Calls Tryz.prog 10 #[.agg (ruA r kv)] w fun e w'=>e = .returned (.tuple #[.string (textU r).1,.int .i64 (textU r).2])∧Below w.heap.size w w':=by
  cases hr:ruleB r with
  | true=>exact rftext_ok r kv w hf hn hk hl hr
  | false=>exact rftext_no r kv w hf hn hk hl hr
end Go.Proofs.YtppoeiofdmlpeaaGreatDoor
