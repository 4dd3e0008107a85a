/- bogielaw20.RuleNames answers true. Condition: the table of powers of ten, and the error variables; the rule lies in memory, its strings fit. -/
import Derived.BigQuiet
import Derived.Test.YtppoeiofdmlpeaaGreatDoorU10
import Derived.Test.YtppoeiofdmlpeaaGreatDoorU17
namespace Go.Proofs.YtppoeiofdmlpeaaGreatDoor
open Go Go.RowKit
/-- What is known of the box of the first rule. -/
structure TN (w : World) (r : Ru) (kv : Value) (W : World) : Prop where
  b : Below w.heap.size w W
  h : Has W w.heap.size 26 (ruA r kv)
  l : Lay W kv r.cond.kids
section
variable {w W W' : World} {r : Ru} {kv : Value}
theorem TN.size (h : TN w r kv W) : w.heap.size < W.heap.size := h.h.lt
theorem TN.later (h : TN w r kv W) (hb : Below W.heap.size W W') : TN w r kv W' := ⟨h.b.trans (hb.mono h.b.size), h.h.below hb h.h.lt, h.l.later hb⟩
theorem TN.alloc (h : TN w r kv W) (o : Obj) : TN w r kv (W.alloc o) := h.later ((Below.refl _ _).alloc (Nat.le_refl _) _)
theorem TN.start (hl : Lay w kv r.cond.kids) : TN w r kv (w.alloc (.cells (ruA r kv) 26)) :=
  have hb : Below w.heap.size w (w.alloc (.cells (ruA r kv) 26)) := (Below.refl _ _).alloc (Nat.le_refl _) _
  ⟨hb, Has.new _ _ _, hl.later hb⟩
end
/-- The box of the other rule besides. -/
structure TX (w : World) (r x : Ru) (kv : Value) (g : Nat) (W : World) : Prop where
  t : TN w r kv W
  x : Has W g 26 (ruA x kv)
section
variable {w W W' : World} {r x : Ru} {kv : Value} {g : Nat}
theorem TX.later (h : TX w r x kv g W) (hb : Below W.heap.size W W') : TX w r x kv g W' := ⟨h.t.later hb, h.x.below hb h.x.lt⟩
theorem TN.other (h : TN w r kv W) (x : Ru) : TX w r x kv W.heap.size (W.alloc (.cells (ruA x kv) 26)) := ⟨h.alloc _, Has.new _ _ _⟩
end
theorem ru_one {W : World} {g t : Nat} {r : Ru} {kv : Value} (h : Has W g t (ruA r kv)) (hl : Lay W kv r.cond.kids) : RuL W (.slice (some ⟨g, 0, none⟩) 1 1) [r] := by
  refine ⟨_, 1, rfl, Nat.le_refl _, .inr ⟨g, 0, rfl, fun i hi => ?_⟩⟩
  match i, hi with
  | 0, _ =>
    refine ⟨kv, fun j hj => ?_, hl⟩
    rcases (by omega : j = 0 ∨ j = 1 ∨ j = 2 ∨ j = 3 ∨ j = 4 ∨ j = 5 ∨ j = 6 ∨ j = 7) with rfl | rfl | rfl | rfl | rfl | rfl | rfl | rfl
    all_goals exact h.cell _
set_option maxRecDepth 100000 in
set_option maxHeartbeats 8000000 in
theorem names_few (w0 : World) (ht : Tab w0) (hv : Evs w0) (r : Ru) (kv : Value) (name kind : ByteArray) (w : World) (hb0 : Below w0.heap.size w0 w) (hl : Lay w kv r.cond.kids) (hw : fewsU [r] = false) :
    Calls Tryz.prog 6 #[.agg (ruA r kv), .string name, .string kind] w fun e w' => e = .returned (.bool true) ∧ Below w.heap.size w w' := by
  have hsz0 := hb0.size
  have HHD := Lib.hid (fun W (hb : Below w.heap.size w W) => head_any w0 W ht hv (hb0.trans (hb.mono hsz0)))
  have HFW := Lib.hid (fun (g : Nat) W (h : RuL W (.slice (some ⟨g, 0, none⟩) 1 1) [r]) => few_any _ [r] W h (show 1 ≤ 5 by decide))
  have HS := Lib.hid (TN.start hl)
  rw [hw] at HFW
  obtain ⟨A, c, rfl, _⟩ := hl.slice
  dsimp only [ruA] at *
  clear hl hb0 ht hv
  go_enter Tryz.func6, Tryz.ntmps6
  go_wp2_with (first
    | (go_at_call 7; refine (HHD.out _ HS.out.b).mono ?_; rintro e w2 ⟨rfl, hb⟩; have HT2 := Lib.hid (HS.out.later hb); obtain ⟨d2, f2⟩ := HT2.out.h.facts; dsimp only [ruA] at d2; clear hb)
    | (go_at_call 8; refine (HFW.out _ _ (ru_one (Has.new w2 26 #[.string r.name, .string r.kind, .int .i64 r.cond.op, .string r.cond.name, .string r.cond.value, .int .i64 r.cond.n, .int .i64 r.cond.extra, .slice A r.cond.kids.length c]) (HT2.out.alloc (.cells #[.string r.name, .string r.kind, .int .i64 r.cond.op, .string r.cond.name, .string r.cond.value, .int .i64 r.cond.n, .int .i64 r.cond.extra, .slice A r.cond.kids.length c] 26)).l)).mono ?_; rintro e w3 ⟨rfl, hb⟩; have HT3 := Lib.hid ((HT2.out.alloc (.cells #[.string r.name, .string r.kind, .int .i64 r.cond.op, .string r.cond.name, .string r.cond.value, .int .i64 r.cond.n, .int .i64 r.cond.extra, .slice A r.cond.kids.length c] 26)).later hb); clear d2 f2; obtain ⟨d3, f3⟩ := HT3.out.h.facts; dsimp only [ruA] at d3; clear hb))
  go_ret
  exact ⟨rfl, HT3.out.b⟩
set_option maxRecDepth 100000 in
set_option maxHeartbeats 8000000 in
theorem names_big (w0 : World) (ht : Tab w0) (hv : Evs w0) (r : Ru) (kv : Value) (name kind : ByteArray) (w : World) (hb0 : Below w0.heap.size w0 w) (hl : Lay w kv r.cond.kids) (hw : fewsU [r] = true) (hz0 : 300 < IntKind.i64.wrap ((name.size : Int) + (kind.size : Int))) :
    Calls Tryz.prog 6 #[.agg (ruA r kv), .string name, .string kind] w fun e w' => e = .returned (.bool true) ∧ Below w.heap.size w w' := by
  have hsz0 := hb0.size
  have HHD := Lib.hid (fun W (hb : Below w.heap.size w W) => head_any w0 W ht hv (hb0.trans (hb.mono hsz0)))
  have HFW := Lib.hid (fun (g : Nat) W (h : RuL W (.slice (some ⟨g, 0, none⟩) 1 1) [r]) => few_any _ [r] W h (show 1 ≤ 5 by decide))
  have HS := Lib.hid (TN.start hl)
  rw [hw] at HFW
  obtain ⟨z, hz⟩ : ∃ z, IntKind.i64.wrap ((name.size : Int) + (kind.size : Int)) = z := ⟨_, rfl⟩
  rw [hz] at hz0
  obtain ⟨A, c, rfl, _⟩ := hl.slice
  dsimp only [ruA] at *
  clear hl hb0 ht hv
  go_enter Tryz.func6, Tryz.ntmps6
  go_wp2_with (first
    | (go_at_call 7; refine (HHD.out _ HS.out.b).mono ?_; rintro e w2 ⟨rfl, hb⟩; have HT2 := Lib.hid (HS.out.later hb); obtain ⟨d2, f2⟩ := HT2.out.h.facts; dsimp only [ruA] at d2; clear hb)
    | (go_at_call 8; refine (HFW.out _ _ (ru_one (Has.new w2 26 #[.string r.name, .string r.kind, .int .i64 r.cond.op, .string r.cond.name, .string r.cond.value, .int .i64 r.cond.n, .int .i64 r.cond.extra, .slice A r.cond.kids.length c]) (HT2.out.alloc (.cells #[.string r.name, .string r.kind, .int .i64 r.cond.op, .string r.cond.name, .string r.cond.value, .int .i64 r.cond.n, .int .i64 r.cond.extra, .slice A r.cond.kids.length c] 26)).l)).mono ?_; rintro e w3 ⟨rfl, hb⟩; have HT3 := Lib.hid ((HT2.out.alloc (.cells #[.string r.name, .string r.kind, .int .i64 r.cond.op, .string r.cond.name, .string r.cond.value, .int .i64 r.cond.n, .int .i64 r.cond.extra, .slice A r.cond.kids.length c] 26)).later hb); clear d2 f2; obtain ⟨d3, f3⟩ := HT3.out.h.facts; dsimp only [ruA] at d3; clear hb))
  go_ret
  exact ⟨rfl, HT3.out.b⟩
set_option maxRecDepth 100000 in
set_option maxHeartbeats 8000000 in
theorem names_none (w0 : World) (ht : Tab w0) (hv : Evs w0) (r : Ru) (kv : Value) (name kind : ByteArray) (w : World) (hb0 : Below w0.heap.size w0 w) (hc : cnt r.cond ≤ 1000000) (hf : FitE r.cond) (hn : r.name.size ≤ maxLen) (hk : r.kind.size ≤ maxLen) (hnn : name.size ≤ maxLen) (hkk : kind.size ≤ maxLen) (hl : Lay w kv r.cond.kids) (hw : fewsU [r] = true) (hz0 : ¬ 300 < IntKind.i64.wrap ((name.size : Int) + (kind.size : Int))) (he : (textU r).2 ≠ 0) :
    Calls Tryz.prog 6 #[.agg (ruA r kv), .string name, .string kind] w fun e w' => e = .returned (.bool true) ∧ Below w.heap.size w w' := by
  have hsz0 := hb0.size
  have HHD := Lib.hid (fun W (hb : Below w.heap.size w W) => head_any w0 W ht hv (hb0.trans (hb.mono hsz0)))
  have HFW := Lib.hid (fun (g : Nat) W (h : RuL W (.slice (some ⟨g, 0, none⟩) 1 1) [r]) => few_any _ [r] W h (show 1 ≤ 5 by decide))
  have HTR := Lib.hid (fun W (h : TN w r kv W) => rtext_any w0 ht r kv W (hb0.trans (h.b.mono hsz0)) hc hf hn hk h.l)
  have HTX := Lib.hid (fun W (h : TN w r kv W) => rtext_any w0 ht ⟨name, kind, r.cond⟩ kv W (hb0.trans (h.b.mono hsz0)) hc hf hnn hkk h.l)
  have HVX := Lib.hid (fun W (h : TN w r kv W) => valid_any ⟨name, kind, r.cond⟩ kv W hc hf hnn hkk h.l)
  have HNN := Lib.hid (fun W => name_any name W hnn)
  have HNK := Lib.hid (fun W => name_any kind W hkk)
  have HS := Lib.hid (TN.start hl)
  have HO := Lib.hid (fun W (h : TN w r kv W) => h.other ⟨name, kind, r.cond⟩)
  rw [hw] at HFW
  obtain ⟨z, hz⟩ : ∃ z, IntKind.i64.wrap ((name.size : Int) + (kind.size : Int)) = z := ⟨_, rfl⟩
  rw [hz] at hz0
  have heb : ((textU r).2 != 0) = true := by simpa using he
  generalize textU r = tu at *
  clear HTX HVX HNN HNK
  obtain ⟨A, c, rfl, _⟩ := hl.slice
  dsimp only [ruA] at *
  clear hl hb0 ht hv hn hk hc hf hnn hkk
  go_enter Tryz.func6, Tryz.ntmps6
  go_wp2_with (first
    | (go_at_call 7; refine (HHD.out _ HS.out.b).mono ?_; rintro e w2 ⟨rfl, hb⟩; have HT2 := Lib.hid (HS.out.later hb); obtain ⟨d2, f2⟩ := HT2.out.h.facts; dsimp only [ruA] at d2; clear hb)
    | (go_at_call 8; refine (HFW.out _ _ (ru_one (Has.new w2 26 #[.string r.name, .string r.kind, .int .i64 r.cond.op, .string r.cond.name, .string r.cond.value, .int .i64 r.cond.n, .int .i64 r.cond.extra, .slice A r.cond.kids.length c]) (HT2.out.alloc (.cells #[.string r.name, .string r.kind, .int .i64 r.cond.op, .string r.cond.name, .string r.cond.value, .int .i64 r.cond.n, .int .i64 r.cond.extra, .slice A r.cond.kids.length c] 26)).l)).mono ?_; rintro e w3 ⟨rfl, hb⟩; have HT3 := Lib.hid ((HT2.out.alloc (.cells #[.string r.name, .string r.kind, .int .i64 r.cond.op, .string r.cond.name, .string r.cond.value, .int .i64 r.cond.n, .int .i64 r.cond.extra, .slice A r.cond.kids.length c] 26)).later hb); clear d2 f2; obtain ⟨d3, f3⟩ := HT3.out.h.facts; dsimp only [ruA] at d3; clear hb)
    | (go_at_call 9; refine (HTR.out _ HT3.out).mono ?_; clear HTR; rintro e w4 ⟨rfl, hb⟩; have HT4 := Lib.hid (HT3.out.later hb); clear d3 f3; obtain ⟨d4, f4⟩ := HT4.out.h.facts; dsimp only [ruA] at d4; have HX4 := Lib.hid (HO.out _ HT4.out); obtain ⟨dx4, fx4⟩ := HX4.out.x.facts; dsimp only [ruA] at dx4; obtain ⟨dy4, fy4⟩ := HX4.out.t.h.facts; dsimp only [ruA] at dy4; clear hb))
  go_ret
  exact ⟨rfl, HX4.out.t.b⟩
set_option maxRecDepth 100000 in
set_option maxHeartbeats 8000000 in
theorem names_n1 (w0 : World) (ht : Tab w0) (hv : Evs w0) (r : Ru) (kv : Value) (name kind : ByteArray) (w : World) (hb0 : Below w0.heap.size w0 w) (hc : cnt r.cond ≤ 1000000) (hf : FitE r.cond) (hn : r.name.size ≤ maxLen) (hk : r.kind.size ≤ maxLen) (hnn : name.size ≤ maxLen) (hkk : kind.size ≤ maxLen) (hl : Lay w kv r.cond.kids) (hw : fewsU [r] = true) (hz0 : ¬ 300 < IntKind.i64.wrap ((name.size : Int) + (kind.size : Int))) (he : (textU r).2 = 0) (n1 : nameB name = false) :
    Calls Tryz.prog 6 #[.agg (ruA r kv), .string name, .string kind] w fun e w' => e = .returned (.bool true) ∧ Below w.heap.size w w' := by
  have hsz0 := hb0.size
  have HHD := Lib.hid (fun W (hb : Below w.heap.size w W) => head_any w0 W ht hv (hb0.trans (hb.mono hsz0)))
  have HFW := Lib.hid (fun (g : Nat) W (h : RuL W (.slice (some ⟨g, 0, none⟩) 1 1) [r]) => few_any _ [r] W h (show 1 ≤ 5 by decide))
  have HTR := Lib.hid (fun W (h : TN w r kv W) => rtext_any w0 ht r kv W (hb0.trans (h.b.mono hsz0)) hc hf hn hk h.l)
  have HTX := Lib.hid (fun W (h : TN w r kv W) => rtext_any w0 ht ⟨name, kind, r.cond⟩ kv W (hb0.trans (h.b.mono hsz0)) hc hf hnn hkk h.l)
  have HVX := Lib.hid (fun W (h : TN w r kv W) => valid_any ⟨name, kind, r.cond⟩ kv W hc hf hnn hkk h.l)
  have HNN := Lib.hid (fun W => name_any name W hnn)
  have HNK := Lib.hid (fun W => name_any kind W hkk)
  have HS := Lib.hid (TN.start hl)
  have HO := Lib.hid (fun W (h : TN w r kv W) => h.other ⟨name, kind, r.cond⟩)
  rw [hw] at HFW
  obtain ⟨z, hz⟩ : ∃ z, IntKind.i64.wrap ((name.size : Int) + (kind.size : Int)) = z := ⟨_, rfl⟩
  rw [hz] at hz0
  obtain ⟨hrb, htu⟩ := textU_ok he
  rw [htu] at HTR
  obtain ⟨ha, hbb, hcc, hdd⟩ := (rule_iff r.name r.kind r.cond).1 hrb
  have hnl := name_le ha
  have hkl := name_le hbb
  have hx : ruleB ⟨name, kind, r.cond⟩ = false := by
    rw [Bool.eq_false_iff]
    intro h
    rw [rule_iff, n1] at h
    exact absurd h.1 (by decide)
  rw [hx] at HVX
  rw [n1] at HNN
  clear HNK
  have htx : textU ⟨name, kind, r.cond⟩ = (e0, 1) := by unfold textU; rw [hx]; rfl
  rw [htx] at HTX
  clear ha hbb hcc hdd hnl hkl htu hrb he htx hx
  generalize ruleT r = sT at *
  obtain ⟨A, c, rfl, _⟩ := hl.slice
  dsimp only [ruA] at *
  clear hl hb0 ht hv hn hk hc hf hnn hkk
  go_enter Tryz.func6, Tryz.ntmps6
  go_wp2_with (first
    | (go_at_call 7; refine (HHD.out _ HS.out.b).mono ?_; rintro e w2 ⟨rfl, hb⟩; have HT2 := Lib.hid (HS.out.later hb); obtain ⟨d2, f2⟩ := HT2.out.h.facts; dsimp only [ruA] at d2; clear hb)
    | (go_at_call 8; refine (HFW.out _ _ (ru_one (Has.new w2 26 #[.string r.name, .string r.kind, .int .i64 r.cond.op, .string r.cond.name, .string r.cond.value, .int .i64 r.cond.n, .int .i64 r.cond.extra, .slice A r.cond.kids.length c]) (HT2.out.alloc (.cells #[.string r.name, .string r.kind, .int .i64 r.cond.op, .string r.cond.name, .string r.cond.value, .int .i64 r.cond.n, .int .i64 r.cond.extra, .slice A r.cond.kids.length c] 26)).l)).mono ?_; rintro e w3 ⟨rfl, hb⟩; have HT3 := Lib.hid ((HT2.out.alloc (.cells #[.string r.name, .string r.kind, .int .i64 r.cond.op, .string r.cond.name, .string r.cond.value, .int .i64 r.cond.n, .int .i64 r.cond.extra, .slice A r.cond.kids.length c] 26)).later hb); clear d2 f2; obtain ⟨d3, f3⟩ := HT3.out.h.facts; dsimp only [ruA] at d3; clear hb)
    | (first | (go_at_call 9; refine (HTR.out _ HT3.out).mono ?_; clear HTR; rintro e w4 ⟨rfl, hb⟩; have HT4 := Lib.hid (HT3.out.later hb); clear d3 f3; obtain ⟨d4, f4⟩ := HT4.out.h.facts; dsimp only [ruA] at d4; have HX4 := Lib.hid (HO.out _ HT4.out); obtain ⟨dx4, fx4⟩ := HX4.out.x.facts; dsimp only [ruA] at dx4; obtain ⟨dy4, fy4⟩ := HX4.out.t.h.facts; dsimp only [ruA] at dy4; clear hb) | (go_at_call 9; refine (HTX.out _ HX6.out.t).mono ?_; rintro e w8 ⟨rfl, hb⟩; have HX8 := Lib.hid (HX6.out.later hb); clear dx6 fx6 dy6 fy6; obtain ⟨dx8, fx8⟩ := HX8.out.x.facts; dsimp only [ruA] at dx8; obtain ⟨dy8, fy8⟩ := HX8.out.t.h.facts; dsimp only [ruA] at dy8; clear hb))
    | (go_at_call 14; first | ((with_reducible show Calls _ _ _ (w4.alloc _) _); refine (HVX.out _ HX4.out.t).mono ?_; rintro e w5 ⟨rfl, hb⟩; have HX5 := Lib.hid (HX4.out.later hb); clear dx4 fx4 dy4 fy4; obtain ⟨dx5, fx5⟩ := HX5.out.x.facts; dsimp only [ruA] at dx5; obtain ⟨dy5, fy5⟩ := HX5.out.t.h.facts; dsimp only [ruA] at dy5; clear hb) | (refine (HVX.out _ HX8.out.t).mono ?_; rintro e w9 ⟨rfl, hb⟩; have HX9 := Lib.hid (HX8.out.later hb); clear hb))
    | (go_at_call 17; ((with_reducible show Calls _ _ #[.string name] _ _); refine (HNN.out _).mono ?_; rintro e w6 ⟨rfl, hb⟩; have HX6 := Lib.hid (HX5.out.later hb); clear dx5 fx5 dy5 fy5; obtain ⟨dx6, fx6⟩ := HX6.out.x.facts; dsimp only [ruA] at dx6; obtain ⟨dy6, fy6⟩ := HX6.out.t.h.facts; dsimp only [ruA] at dy6; clear hb)))
  go_ret
  exact ⟨rfl, HX9.out.t.b⟩
set_option maxRecDepth 100000 in
set_option maxHeartbeats 8000000 in
theorem names_n2 (w0 : World) (ht : Tab w0) (hv : Evs w0) (r : Ru) (kv : Value) (name kind : ByteArray) (w : World) (hb0 : Below w0.heap.size w0 w) (hc : cnt r.cond ≤ 1000000) (hf : FitE r.cond) (hn : r.name.size ≤ maxLen) (hk : r.kind.size ≤ maxLen) (hnn : name.size ≤ maxLen) (hkk : kind.size ≤ maxLen) (hl : Lay w kv r.cond.kids) (hw : fewsU [r] = true) (hz0 : ¬ 300 < IntKind.i64.wrap ((name.size : Int) + (kind.size : Int))) (he : (textU r).2 = 0) (n1 : nameB name = true) (n2 : nameB kind = false) :
    Calls Tryz.prog 6 #[.agg (ruA r kv), .string name, .string kind] w fun e w' => e = .returned (.bool true) ∧ Below w.heap.size w w' := by
  have hsz0 := hb0.size
  have HHD := Lib.hid (fun W (hb : Below w.heap.size w W) => head_any w0 W ht hv (hb0.trans (hb.mono hsz0)))
  have HFW := Lib.hid (fun (g : Nat) W (h : RuL W (.slice (some ⟨g, 0, none⟩) 1 1) [r]) => few_any _ [r] W h (show 1 ≤ 5 by decide))
  have HTR := Lib.hid (fun W (h : TN w r kv W) => rtext_any w0 ht r kv W (hb0.trans (h.b.mono hsz0)) hc hf hn hk h.l)
  have HTX := Lib.hid (fun W (h : TN w r kv W) => rtext_any w0 ht ⟨name, kind, r.cond⟩ kv W (hb0.trans (h.b.mono hsz0)) hc hf hnn hkk h.l)
  have HVX := Lib.hid (fun W (h : TN w r kv W) => valid_any ⟨name, kind, r.cond⟩ kv W hc hf hnn hkk h.l)
  have HNN := Lib.hid (fun W => name_any name W hnn)
  have HNK := Lib.hid (fun W => name_any kind W hkk)
  have HS := Lib.hid (TN.start hl)
  have HO := Lib.hid (fun W (h : TN w r kv W) => h.other ⟨name, kind, r.cond⟩)
  rw [hw] at HFW
  obtain ⟨z, hz⟩ : ∃ z, IntKind.i64.wrap ((name.size : Int) + (kind.size : Int)) = z := ⟨_, rfl⟩
  rw [hz] at hz0
  obtain ⟨hrb, htu⟩ := textU_ok he
  rw [htu] at HTR
  obtain ⟨ha, hbb, hcc, hdd⟩ := (rule_iff r.name r.kind r.cond).1 hrb
  have hnl := name_le ha
  have hkl := name_le hbb
  have hx : ruleB ⟨name, kind, r.cond⟩ = false := by
    rw [Bool.eq_iff_iff, rule_iff, n1, n2]
    simp [hcc, hdd]
  rw [hx] at HVX
  rw [n1] at HNN
  rw [n2] at HNK
  have htx : textU ⟨name, kind, r.cond⟩ = (e0, 1) := by unfold textU; rw [hx]; rfl
  rw [htx] at HTX
  clear ha hbb hcc hdd hnl hkl htu hrb he htx hx
  generalize ruleT r = sT at *
  obtain ⟨A, c, rfl, _⟩ := hl.slice
  dsimp only [ruA] at *
  clear hl hb0 ht hv hn hk hc hf hnn hkk
  go_enter Tryz.func6, Tryz.ntmps6
  go_wp2_with (first
    | (go_at_call 7; refine (HHD.out _ HS.out.b).mono ?_; rintro e w2 ⟨rfl, hb⟩; have HT2 := Lib.hid (HS.out.later hb); obtain ⟨d2, f2⟩ := HT2.out.h.facts; dsimp only [ruA] at d2; clear hb)
    | (go_at_call 8; refine (HFW.out _ _ (ru_one (Has.new w2 26 #[.string r.name, .string r.kind, .int .i64 r.cond.op, .string r.cond.name, .string r.cond.value, .int .i64 r.cond.n, .int .i64 r.cond.extra, .slice A r.cond.kids.length c]) (HT2.out.alloc (.cells #[.string r.name, .string r.kind, .int .i64 r.cond.op, .string r.cond.name, .string r.cond.value, .int .i64 r.cond.n, .int .i64 r.cond.extra, .slice A r.cond.kids.length c] 26)).l)).mono ?_; rintro e w3 ⟨rfl, hb⟩; have HT3 := Lib.hid ((HT2.out.alloc (.cells #[.string r.name, .string r.kind, .int .i64 r.cond.op, .string r.cond.name, .string r.cond.value, .int .i64 r.cond.n, .int .i64 r.cond.extra, .slice A r.cond.kids.length c] 26)).later hb); clear d2 f2; obtain ⟨d3, f3⟩ := HT3.out.h.facts; dsimp only [ruA] at d3; clear hb)
    | (first | (go_at_call 9; refine (HTR.out _ HT3.out).mono ?_; clear HTR; rintro e w4 ⟨rfl, hb⟩; have HT4 := Lib.hid (HT3.out.later hb); clear d3 f3; obtain ⟨d4, f4⟩ := HT4.out.h.facts; dsimp only [ruA] at d4; have HX4 := Lib.hid (HO.out _ HT4.out); obtain ⟨dx4, fx4⟩ := HX4.out.x.facts; dsimp only [ruA] at dx4; obtain ⟨dy4, fy4⟩ := HX4.out.t.h.facts; dsimp only [ruA] at dy4; clear hb) | (go_at_call 9; refine (HTX.out _ HX7.out.t).mono ?_; rintro e w8 ⟨rfl, hb⟩; have HX8 := Lib.hid (HX7.out.later hb); clear dx7 fx7 dy7 fy7; obtain ⟨dx8, fx8⟩ := HX8.out.x.facts; dsimp only [ruA] at dx8; obtain ⟨dy8, fy8⟩ := HX8.out.t.h.facts; dsimp only [ruA] at dy8; clear hb))
    | (go_at_call 14; first | ((with_reducible show Calls _ _ _ (w4.alloc _) _); refine (HVX.out _ HX4.out.t).mono ?_; rintro e w5 ⟨rfl, hb⟩; have HX5 := Lib.hid (HX4.out.later hb); clear dx4 fx4 dy4 fy4; obtain ⟨dx5, fx5⟩ := HX5.out.x.facts; dsimp only [ruA] at dx5; obtain ⟨dy5, fy5⟩ := HX5.out.t.h.facts; dsimp only [ruA] at dy5; clear hb) | (refine (HVX.out _ HX8.out.t).mono ?_; rintro e w9 ⟨rfl, hb⟩; have HX9 := Lib.hid (HX8.out.later hb); clear hb))
    | (go_at_call 17; first | ((with_reducible show Calls _ _ #[.string name] _ _); refine (HNN.out _).mono ?_; rintro e w6 ⟨rfl, hb⟩; have HX6 := Lib.hid (HX5.out.later hb); clear dx5 fx5 dy5 fy5; obtain ⟨dx6, fx6⟩ := HX6.out.x.facts; dsimp only [ruA] at dx6; obtain ⟨dy6, fy6⟩ := HX6.out.t.h.facts; dsimp only [ruA] at dy6; clear hb) | ((with_reducible show Calls _ _ #[.string kind] _ _); refine (HNK.out _).mono ?_; rintro e w7 ⟨rfl, hb⟩; have HX7 := Lib.hid (HX6.out.later hb); clear dx6 fx6 dy6 fy6; obtain ⟨dx7, fx7⟩ := HX7.out.x.facts; dsimp only [ruA] at dx7; obtain ⟨dy7, fy7⟩ := HX7.out.t.h.facts; dsimp only [ruA] at dy7; clear hb)))
  go_ret
  exact ⟨rfl, HX9.out.t.b⟩
set_option maxRecDepth 100000 in
set_option maxHeartbeats 8000000 in
theorem names_long (w0 : World) (ht : Tab w0) (hv : Evs w0) (r : Ru) (kv : Value) (name kind : ByteArray) (w : World) (hb0 : Below w0.heap.size w0 w) (hc : cnt r.cond ≤ 1000000) (hf : FitE r.cond) (hn : r.name.size ≤ maxLen) (hk : r.kind.size ≤ maxLen) (hnn : name.size ≤ maxLen) (hkk : kind.size ≤ maxLen) (hl : Lay w kv r.cond.kids) (hw : fewsU [r] = true) (hz0 : ¬ 300 < IntKind.i64.wrap ((name.size : Int) + (kind.size : Int))) (he : (textU r).2 = 0) (n1 : nameB name = true) (n2 : nameB kind = true) (hlg : 20000 < (ruleT ⟨name, kind, r.cond⟩).size) :
    Calls Tryz.prog 6 #[.agg (ruA r kv), .string name, .string kind] w fun e w' => e = .returned (.bool true) ∧ Below w.heap.size w w' := by
  have hsz0 := hb0.size
  have HHD := Lib.hid (fun W (hb : Below w.heap.size w W) => head_any w0 W ht hv (hb0.trans (hb.mono hsz0)))
  have HFW := Lib.hid (fun (g : Nat) W (h : RuL W (.slice (some ⟨g, 0, none⟩) 1 1) [r]) => few_any _ [r] W h (show 1 ≤ 5 by decide))
  have HTR := Lib.hid (fun W (h : TN w r kv W) => rtext_any w0 ht r kv W (hb0.trans (h.b.mono hsz0)) hc hf hn hk h.l)
  have HTX := Lib.hid (fun W (h : TN w r kv W) => rtext_any w0 ht ⟨name, kind, r.cond⟩ kv W (hb0.trans (h.b.mono hsz0)) hc hf hnn hkk h.l)
  have HVX := Lib.hid (fun W (h : TN w r kv W) => valid_any ⟨name, kind, r.cond⟩ kv W hc hf hnn hkk h.l)
  have HNN := Lib.hid (fun W => name_any name W hnn)
  have HNK := Lib.hid (fun W => name_any kind W hkk)
  have HS := Lib.hid (TN.start hl)
  have HO := Lib.hid (fun W (h : TN w r kv W) => h.other ⟨name, kind, r.cond⟩)
  rw [hw] at HFW
  obtain ⟨z, hz⟩ : ∃ z, IntKind.i64.wrap ((name.size : Int) + (kind.size : Int)) = z := ⟨_, rfl⟩
  rw [hz] at hz0
  obtain ⟨hrb, htu⟩ := textU_ok he
  rw [htu] at HTR
  obtain ⟨ha, hbb, hcc, hdd⟩ := (rule_iff r.name r.kind r.cond).1 hrb
  have hnl := name_le ha
  have hkl := name_le hbb
  have hx : ruleB ⟨name, kind, r.cond⟩ = true := by
    rw [Bool.eq_iff_iff, rule_iff, n1, n2]
    simp [hcc, hdd]
  rw [hx] at HVX
  rw [n1] at HNN
  rw [n2] at HNK
  have htx : textU ⟨name, kind, r.cond⟩ = (e0, 7) := by unfold textU; rw [hx]; exact if_pos hlg
  rw [htx] at HTX
  clear ha hbb hcc hdd hnl hkl htu hrb he htx hx hlg
  generalize ruleT r = sT at *
  obtain ⟨A, c, rfl, _⟩ := hl.slice
  dsimp only [ruA] at *
  clear hl hb0 ht hv hn hk hc hf hnn hkk
  go_enter Tryz.func6, Tryz.ntmps6
  go_wp2_with (first
    | (go_at_call 7; refine (HHD.out _ HS.out.b).mono ?_; rintro e w2 ⟨rfl, hb⟩; have HT2 := Lib.hid (HS.out.later hb); obtain ⟨d2, f2⟩ := HT2.out.h.facts; dsimp only [ruA] at d2; clear hb)
    | (go_at_call 8; refine (HFW.out _ _ (ru_one (Has.new w2 26 #[.string r.name, .string r.kind, .int .i64 r.cond.op, .string r.cond.name, .string r.cond.value, .int .i64 r.cond.n, .int .i64 r.cond.extra, .slice A r.cond.kids.length c]) (HT2.out.alloc (.cells #[.string r.name, .string r.kind, .int .i64 r.cond.op, .string r.cond.name, .string r.cond.value, .int .i64 r.cond.n, .int .i64 r.cond.extra, .slice A r.cond.kids.length c] 26)).l)).mono ?_; rintro e w3 ⟨rfl, hb⟩; have HT3 := Lib.hid ((HT2.out.alloc (.cells #[.string r.name, .string r.kind, .int .i64 r.cond.op, .string r.cond.name, .string r.cond.value, .int .i64 r.cond.n, .int .i64 r.cond.extra, .slice A r.cond.kids.length c] 26)).later hb); clear d2 f2; obtain ⟨d3, f3⟩ := HT3.out.h.facts; dsimp only [ruA] at d3; clear hb)
    | (first | (go_at_call 9; refine (HTR.out _ HT3.out).mono ?_; clear HTR; rintro e w4 ⟨rfl, hb⟩; have HT4 := Lib.hid (HT3.out.later hb); clear d3 f3; obtain ⟨d4, f4⟩ := HT4.out.h.facts; dsimp only [ruA] at d4; have HX4 := Lib.hid (HO.out _ HT4.out); obtain ⟨dx4, fx4⟩ := HX4.out.x.facts; dsimp only [ruA] at dx4; obtain ⟨dy4, fy4⟩ := HX4.out.t.h.facts; dsimp only [ruA] at dy4; clear hb) | (go_at_call 9; refine (HTX.out _ HX7.out.t).mono ?_; rintro e w8 ⟨rfl, hb⟩; have HX8 := Lib.hid (HX7.out.later hb); clear dx7 fx7 dy7 fy7; obtain ⟨dx8, fx8⟩ := HX8.out.x.facts; dsimp only [ruA] at dx8; obtain ⟨dy8, fy8⟩ := HX8.out.t.h.facts; dsimp only [ruA] at dy8; clear hb))
    | (go_at_call 14; first | ((with_reducible show Calls _ _ _ (w4.alloc _) _); refine (HVX.out _ HX4.out.t).mono ?_; rintro e w5 ⟨rfl, hb⟩; have HX5 := Lib.hid (HX4.out.later hb); clear dx4 fx4 dy4 fy4; obtain ⟨dx5, fx5⟩ := HX5.out.x.facts; dsimp only [ruA] at dx5; obtain ⟨dy5, fy5⟩ := HX5.out.t.h.facts; dsimp only [ruA] at dy5; clear hb) | (refine (HVX.out _ HX8.out.t).mono ?_; rintro e w9 ⟨rfl, hb⟩; have HX9 := Lib.hid (HX8.out.later hb); clear hb))
    | (go_at_call 17; first | ((with_reducible show Calls _ _ #[.string name] _ _); refine (HNN.out _).mono ?_; rintro e w6 ⟨rfl, hb⟩; have HX6 := Lib.hid (HX5.out.later hb); clear dx5 fx5 dy5 fy5; obtain ⟨dx6, fx6⟩ := HX6.out.x.facts; dsimp only [ruA] at dx6; obtain ⟨dy6, fy6⟩ := HX6.out.t.h.facts; dsimp only [ruA] at dy6; clear hb) | ((with_reducible show Calls _ _ #[.string kind] _ _); refine (HNK.out _).mono ?_; rintro e w7 ⟨rfl, hb⟩; have HX7 := Lib.hid (HX6.out.later hb); clear dx6 fx6 dy6 fy6; obtain ⟨dx7, fx7⟩ := HX7.out.x.facts; dsimp only [ruA] at dx7; obtain ⟨dy7, fy7⟩ := HX7.out.t.h.facts; dsimp only [ruA] at dy7; clear hb)))
  go_ret
  exact ⟨rfl, HX9.out.t.b⟩
set_option maxRecDepth 100000 in
set_option maxHeartbeats 8000000 in
theorem names_same (w0 : World) (ht : Tab w0) (hv : Evs w0) (r : Ru) (kv : Value) (name kind : ByteArray) (w : World) (hb0 : Below w0.heap.size w0 w) (hc : cnt r.cond ≤ 1000000) (hf : FitE r.cond) (hn : r.name.size ≤ maxLen) (hk : r.kind.size ≤ maxLen) (hnn : name.size ≤ maxLen) (hkk : kind.size ≤ maxLen) (hl : Lay w kv r.cond.kids) (hw : fewsU [r] = true) (hz0 : ¬ 300 < IntKind.i64.wrap ((name.size : Int) + (kind.size : Int))) (he : (textU r).2 = 0) (n1 : nameB name = true) (n2 : nameB kind = true) (hlg : ¬ 20000 < (ruleT ⟨name, kind, r.cond⟩).size) :
    Calls Tryz.prog 6 #[.agg (ruA r kv), .string name, .string kind] w fun e w' => e = .returned (.bool true) ∧ Below w.heap.size w w' := by
  have hsz0 := hb0.size
  have HHD := Lib.hid (fun W (hb : Below w.heap.size w W) => head_any w0 W ht hv (hb0.trans (hb.mono hsz0)))
  have HFW := Lib.hid (fun (g : Nat) W (h : RuL W (.slice (some ⟨g, 0, none⟩) 1 1) [r]) => few_any _ [r] W h (show 1 ≤ 5 by decide))
  have HTR := Lib.hid (fun W (h : TN w r kv W) => rtext_any w0 ht r kv W (hb0.trans (h.b.mono hsz0)) hc hf hn hk h.l)
  have HTX := Lib.hid (fun W (h : TN w r kv W) => rtext_any w0 ht ⟨name, kind, r.cond⟩ kv W (hb0.trans (h.b.mono hsz0)) hc hf hnn hkk h.l)
  have HVX := Lib.hid (fun W (h : TN w r kv W) => valid_any ⟨name, kind, r.cond⟩ kv W hc hf hnn hkk h.l)
  have HNN := Lib.hid (fun W => name_any name W hnn)
  have HNK := Lib.hid (fun W => name_any kind W hkk)
  have HS := Lib.hid (TN.start hl)
  have HO := Lib.hid (fun W (h : TN w r kv W) => h.other ⟨name, kind, r.cond⟩)
  rw [hw] at HFW
  obtain ⟨z, hz⟩ : ∃ z, IntKind.i64.wrap ((name.size : Int) + (kind.size : Int)) = z := ⟨_, rfl⟩
  rw [hz] at hz0
  obtain ⟨hrb, htu⟩ := textU_ok he
  rw [htu] at HTR
  obtain ⟨ha, hbb, hcc, hdd⟩ := (rule_iff r.name r.kind r.cond).1 hrb
  have hnl := name_le ha
  have hkl := name_le hbb
  have hx : ruleB ⟨name, kind, r.cond⟩ = true := by
    rw [Bool.eq_iff_iff, rule_iff, n1, n2]
    simp [hcc, hdd]
  rw [hx] at HVX
  rw [n1] at HNN
  rw [n2] at HNK
  have htx : textU ⟨name, kind, r.cond⟩ = (ruleT ⟨name, kind, r.cond⟩, 0) := by unfold textU; rw [hx]; exact if_neg hlg
  rw [htx] at HTX
  have hn3 := name_le n1
  have hk3 := name_le n2
  have h1 := ruleT_beg r
  have h2 := ruleT_beg ⟨name, kind, r.cond⟩
  dsimp only at h1 h2
  generalize texE r.cond ++ sEnd = R at *
  generalize ruleT r = sT at *
  generalize ruleT ⟨name, kind, r.cond⟩ = tT at *
  have m1 : ¬ 9223372036854775807 < 5 + r.name.size := by omega
  have m2 : ¬ 9223372036854775807 < 5 + r.name.size + 5 := by omega
  have m3 : ¬ 9223372036854775807 < 5 + r.name.size + 5 + r.kind.size := by omega
  have m4 : ¬ 9223372036854775807 < 5 + r.name.size + 5 + r.kind.size + 2 := by omega
  have q1 : ¬ 9223372036854775807 < 5 + name.size := by omega
  have q2 : ¬ 9223372036854775807 < 5 + name.size + 5 := by omega
  have q3 : ¬ 9223372036854775807 < 5 + name.size + 5 + kind.size := by omega
  have q4 : ¬ 9223372036854775807 < 5 + name.size + 5 + kind.size + 2 := by omega
  have HH1 := Lib.hid h1
  have HH2 := Lib.hid h2
  have hs1 : sT.size = 5 + r.name.size + 5 + r.kind.size + 2 + R.size := by rw [h1, size_app, begT_size]; omega
  have hs2 : tT.size = 5 + name.size + 5 + kind.size + 2 + R.size := by rw [h2, size_app, begT_size]; omega
  clear ha hbb hcc hdd hnl hkl htu hrb he htx hx hlg hn3 hk3 h1 h2
  obtain ⟨A, c, rfl, _⟩ := hl.slice
  dsimp only [ruA] at *
  clear hl hb0 ht hv hn hk hc hf hnn hkk
  go_enter Tryz.func6, Tryz.ntmps6
  go_wp2_with (first
    | (go_at_call 7; refine (HHD.out _ HS.out.b).mono ?_; rintro e w2 ⟨rfl, hb⟩; have HT2 := Lib.hid (HS.out.later hb); obtain ⟨d2, f2⟩ := HT2.out.h.facts; dsimp only [ruA] at d2; clear hb)
    | (go_at_call 8; refine (HFW.out _ _ (ru_one (Has.new w2 26 #[.string r.name, .string r.kind, .int .i64 r.cond.op, .string r.cond.name, .string r.cond.value, .int .i64 r.cond.n, .int .i64 r.cond.extra, .slice A r.cond.kids.length c]) (HT2.out.alloc (.cells #[.string r.name, .string r.kind, .int .i64 r.cond.op, .string r.cond.name, .string r.cond.value, .int .i64 r.cond.n, .int .i64 r.cond.extra, .slice A r.cond.kids.length c] 26)).l)).mono ?_; rintro e w3 ⟨rfl, hb⟩; have HT3 := Lib.hid ((HT2.out.alloc (.cells #[.string r.name, .string r.kind, .int .i64 r.cond.op, .string r.cond.name, .string r.cond.value, .int .i64 r.cond.n, .int .i64 r.cond.extra, .slice A r.cond.kids.length c] 26)).later hb); clear d2 f2; obtain ⟨d3, f3⟩ := HT3.out.h.facts; dsimp only [ruA] at d3; clear hb)
    | (first | (go_at_call 9; refine (HTR.out _ HT3.out).mono ?_; clear HTR; rintro e w4 ⟨rfl, hb⟩; have HT4 := Lib.hid (HT3.out.later hb); clear d3 f3; obtain ⟨d4, f4⟩ := HT4.out.h.facts; dsimp only [ruA] at d4; have HX4 := Lib.hid (HO.out _ HT4.out); obtain ⟨dx4, fx4⟩ := HX4.out.x.facts; dsimp only [ruA] at dx4; obtain ⟨dy4, fy4⟩ := HX4.out.t.h.facts; dsimp only [ruA] at dy4; clear hb) | (go_at_call 9; refine (HTX.out _ HX7.out.t).mono ?_; rintro e w8 ⟨rfl, hb⟩; have HX8 := Lib.hid (HX7.out.later hb); clear dx7 fx7 dy7 fy7; obtain ⟨dx8, fx8⟩ := HX8.out.x.facts; dsimp only [ruA] at dx8; obtain ⟨dy8, fy8⟩ := HX8.out.t.h.facts; dsimp only [ruA] at dy8; clear hb))
    | (go_at_call 14; ((with_reducible show Calls _ _ _ (w4.alloc _) _); refine (HVX.out _ HX4.out.t).mono ?_; rintro e w5 ⟨rfl, hb⟩; have HX5 := Lib.hid (HX4.out.later hb); clear dx4 fx4 dy4 fy4; obtain ⟨dx5, fx5⟩ := HX5.out.x.facts; dsimp only [ruA] at dx5; obtain ⟨dy5, fy5⟩ := HX5.out.t.h.facts; dsimp only [ruA] at dy5; clear hb))
    | (go_at_call 17; first | ((with_reducible show Calls _ _ #[.string name] _ _); refine (HNN.out _).mono ?_; rintro e w6 ⟨rfl, hb⟩; have HX6 := Lib.hid (HX5.out.later hb); clear dx5 fx5 dy5 fy5; obtain ⟨dx6, fx6⟩ := HX6.out.x.facts; dsimp only [ruA] at dx6; obtain ⟨dy6, fy6⟩ := HX6.out.t.h.facts; dsimp only [ruA] at dy6; clear hb) | ((with_reducible show Calls _ _ #[.string kind] _ _); refine (HNK.out _).mono ?_; rintro e w7 ⟨rfl, hb⟩; have HX7 := Lib.hid (HX6.out.later hb); clear dx6 fx6 dy6 fy6; obtain ⟨dx7, fx7⟩ := HX7.out.x.facts; dsimp only [ruA] at dx7; obtain ⟨dy7, fy7⟩ := HX7.out.t.h.facts; dsimp only [ruA] at dy7; clear hb)))
  rw [show (⟨#[114, 117, 108, 101, 32]⟩ ++ r.name ++ ⟨#[32, 102, 111, 114, 32]⟩ ++ r.kind ++ ⟨#[58, 32]⟩ : ByteArray) = begT r.name r.kind from rfl, show (⟨#[114, 117, 108, 101, 32]⟩ ++ name ++ ⟨#[32, 102, 111, 114, 32]⟩ ++ kind ++ ⟨#[58, 32]⟩ : ByteArray) = begT name kind from rfl]
  have e1 : sT.extract 0 (begT r.name r.kind).size = begT r.name r.kind := by rw [HH1.out]; exact cut_front _ _
  have e2 : tT.extract 0 (begT name kind).size = begT name kind := by rw [HH2.out]; exact cut_front _ _
  have e3 : sT.extract (begT r.name r.kind).size sT.size = R := by rw [HH1.out]; exact cut_back _ _
  have e4 : tT.extract (begT name kind).size tT.size = R := by rw [HH2.out]; exact cut_back _ _
  have l1 : (begT r.name r.kind).size ≤ sT.size := by rw [HH1.out, size_app]; omega
  have l2 : (begT name kind).size ≤ tT.size := by rw [HH2.out, size_app]; omega
  have l1i : ((begT r.name r.kind).size : Int) ≤ (sT.size : Int) := by omega
  have l2i : ((begT name kind).size : Int) ≤ (tT.size : Int) := by omega
  clear m1 m2 m3 m4 q1 q2 q3 q4 HH1 HH2 hs1 hs2
  generalize begT r.name r.kind = B1 at *
  generalize begT name kind = B2 at *
  go_quiet (fail)
  go_wp2_with fail
  go_ret
  exact ⟨rfl, below_drewN HX8.out.t.b _⟩
theorem few_cnt {r : Ru} {rs : List Ru} (h : fewsU rs = true) (hr : r ∈ rs) : cnt r.cond ≤ 80 := by
  unfold fewsU at h
  rw [Bool.and_eq_true, List.all_eq_true] at h
  have h2 := h.2 r hr
  unfold fewU fewE at h2
  simp only [Bool.and_eq_true, decide_eq_true_eq] at h2
  exact h2.2.1
theorem names_any (w0 : World) (ht : Tab w0) (hv : Evs w0) (r : Ru) (kv : Value) (name kind : ByteArray) (w : World) (hb0 : Below w0.heap.size w0 w) (hf : FitE r.cond) (hn : r.name.size ≤ maxLen) (hk : r.kind.size ≤ maxLen) (hnn : name.size ≤ maxLen) (hkk : kind.size ≤ maxLen) (hl : Lay w kv r.cond.kids) :
    Calls Tryz.prog 6 #[.agg (ruA r kv), .string name, .string kind] w fun e w' => e = .returned (.bool true) ∧ Below w.heap.size w w' := by
  cases hw : fewsU [r] with
  | false => exact names_few w0 ht hv r kv name kind w hb0 hl hw
  | true =>
    by_cases hz : 300 < IntKind.i64.wrap ((name.size : Int) + (kind.size : Int))
    · exact names_big w0 ht hv r kv name kind w hb0 hl hw hz
    have hc : cnt r.cond ≤ 1000000 := Nat.le_trans (few_cnt hw (List.mem_cons_self ..)) (by decide)
    by_cases he : (textU r).2 = 0
    · cases n1 : nameB name with
      | false => exact names_n1 w0 ht hv r kv name kind w hb0 hc hf hn hk hnn hkk hl hw hz he n1
      | true =>
        cases n2 : nameB kind with
        | false => exact names_n2 w0 ht hv r kv name kind w hb0 hc hf hn hk hnn hkk hl hw hz he n1 n2
        | true =>
          by_cases hlg : 20000 < (ruleT ⟨name, kind, r.cond⟩).size
          · exact names_long w0 ht hv r kv name kind w hb0 hc hf hn hk hnn hkk hl hw hz he n1 n2 hlg
          · exact names_same w0 ht hv r kv name kind w hb0 hc hf hn hk hnn hkk hl hw hz he n1 n2 hlg
    · exact names_none w0 ht hv r kv name kind w hb0 hc hf hn hk hnn hkk hl hw hz he
end Go.Proofs.YtppoeiofdmlpeaaGreatDoor
