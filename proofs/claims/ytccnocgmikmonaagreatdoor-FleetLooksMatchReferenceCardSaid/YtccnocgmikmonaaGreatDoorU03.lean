/- catalog.index at slots. catalog.Find, catalog.Takes; slices.Contains at strings. Maps that a call makes: what a look-up and a store do, over whatever keys can be told apart. No condition. Maps that a call makes: delete, range; strings and seats as keys. No condition. catalog.Valid. catalog.Valid: the walk. -/
import Derived.Handy
import Derived.Maps.RangeRun
import Derived.Maps.RangeWalk
import Derived.WideKeyRuns
import Derived.Test.YtccnocgmikmonaaGreatDoorU02
namespace Go.Proofs.YtccnocgmikmonaaGreatDoor
open Go Go.RowKit
theorem slotName_any (s : ByteArray) (m : Int) (A : Option Addr) (n c : Nat) (w : World) :
    Calls Tryz.prog 131 #[.agg #[.string s, .slice A n c, .int .i64 m]] w fun e w' => e = .returned (.string s) ∧ Below w.heap.size w w' := by
  go_enter Tryz.func131, Tryz.ntmps131
  go_wp2
  go_ret
  exact ⟨rfl, (Below.refl _ _).alloc (Nat.le_refl _) _⟩

set_option maxRecDepth 100000 in
set_option maxHeartbeats 1000000 in
theorem slotIs_any (s x : ByteArray) (m : Int) (A : Option Addr) (n c g1 g2 : Nat) (w : World) (h1 : Has w g1 189 #[.func (.func 131) #[] #[]]) (h2 : Has w g2 9 #[.string x]) :
    Calls Tryz.prog 150 #[.agg #[.string s, .slice A n c, .int .i64 m], .pointer (some ⟨g1, 0, none⟩), .pointer (some ⟨g2, 0, none⟩)] w fun e w' => e = .returned (.bool (s.toList == x.toList)) ∧ Below w.heap.size w w' := by
  have c1 := (h1.alloc (.cells #[.string s, .slice A n c, .int .i64 m] 95)).cell 0
  have c2 := (h2.alloc (.cells #[.string s, .slice A n c, .int .i64 m] 95)).cell 0
  have H2 := Lib.hid (h2.alloc (.cells #[.string s, .slice A n c, .int .i64 m] 95))
  have hl := h2.lt
  go_enter Tryz.func150, Tryz.ntmps150
  go_wp2_with fail
  go_region_with (go_at_call 131; refine (slotName_any s m A n c _).mono ?_; rintro e w1 ⟨rfl, hb1⟩; have hb1 : Below (w.alloc (.cells #[.string s, .slice A n c, .int .i64 m] 95)).heap.size (w.alloc (.cells #[.string s, .slice A n c, .int .i64 m] 95)) w1 := ⟨hb1.os, hb1.tape, hb1.output, hb1.size, hb1.block⟩; have c3 := (H2.out.below hb1 (by simp; omega)).cell 0)
  all_goals (try go_wp2_with fail)
  all_goals (go_ret; exact ⟨rfl, by have := ((Below.refl w.heap.size w).alloc (Nat.le_refl _) (.cells #[.string s, .slice A n c, .int .i64 m] 95)).trans (hb1.mono (by simp)); exact ⟨this.os, this.tape, this.output, this.size, this.block⟩⟩)

set_option maxRecDepth 100000 in
set_option maxHeartbeats 1000000 in
theorem slotIdx_any (v : Value) (l : List Sk) (x : ByteArray) (g1 g2 : Nat) (w : World) (hv : Rd 3 SkR w v l) (hl : l.length ≤ 100000) (h1 : Has w g1 189 #[.func (.func 131) #[] #[]]) (h2 : Has w g2 9 #[.string x]) :
    Calls Tryz.prog 149 #[v, .func (.func 150) #[] #[.pointer (some ⟨g1, 0, none⟩), .pointer (some ⟨g2, 0, none⟩)]] w fun e w' => e = .returned (.int .i64 (ixL (l.map Sk.name) x)) ∧ Below w.heap.size w w' := by
  have HV := Lib.hid hv
  have H1 := Lib.hid h1
  have H2 := Lib.hid h2
  have l1 := h1.lt
  have l2 := h2.lt
  obtain ⟨A, c, rfl, hn⟩ := hv.form
  clear hv h1 h2
  go_enter Tryz.func149, Tryz.ntmps149
  go_wp2_with fail
  go_loopw [8] (fun i wr => ∃ k : Nat, k ≤ l.length ∧ i = .int .i64 k ∧ Hid (∀ j, j < k → (l.map Sk.name).getD j eS ≠ x) ∧ Below w.heap.size w wr) (fun i _ => l.length - (intOf i).toNat)
  case atStart => exact ⟨0, Nat.zero_le _, rfl, fun j hj => absurd hj (Nat.not_lt_zero _), Below.refl _ _⟩
  case round =>
    obtain ⟨k, hk, rfl, hrel, hb⟩ := hrel
    by_cases hlt : k < l.length
    · obtain ⟨b, o, c', cs, he, _, ⟨sv, rfl, hsv⟩, _, hrg⟩ := HV.out.get hlt noSk
      injection he with e1 e2 e3
      subst e1; subst e3
      have hsv2 := hsv; obtain ⟨A2, c2, rfl, hn2, _⟩ := hsv2
      have hrg' := range_later hrg hb
      have hg : (l.map Sk.name).getD k eS = (l.getD k noSk).name := by
        rw [List.getD_eq_getElem?_getD, List.getElem?_map, List.getD_eq_getElem?_getD, List.getElem?_eq_getElem hlt]; rfl
      have hit := Lib.hid (fun he => ixL_hit (l := l.map Sk.name) (x := x) (by simpa using hlt) hrel.out he)
      have hno : Hid ((l.map Sk.name).getD k eS ≠ x → ∀ j, j < k + 1 → (l.map Sk.name).getD j eS ≠ x) := fun h j hj => by
        rcases Nat.lt_or_ge j k with h1 | h1
        · exact hrel.out j h1
        · obtain rfl : j = k := by omega
          exact h
      rw [hg] at hit hno
      have HB := Lib.hid hb
      have q1 := H1.out.below hb l1
      have q2 := H2.out.below hb l2
      clear hrg hb hsv hg
      generalize l.getD k noSk = q at *
      obtain ⟨s, ss, vb⟩ := q
      have hbe := bytes_beq s x
      cases hN : (s.toList == x.toList)
      · have HN := Lib.hid hN
        have HE := Lib.hid (show s ≠ x by rw [hN] at hbe; exact of_decide_eq_false hbe.symm)
        clear hbe
        go_wp2_with (first | ((with_reducible show wpList _ _ _ (Oper.mk (some 15) _ _ _ _ _ :: _) _ _); refine wpList_load_mid rfl 95 _ rfl b (o + k * 3) rfl _ _ hrg' Tryz.underlying95 rfl rfl ?_) | (go_at_call 150; refine (slotIs_any s x vb A2 _ c2 g1 g2 _ q1 q2).mono ?_; rintro e w1 ⟨rfl, hb1⟩; rw [HN.out]))
        go_roundw
        case rel => exact ⟨k + 1, by omega, by go_num, hno.out HE.out, HB.out.trans (hb1.mono HB.out.size)⟩
        case measure => simp [intOf]; omega
      · have HN := Lib.hid hN
        have HE := Lib.hid (show s = x by rw [hN] at hbe; exact of_decide_eq_true hbe.symm)
        clear hbe
        go_wp2_with (first | ((with_reducible show wpList _ _ _ (Oper.mk (some 15) _ _ _ _ _ :: _) _ _); refine wpList_load_mid rfl 95 _ rfl b (o + k * 3) rfl _ _ hrg' Tryz.underlying95 rfl rfl ?_) | (go_at_call 150; refine (slotIs_any s x vb A2 _ c2 g1 g2 _ q1 q2).mono ?_; rintro e w1 ⟨rfl, hb1⟩; rw [HN.out]))
        go_ret
        exact ⟨ret_int (hit.out HE.out).symm, HB.out.trans (hb1.mono HB.out.size)⟩
    · obtain rfl : k = l.length := by omega
      have hmiss := Lib.hid (ixL_miss (l := l.map Sk.name) (x := x) (fun j hj => hrel.out j (by simpa using hj)))
      go_wp2_with fail
      go_ret
      exact ⟨ret_int hmiss.out.symm, hb⟩

set_option maxRecDepth 100000 in
theorem slotIndex_any (v : Value) (l : List Sk) (x : ByteArray) (w : World) (hv : Rd 3 SkR w v l) (hl : l.length ≤ 100000) :
    Calls Tryz.prog 130 #[v, .func (.func 131) #[] #[], .string x] w fun e w' => e = .returned (.int .i64 (ixL (l.map Sk.name) x)) ∧ Below w.heap.size w w' := by
  have h1 : Has ((w.alloc (.cells #[.func (.func 131) #[] #[]] 189)).alloc (.cells #[.string x] 9)) w.heap.size 189 #[.func (.func 131) #[] #[]] := (Has.new w _ _).alloc _
  have h2 : Has ((w.alloc (.cells #[.func (.func 131) #[] #[]] 189)).alloc (.cells #[.string x] 9)) (w.heap.size + 1) 9 #[.string x] := by
    have := Has.new (w.alloc (.cells #[.func (.func 131) #[] #[]] 189)) 9 #[.string x]
    simpa using this
  have hb : Below w.heap.size w ((w.alloc (.cells #[.func (.func 131) #[] #[]] 189)).alloc (.cells #[.string x] 9)) := ((Below.refl _ _).alloc (Nat.le_refl _) _).alloc (by simp) _
  have HV := Lib.hid (hv.below SkR.stays hb)
  have H1 := Lib.hid h1
  have H2 := Lib.hid h2
  have HB := Lib.hid hb
  obtain ⟨A, c, rfl, hn⟩ := hv.form
  clear hv h1 h2 hb
  go_enter Tryz.func130, Tryz.ntmps130
  go_wp2_with (go_at_call 149; refine (slotIdx_any _ l x _ _ _ HV.out hl H1.out H2.out).mono ?_; rintro e w1 ⟨rfl, hb1⟩)
  go_ret
  exact ⟨rfl, HB.out.trans (hb1.mono (by simp; omega))⟩
end Go.Proofs.YtccnocgmikmonaaGreatDoor
namespace Go.Proofs.YtccnocgmikmonaaGreatDoor
open Go Go.RowKit
set_option maxRecDepth 100000 in
set_option maxHeartbeats 1000000 in
theorem strIdx_any (v : Value) (l : List ByteArray) (x : ByteArray) (w : World) (hv : Sl w v l.length 1 (strF l)) (hl : l.length ≤ 100000) :
    Calls Tryz.prog 67 #[v, .string x] w fun e w' => e = .returned (.int .i64 (ixL l x)) ∧ w' = w := by
  obtain ⟨A, c, rfl, hn, hc⟩ := hv
  have HC := Lib.hid hc
  clear hc
  go_enter Tryz.func67, Tryz.ntmps67
  go_wp2_with fail
  go_loop [8] (fun i => ∃ k : Nat, k ≤ l.length ∧ i = .int .i64 k ∧ Hid (∀ j, j < k → l.getD j eS ≠ x)) (fun i => l.length - (intOf i).toNat)
  case atStart => exact ⟨0, Nat.zero_le _, rfl, fun j hj => absurd hj (Nat.not_lt_zero _)⟩
  case round =>
    obtain ⟨k, hk, rfl, hrel⟩ := hrel
    by_cases hlt : k < l.length
    · rcases HC.out with h0 | ⟨b, o, rfl, hc⟩
      · omega
      have hcell : w.cell? ⟨b, o + k, none⟩ = some (.string (l.getD k eS)) := hc k (by omega)
      have hit := Lib.hid (fun he => ixL_hit (l := l) (x := x) hlt hrel.out he)
      have hno : Hid (l.getD k eS ≠ x → ∀ j, j < k + 1 → l.getD j eS ≠ x) := fun h j hj => by
        rcases Nat.lt_or_ge j k with h1 | h1
        · exact hrel.out j h1
        · obtain rfl : j = k := by omega
          exact h
      clear hc
      generalize l.getD k eS = s at *
      have hbe := bytes_beq x s
      cases hN : (x.toList == s.toList)
      · have HE := Lib.hid (show s ≠ x by rw [hN] at hbe; exact fun e => of_decide_eq_false hbe.symm e.symm)
        clear hbe
        go_wp2_with fail
        go_round
        case rel => exact ⟨k + 1, by omega, by go_num, hno.out HE.out⟩
        case measure => simp [intOf]; omega
      · have HE := Lib.hid (show s = x by rw [hN] at hbe; exact (of_decide_eq_true hbe.symm).symm)
        clear hbe
        go_wp2_with fail
        go_ret
        exact ⟨ret_int (hit.out HE.out).symm, rfl⟩
    · obtain rfl : k = l.length := by omega
      have hmiss := Lib.hid (ixL_miss (l := l) (x := x) (fun j hj => hrel.out j hj))
      go_wp2_with fail
      go_ret
      exact ⟨ret_int hmiss.out.symm, rfl⟩
def hasB (l : List ByteArray) (x : ByteArray) : Bool := l.any fun y => decide (y = x)
theorem ixL_has (l : List ByteArray) (x : ByteArray) : decide (0 ≤ ixL l x) = hasB l x := by
  rcases ixL_find id l x eS with ⟨h1, h2⟩ | ⟨k, h1, h2, h3⟩
  · rw [List.map_id] at h1
    rw [h1]
    have : hasB l x = false := by
      rw [Bool.eq_false_iff]
      intro h
      unfold hasB at h
      rw [List.any_eq_true] at h
      obtain ⟨y, hy, he⟩ := h
      exact absurd he (List.find?_eq_none.1 h2 y hy)
    rw [this]; rfl
  · rw [List.map_id] at h1
    rw [h1]
    have : hasB l x = true := by
      unfold hasB
      rw [List.any_eq_true]
      exact ⟨l.getD k eS, List.mem_of_find?_eq_some h3, by have := List.find?_some h3; simpa using this⟩
    rw [this, decide_eq_true_iff]; omega
theorem hasStr_any (v : Value) (l : List ByteArray) (x : ByteArray) (w : World) (hv : Sl w v l.length 1 (strF l)) (hl : l.length ≤ 100000) :
    Calls Tryz.prog 33 #[v, .string x] w fun e w' => e = .returned (.bool (hasB l x)) ∧ w' = w := by
  have HV := Lib.hid hv
  have hh := Lib.hid (ixL_has l x)
  clear hv
  go_enter Tryz.func33, Tryz.ntmps33
  go_wp2_with (go_at_call 67; refine (strIdx_any _ l x _ HV.out hl).mono ?_; rintro e w1 ⟨rfl, rfl⟩)
  go_ret
  exact ⟨ret_bool (by rw [← hh.out]), rfl⟩

/-- The values that a kind's, a slot's cells make. -/
def kdV (k : Kd) (v : Value) : Value := .agg #[.string k.name, .bool k.veh, v]
def skV (s : Sk) (v : Value) : Value := .agg #[.string s.name, v, .int .i64 s.norm]
set_option maxRecDepth 100000 in
set_option maxHeartbeats 1000000 in
theorem find_any (w0 : World) (v : Value) (c : List Kd) (x : ByteArray) (w : World) (hb0 : Below w0.heap.size w0 w) (hv : Cat w0 v c) (hl : c.length ≤ 100000) :
    Calls Tryz.prog 55 #[.agg #[v], .string x] w fun e w' => ∃ A m, e = .returned (.tuple #[.agg #[.string ((kfind c x).getD noKd).name, .bool ((kfind c x).getD noKd).veh, .slice A ((kfind c x).getD noKd).slots.length m], .bool (kfind c x).isSome]) ∧ Rd 3 SkR w0 (.slice A ((kfind c x).getD noKd).slots.length m) ((kfind c x).getD noKd).slots ∧ Below w.heap.size w w' := by
  obtain ⟨A, cc, rfl, hn⟩ := hv.form
  have hb : Below w.heap.size w ((w.alloc (.cells #[.slice A c.length cc] 60)).alloc (.cells #[.string ⟨#[]⟩, .bool false, .slice none 0 0] 98)) := ((Below.refl _ _).alloc (Nat.le_refl _) _).alloc (by simp) _
  have HV0 := Lib.hid hv
  have HV := Lib.hid (hv.below (hb0.trans (hb.mono hb0.size)))
  have HB := Lib.hid hb
  have HB0 := Lib.hid hb0
  have h1 : Has ((w.alloc (.cells #[.slice A c.length cc] 60)).alloc (.cells #[.string ⟨#[]⟩, .bool false, .slice none 0 0] 98)) w.heap.size 60 #[.slice A c.length cc] := (Has.new w _ _).alloc _
  have h2 : Has ((w.alloc (.cells #[.slice A c.length cc] 60)).alloc (.cells #[.string ⟨#[]⟩, .bool false, .slice none 0 0] 98)) (w.heap.size + 1) 98 #[.string ⟨#[]⟩, .bool false, .slice none 0 0] := by
    have := Has.new (w.alloc (.cells #[.slice A c.length cc] 60)) 98 #[.string ⟨#[]⟩, .bool false, .slice none 0 0]
    simpa using this
  have H1 := Lib.hid h1
  have H2 := Lib.hid h2
  clear hv hb h1 h2 hb0
  have hf := ixL_find Kd.name c x noKd
  generalize hi : ixL (c.map Kd.name) x = ix at hf
  have HI := Lib.hid hi
  clear hi
  rcases hf with ⟨rfl, hf⟩ | ⟨k, rfl, hk, hf⟩
  · have hf' : kfind c x = none := hf
    rw [hf']
    clear hf hf'
    go_enter Tryz.func55, Tryz.ntmps55
    go_wp2_with (go_at_call 93; refine (kindIndex_any _ c x _ HV.out hl).mono ?_; rintro e w1 ⟨rfl, hb1⟩; rw [HI.out]; have q1 := H1.out.below hb1 (by simp; omega); have q2 := H2.out.below hb1 (by simp); obtain ⟨p1, _⟩ := q1.facts; obtain ⟨p2, p3⟩ := q2.facts; have HB1 := Lib.hid hb1; clear hb1 q1 q2)
    refine bodyPost_ret (v := .tuple #[.agg #[.string ⟨#[]⟩, .bool false, .slice none 0 0], .bool false]) (by simp [results, Tryz.results55, go_sem, p2]) rfl ?_
    have hB := HB.out.trans (HB1.out.mono (by simp; omega))
    exact ⟨none, 0, rfl, Rd.nil _ _, by go_grown⟩
  · have hf' : kfind c x = some (c.getD k noKd) := hf
    rw [hf']
    obtain ⟨b, o, c', cs, he, _, ⟨sv, rfl, hsv⟩, _, hrg⟩ := HV0.out.get hk noKd
    injection he with e1 e2 e3
    subst e1; subst e3
    obtain ⟨A2, c2, rfl, hn2⟩ := hsv.form
    have HSV := Lib.hid hsv
    have HRG := Lib.hid hrg
    clear hf hf' hsv hrg
    show Calls _ _ _ _ fun e w' => ∃ A m, e = .returned (.tuple #[.agg #[.string (c.getD k noKd).name, .bool (c.getD k noKd).veh, .slice A (c.getD k noKd).slots.length m], .bool true]) ∧ Rd 3 SkR w0 (.slice A (c.getD k noKd).slots.length m) (c.getD k noKd).slots ∧ Below w.heap.size w w'
    generalize c.getD k noKd = q at *
    obtain ⟨s, vb, ss⟩ := q
    go_enter Tryz.func55, Tryz.ntmps55
    go_wp2_with (first | (go_at_call 93; refine (kindIndex_any _ c x _ HV.out hl).mono ?_; rintro e w1 ⟨rfl, hb1⟩; rw [HI.out]; have q1 := H1.out.below hb1 (by simp; omega); have q2 := H2.out.below hb1 (by simp); obtain ⟨p1, _⟩ := q1.facts; obtain ⟨p2, p3⟩ := q2.facts; have hrg1 := range_later HRG.out (HB0.out.trans ((HB.out.trans (hb1.mono (by simp; omega))).mono HB0.out.size)); have HB1 := Lib.hid hb1; clear hb1 q1 q2) | ((with_reducible show wpList _ _ _ (Oper.mk (some 18) _ _ _ _ _ :: _) _ _); refine wpList_load_mid rfl 98 _ rfl b (o + k * 3) rfl _ _ hrg1 Tryz.underlying98 rfl rfl ?_))
    refine bodyPost_ret (v := .tuple #[.agg #[.string s, .bool vb, .slice A2 ss.length c2], .bool true]) (by simp [results, Tryz.results55, go_sem, p2]) rfl ?_
    have hB := HB.out.trans (HB1.out.mono (by simp; omega))
    exact ⟨A2, c2, rfl, HSV.out, by go_grown⟩
theorem kfind_short {c : List Kd} (hs : ∀ k ∈ c, k.short) (x : ByteArray) : ((kfind c x).getD noKd).short := by
  cases h : kfind c x with
  | none => exact ⟨by decide, by decide, fun s hs => by cases hs⟩
  | some k => exact hs k (List.mem_of_find?_eq_some h)
theorem sfind_short {l : List Sk} (hs : ∀ s ∈ l, s.short) (x : ByteArray) : ((sfind l x).getD noSk).short := by
  cases h : sfind l x with
  | none => exact ⟨by decide, by decide, fun s hs => by cases hs⟩
  | some k => exact hs k (List.mem_of_find?_eq_some h)
set_option maxRecDepth 100000 in
set_option maxHeartbeats 1000000 in
theorem slot_any (w0 : World) (v : Value) (c : List Kd) (x y : ByteArray) (w : World) (hb0 : Below w0.heap.size w0 w) (hv : Cat w0 v c) (hl : c.length ≤ 100000) (hs : ∀ k ∈ c, k.short) :
    Calls Tryz.prog 96 #[.agg #[v], .string x, .string y] w fun e w' => ∃ A m, e = .returned (.tuple #[.agg #[.string ((sfind ((kfind c x).getD noKd).slots y).getD noSk).name, .slice A ((sfind ((kfind c x).getD noKd).slots y).getD noSk).kinds.length m, .int .i64 ((sfind ((kfind c x).getD noKd).slots y).getD noSk).norm], .bool (sfind ((kfind c x).getD noKd).slots y).isSome]) ∧ Sl w0 (.slice A ((sfind ((kfind c x).getD noKd).slots y).getD noSk).kinds.length m) ((sfind ((kfind c x).getD noKd).slots y).getD noSk).kinds.length 1 (strF ((sfind ((kfind c x).getD noKd).slots y).getD noSk).kinds) ∧ Below w.heap.size w w' := by
  obtain ⟨A, cc, rfl, hn⟩ := hv.form
  have hb : Below w.heap.size w ((w.alloc (.cells #[.slice A c.length cc] 60)).alloc (.cells #[.string ⟨#[]⟩, .slice none 0 0, .int .i64 0] 95)) := ((Below.refl _ _).alloc (Nat.le_refl _) _).alloc (by simp) _
  have h2 : Has ((w.alloc (.cells #[.slice A c.length cc] 60)).alloc (.cells #[.string ⟨#[]⟩, .slice none 0 0, .int .i64 0] 95)) (w.heap.size + 1) 95 #[.string ⟨#[]⟩, .slice none 0 0, .int .i64 0] := by
    have := Has.new (w.alloc (.cells #[.slice A c.length cc] 60)) 95 #[.string ⟨#[]⟩, .slice none 0 0, .int .i64 0]
    simpa using this
  have HB := Lib.hid hb
  have HB0 := Lib.hid hb0
  have H2 := Lib.hid h2
  have hks := kfind_short hs x
  have HF := Lib.hid (fun W (h : Below w0.heap.size w0 W) => find_any w0 _ c x W h hv hl)
  clear hv hb h2 hb0
  generalize (kfind c x).getD noKd = q at *
  generalize (kfind c x).isSome = qb at *
  obtain ⟨s, vb, ss⟩ := q
  obtain ⟨_, hsl, hss⟩ := hks
  have hsh := sfind_short hss y
  have hf := ixL_find Sk.name ss y noSk
  generalize hi : ixL (ss.map Sk.name) y = ix at hf
  have HI := Lib.hid hi
  clear hi
  rcases hf with ⟨rfl, hf⟩ | ⟨k, rfl, hk, hf⟩
  · have hf' : sfind ss y = none := hf
    simp only [hf']
    clear hf hf' hsh hss
    go_enter Tryz.func96, Tryz.ntmps96
    go_wp2_with (first | (go_at_call 55; refine (HF.out _ (HB0.out.trans (HB.out.mono HB0.out.size))).mono ?_; rintro e w1 ⟨A1, m1, rfl, hr1, hb1⟩; have q2 := H2.out.below hb1 (by simp); have HB1 := Lib.hid (HB.out.trans (hb1.mono (by simp; omega))); have R1 := Lib.hid hr1; have Q2 := Lib.hid q2; have z1 := q2.lt; clear hb1 q2 hr1) | (go_at_call 130; refine (slotIndex_any _ ss y _ (R1.out.below SkR.stays (HB0.out.trans ((HB1.out.alloc (by omega) _).mono HB0.out.size))) hsl).mono ?_; rintro e w2 ⟨rfl, hb2⟩; rw [HI.out]; have HB2 := Lib.hid ((HB1.out.alloc (by omega) _).trans (hb2.mono (by simp; omega))); obtain ⟨p2, p3⟩ := ((Q2.out.alloc _).below hb2 (by simp; omega)).facts; clear hb2))
    refine bodyPost_ret (v := .tuple #[.agg #[.string ⟨#[]⟩, .slice none 0 0, .int .i64 0], .bool false]) (by simp [results, Tryz.results96, go_sem, p2]) rfl ?_
    have hB := HB2.out
    exact ⟨none, 0, rfl, ⟨_, _, rfl, by decide, .inl rfl⟩, by go_grown⟩
  · have hf' : sfind ss y = some (ss.getD k noSk) := hf
    simp only [hf'] at hsh ⊢
    show Calls _ _ _ _ fun e w' => ∃ A m, e = .returned (.tuple #[.agg #[.string (ss.getD k noSk).name, .slice A (ss.getD k noSk).kinds.length m, .int .i64 (ss.getD k noSk).norm], .bool true]) ∧ Sl w0 (.slice A (ss.getD k noSk).kinds.length m) (ss.getD k noSk).kinds.length 1 (strF (ss.getD k noSk).kinds) ∧ Below w.heap.size w w'
    clear hf hf' hsh hss
    have HG := Lib.hid (fun (v : Value) (h : Rd 3 SkR w0 v ss) => h.get hk noSk)
    generalize ss.getD k noSk = q at *
    obtain ⟨s2, ks, nm⟩ := q
    go_enter Tryz.func96, Tryz.ntmps96
    go_wp2_with (first | (go_at_call 55; refine (HF.out _ (HB0.out.trans (HB.out.mono HB0.out.size))).mono ?_; rintro e w1 ⟨A1, m1, rfl, hr1, hb1⟩; obtain ⟨b, o, c', cs, he, _, ⟨sv, rfl, hsv⟩, _, hrg⟩ := HG.out _ hr1; injection he with e1 e2 e3; subst e1; subst e3; obtain ⟨A2, c2, hsv2, hn2, hsv3⟩ := id hsv; subst hsv2; have q2 := H2.out.below hb1 (by simp); have HB1 := Lib.hid (HB.out.trans (hb1.mono (by simp; omega))); have R1 := Lib.hid hr1; have HRG := Lib.hid hrg; have HSV := Lib.hid hsv; have Q2 := Lib.hid q2; have z1 := q2.lt; clear hb1 q2 hr1 hrg hsv hsv3) | (go_at_call 130; refine (slotIndex_any _ ss y _ (R1.out.below SkR.stays (HB0.out.trans ((HB1.out.alloc (by omega) _).mono HB0.out.size))) hsl).mono ?_; rintro e w2 ⟨rfl, hb2⟩; rw [HI.out]; have h3 := (HB1.out.alloc (by omega) _).trans (hb2.mono (by simp; omega)); have hrg2 := range_later HRG.out (HB0.out.trans (h3.mono HB0.out.size)); have HB2 := Lib.hid h3; obtain ⟨p2, p3⟩ := ((Q2.out.alloc _).below hb2 (by simp; omega)).facts; obtain ⟨p4, p5⟩ := ((Has.new w1 _ _).below hb2 (by simp)).facts; clear hb2 h3) | ((with_reducible show wpList _ _ _ (Oper.mk (some 28) _ _ _ _ _ :: _) _ _); refine wpList_load_mid rfl 95 _ rfl b (o + k * 3) rfl _ _ hrg2 Tryz.underlying95 rfl rfl ?_))
    refine bodyPost_ret (v := .tuple #[.agg #[.string s2, .slice A2 ks.length c2, .int .i64 nm], .bool true]) (by simp [results, Tryz.results96, go_sem, p2]) rfl ?_
    have hB := HB2.out
    exact ⟨A2, c2, rfl, HSV.out, by go_grown⟩
set_option maxRecDepth 100000 in
set_option maxHeartbeats 1000000 in
theorem takes_any (w0 : World) (v : Value) (c : List Kd) (x y z : ByteArray) (w : World) (hb0 : Below w0.heap.size w0 w) (hv : Cat w0 v c) (hl : c.length ≤ 100000) (hs : ∀ k ∈ c, k.short) :
    Calls Tryz.prog 58 #[.agg #[v], .string x, .string y, .string z] w fun e w' => e = .returned (.bool (takesB c x y z)) ∧ Below w.heap.size w w' := by
  have hks := kfind_short hs x
  obtain ⟨_, hsl, hss⟩ := hks
  have hsh := sfind_short hss y
  have HF := Lib.hid (fun W (h : Below w0.heap.size w0 W) => slot_any w0 _ c x y W h hv hl hs)
  obtain ⟨A, cc, rfl, hn⟩ := hv.form
  have hb : Below w.heap.size w (w.alloc (.cells #[.slice A c.length cc] 60)) := (Below.refl _ _).alloc (Nat.le_refl _) _
  have HB := Lib.hid hb
  have HB0 := Lib.hid hb0
  have ht : takesB c x y z = ((sfind ((kfind c x).getD noKd).slots y).isSome && hasB ((sfind ((kfind c x).getD noKd).slots y).getD noSk).kinds z) := by
    unfold takesB
    cases sfind ((kfind c x).getD noKd).slots y <;> rfl
  rw [ht]
  clear ht hv hb hb0 hss
  generalize (sfind ((kfind c x).getD noKd).slots y).isSome = tb at *
  generalize (sfind ((kfind c x).getD noKd).slots y).getD noSk = q at *
  obtain ⟨s2, ks, nm⟩ := q
  obtain ⟨_, hkl, _⟩ := hsh
  cases tb
  · go_enter Tryz.func58, Tryz.ntmps58
    go_wp2_with (first | (go_at_call 96; refine (HF.out _ (HB0.out.trans (HB.out.mono HB0.out.size))).mono ?_; rintro e w1 ⟨A1, m1, rfl, hr1, hb1⟩; have HB1 := Lib.hid (HB.out.trans (hb1.mono (by simp))); have R1 := Lib.hid hr1; clear hb1 hr1))
    go_ret
    have hB := HB1.out
    have hz := hB.size
    exact ⟨rfl, by go_grown⟩
  · go_enter Tryz.func58, Tryz.ntmps58
    go_wp2_with (first | (go_at_call 96; refine (HF.out _ (HB0.out.trans (HB.out.mono HB0.out.size))).mono ?_; rintro e w1 ⟨A1, m1, rfl, hr1, hb1⟩; have HB1 := Lib.hid (HB.out.trans (hb1.mono (by simp))); have R1 := Lib.hid hr1; clear hb1 hr1) | (go_at_call 33; refine (hasStr_any _ ks z _ (R1.out.below (HB0.out.trans ((HB1.out.alloc HB1.out.size _).mono HB0.out.size))) hkl).mono ?_; rintro e w2 ⟨rfl, rfl⟩))
    go_ret
    have hB := HB1.out
    have hz := hB.size
    exact ⟨rfl, by go_grown⟩
end Go.Proofs.YtccnocgmikmonaaGreatDoor
namespace Go.Proofs.YtccnocgmikmonaaGreatDoor
open Go Go.RowKit

/-- How the keys of type k stand for things of type α. -/
structure Keying (P : Program) (k : TypeId) (α : Type) [DecidableEq α] (enc : α → Value) : Prop where
  check : ∀ (w : World) (em : Bool) (a : α), (Instr.checkKey em 10000 k (enc a)).run P w = .ok () w
  find : ∀ (w : World) (a : α) (es : List MapEntry) (m : List (α × Value)), es.map (fun e => (e.key, e.val)) = m.map (fun p => (enc p.1, p.2)) →
    (Instr.findKey k (enc a) es).run P w = .ok ((m.findIdx? (fun p => decide (p.1 = a))).bind fun i => (m[i]?).map fun p => (i, p.2)) w
  inj : ∀ a b : α, enc a = enc b → a = b
  stays : ∀ (w : World) (a : α), (Instr.keyThatStays (enc a) (enc a)).run P w = .ok (enc a) w

/-- Block g is a map that holds m, in the order of its making. -/
def Mp {α : Type} (w : World) (enc : α → Value) (g : Nat) (m : List (α × Value)) : Prop :=
  ∃ es clock, w.heap[g]? = some (.map es clock) ∧ es.toList.map (fun e => (e.key, e.val)) = m.map (fun p => (enc p.1, p.2)) ∧ MapKept.Stamped es clock

/-- What is at a key. -/
def mget {α : Type} [DecidableEq α] (m : List (α × Value)) (a : α) : Option Value := (m.find? (fun p => decide (p.1 = a))).map (·.2)
/-- The map behind a store. -/
def mput {α : Type} [DecidableEq α] (m : List (α × Value)) (a : α) (v : Value) : List (α × Value) :=
  match m.findIdx? (fun p => decide (p.1 = a)) with
  | some i => m.set i (a, v)
  | none => m ++ [(a, v)]

section
variable {α : Type} {enc : α → Value} {w w' : World} {g : Nat} {m : List (α × Value)}
theorem Mp.lt (h : Mp w enc g m) : g < w.heap.size := by
  obtain ⟨es, clock, hb, _⟩ := h
  by_cases hl : g < w.heap.size
  · exact hl
  · rw [Array.getElem?_eq_none (by omega)] at hb; cases hb
theorem Mp.new (w : World) (enc : α → Value) : Mp (w.alloc (.map #[] 0)) enc w.heap.size [] := ⟨#[], 0, heap_alloc_new w _, rfl, MapKept.stamped_empty 0⟩
theorem Mp.alloc (h : Mp w enc g m) (o : Obj) : Mp (w.alloc o) enc g m := by
  have hl := h.lt
  obtain ⟨es, clock, hb, he⟩ := h
  exact ⟨es, clock, (Below.heap_alloc w o g hl).trans hb, he⟩
theorem Mp.below {B : Nat} (h : Mp w enc g m) (hb : Below B w w') (hg : g < B) : Mp w' enc g m := by
  obtain ⟨es, clock, hh, he⟩ := h
  exact ⟨es, clock, (hb.block g hg).trans hh, he⟩
theorem Mp.far (h : Mp w enc g m) (p : Addr) (hp : g ≠ p.block) (u : Value) : Mp (w.setCell p u) enc g m := by
  obtain ⟨es, clock, hh, he⟩ := h
  exact ⟨es, clock, (heap_setCell_other w p g u hp).trans hh, he⟩

end
section
variable {P : Program} {k : TypeId} {α : Type} [DecidableEq α] {enc : α → Value} {w : World} {g : Nat} {m : List (α × Value)}
theorem find_some {m : List (α × Value)} {a : α} {i : Nat} (h : m.findIdx? (fun p => decide (p.1 = a)) = some i) : ∃ v, m[i]? = some (a, v) ∧ mget m a = some v := by
  rw [List.findIdx?_eq_some_iff_getElem] at h
  obtain ⟨hi, h1, h2⟩ := h
  have e : m[i].1 = a := by simpa using h1
  refine ⟨m[i].2, by rw [List.getElem?_eq_getElem hi]; exact congrArg some (Prod.ext e rfl), ?_⟩
  have : m.find? (fun p => decide (p.1 = a)) = some m[i] := by
    rw [List.find?_eq_some_iff_getElem]
    exact ⟨h1, i, hi, rfl, fun j hj => by have := h2 j hj; simpa using this⟩
  unfold mget; rw [this]; rfl
theorem find_none {m : List (α × Value)} {a : α} (h : m.findIdx? (fun p => decide (p.1 = a)) = none) : mget m a = none := by
  rw [List.findIdx?_eq_none_iff] at h
  unfold mget
  rw [List.find?_eq_none.2 (by intro x hx; have := h x hx; simp_all)]; rfl

/-- 'm[k]', 'v, ok := m[k]'. -/
theorem run_look (K : Keying P k α enc) {T el : TypeId} (hT : P.underlying T = some (.map k el)) (h : Mp w enc g m) (a : α) {z : Value} (hz : (zeroValue el).run P w = .ok z w) (ok : Bool) :
    (Instr.lookup T (.map (some g)) (enc a) ok).run P w = .ok (if ok then .tuple #[(mget m a).getD z, .bool (mget m a).isSome] else (mget m a).getD z) w := by
  obtain ⟨es, clock, hb, he, _⟩ := h
  have hf := K.find w a es.toList m he
  cases hi : m.findIdx? (fun p => decide (p.1 = a)) with
  | none =>
    rw [hi] at hf
    simp only [Instr.lookup, Sem.run_bind, run_underlying hT, Result.andThen_ok, MapKept.run_getObj_map hb, K.check, hf, Option.bind_none, hz, Sem.run_pure]
    rw [find_none hi]; cases ok <;> simp
  | some i =>
    obtain ⟨v, hv, hg⟩ := find_some hi
    rw [hi] at hf
    simp only [Instr.lookup, Sem.run_bind, run_underlying hT, Result.andThen_ok, MapKept.run_getObj_map hb, K.check, hf, Option.bind_some, hv, Option.map_some, Sem.run_pure]
    rw [hg]; cases ok <;> simp

/-- 'm[k] = v'. -/
theorem run_put (K : Keying P k α enc) {T el : TypeId} (hT : P.underlying T = some (.map k el)) (h : Mp w enc g m) (a : α) (v : Value) :
    ∃ w', (Instr.mapUpdate T (.map (some g)) (enc a) v).run P w = .ok () w' ∧ Mp w' enc g (mput m a v) ∧ w.grownBy w' (some g) ∧ w'.heap.size = w.heap.size := by
  obtain ⟨es, clock, hb, he, hst⟩ := h
  have hf := K.find w a es.toList m he
  have hlen : es.size = m.length := by have := congrArg List.length he; simpa using this
  have hlt : g < w.heap.size := Mp.lt (enc := enc) ⟨es, clock, hb, he, hst⟩
  have grow : ∀ o : Obj, w.grownBy { w with heap := w.heap.setIfInBounds g o } (some g) := fun o =>
    ⟨rfl, rfl, rfl, by simp, fun j _ hj => by
      have : g ≠ j := fun e => hj (by rw [e])
      simp [this]⟩
  cases hi : m.findIdx? (fun p => decide (p.1 = a)) with
  | none =>
    rw [hi] at hf
    refine ⟨{ w with heap := w.heap.setIfInBounds g (.map (es.push { key := enc a, val := v, born := clock }) (clock + 1)) }, ?_, ⟨es.push { key := enc a, val := v, born := clock }, clock + 1, by simp [hlt], ?_, MapKept.stamped_push hst ?_⟩, grow _, by simp⟩
    · simp only [Instr.mapUpdate, Sem.run_bind, run_underlying hT, Result.andThen_ok, MapKept.run_getObj_map hb, K.check, hf, Option.bind_none, MapKept.run_setObj_map _ hb]
    · unfold mput; rw [hi]
      simp [he]
    · intro x hx hk
      rw [List.findIdx?_eq_none_iff] at hi
      have hm : (x.key, x.val) ∈ m.map (fun p => (enc p.1, p.2)) := by rw [← he]; exact List.mem_map.2 ⟨x, hx, rfl⟩
      obtain ⟨q, hq, hqe⟩ := List.mem_map.1 hm
      have h1 := hi q hq
      have h2 : enc q.1 = enc a := by rw [← hk]; exact congrArg Prod.fst hqe
      rw [decide_eq_false_iff_not] at h1
      exact h1 (K.inj _ _ h2)
  | some i =>
    obtain ⟨u, hv, hg⟩ := find_some hi
    rw [hi] at hf
    have him : i < m.length := by
      rcases Nat.lt_or_ge i m.length with h1 | h1
      · exact h1
      · rw [List.getElem?_eq_none h1] at hv; cases hv
    have hies : i < es.size := by omega
    have hkey : (es[i]?).map (·.key) = some (enc a) := by
      have h1 : (es.toList.map (fun e => (e.key, e.val)))[i]? = some (enc a, u) := by rw [he, List.getElem?_map, hv]; rfl
      rw [List.getElem?_map, Array.getElem?_toList, Array.getElem?_eq_getElem hies] at h1
      rw [Array.getElem?_eq_getElem hies]
      simp only [Option.map_some, Option.some.injEq, Prod.mk.injEq] at h1 ⊢
      exact h1.1
    refine ⟨{ w with heap := w.heap.setIfInBounds g (.map (es.modify i fun e => { e with key := enc a, val := v }) clock) }, ?_, ⟨es.modify i fun e => { e with key := enc a, val := v }, clock, by simp [hlt], ?_, MapKept.stamped_modify hst i _ (fun e _ => rfl) (fun e _ h => by rw [h] at hkey; exact (Option.some.inj hkey).symm)⟩, grow _, by simp⟩
    · simp only [Instr.mapUpdate, Sem.run_bind, run_underlying hT, Result.andThen_ok, MapKept.run_getObj_map hb, K.check, hf, Option.bind_some, hv, Option.map_some, hkey, Option.getD_some, K.stays, MapKept.run_setObj_map _ hb]
    · unfold mput; rw [hi]
      apply List.ext_getElem?
      intro j
      have h1 : (es.toList.map (fun e => (e.key, e.val)))[j]? = (m.map (fun p => (enc p.1, p.2)))[j]? := by rw [he]
      rw [List.getElem?_map, Array.getElem?_toList] at h1
      rw [List.getElem?_map, Array.getElem?_toList, Array.getElem?_modify, List.getElem?_map, List.getElem?_set]
      by_cases e : i = j
      · subst e
        simp [hies, him]
      · simp only [e, if_false]
        rw [h1, List.getElem?_map]
end
/-- How a list of entries is gone through, key by key. -/
theorem findAsking_run {P : Program} {k : TypeId} {α : Type} [DecidableEq α] {enc : α → Value} (heq : ∀ (w : World) (a b : α), (Op.equal k (enc a) (enc b)).run P w = .ok (decide (a = b)) w) (w : World) (a : α) :
    ∀ (es : List MapEntry) (m : List (α × Value)) (n : Nat), es.map (fun e => (e.key, e.val)) = m.map (fun p => (enc p.1, p.2)) →
    (Instr.findAsking k (enc a) es n).run P w = .ok ((m.findIdx? (fun p => decide (p.1 = a))).bind fun i => (m[i]?).map fun p => (n + i, p.2)) w
  | [], [], n, _ => by simp [Instr.findAsking]
  | [], _ :: _, _, h => by cases h
  | _ :: _, [], _, h => by cases h
  | e :: es, p :: m, n, h => by
    simp only [List.map_cons, List.cons.injEq, Prod.mk.injEq] at h
    obtain ⟨⟨h1, h2⟩, h3⟩ := h
    have hq : (Op.equal k (enc a) e.key).run P w = .ok (decide (a = p.1)) w := by rw [h1]; exact heq w a p.1
    have ih := findAsking_run heq w a es m (n + 1) h3
    by_cases ha : a = p.1
    · simp only [Instr.findAsking, Sem.run_bind, hq, Result.andThen_ok, decide_eq_true ha, decide_eq_true ha.symm, if_true, Sem.run_pure, List.findIdx?_cons]
      simp [h2]
    · have ha' : ¬ p.1 = a := fun e => ha e.symm
      simp only [Instr.findAsking, Sem.run_bind, hq, Result.andThen_ok, ha, decide_false, Bool.false_eq_true, if_false, ih, List.findIdx?_cons, ha']
      congr 1
      cases m.findIdx? (fun p => decide (p.1 = a)) with
      | none => rfl
      | some i => simp; congr 1; funext x; simp; omega
end Go.Proofs.YtccnocgmikmonaaGreatDoor
namespace Go.Proofs.YtccnocgmikmonaaGreatDoor
open Go Go.RowKit
/-- The map behind a delete. -/
def mdel {α : Type} [DecidableEq α] (m : List (α × Value)) (a : α) : List (α × Value) :=
  match m.findIdx? (fun p => decide (p.1 = a)) with
  | some i => m.eraseIdx i
  | none => m
section
variable {P : Program} {k : TypeId} {α : Type} {enc : α → Value} {w : World} {g : Nat} {m : List (α × Value)}
theorem Mp.grown {w' : World} {row : Option Nat} (h : Mp w enc g m) (hb : w.grownBy w' row) (hg : some g ≠ row) : Mp w' enc g m := by
  have hl := h.lt
  obtain ⟨es, clock, hh, he⟩ := h
  exact ⟨es, clock, (hb.block g hl hg).trans hh, he⟩
theorem erase_map {β γ : Type} (f : β → γ) : ∀ (l : List β) (i : Nat), (l.eraseIdx i).map f = (l.map f).eraseIdx i
  | [], _ => rfl
  | _ :: _, 0 => rfl
  | x :: l, i + 1 => by simp [erase_map f l i]
/-- 'delete(m, k)'. -/
theorem run_del [DecidableEq α] (K : Keying P k α enc) {T T2 el ty : TypeId} (hT : P.underlying T = some (.map k el)) (h : Mp w enc g m) (a : α) :
    ∃ w', (Builtin.delete_ #[T, T2] ty #[.map (some g), enc a]).run P w = .ok (.tuple #[]) w' ∧ Mp w' enc g (mdel m a) ∧ w.grownBy w' (some g) ∧ w'.heap.size = w.heap.size := by
  obtain ⟨es, clock, hb, he, hst⟩ := h
  have hf := K.find w a es.toList m he
  have hlt : g < w.heap.size := Mp.lt (enc := enc) ⟨es, clock, hb, he, hst⟩
  have grow : ∀ o : Obj, w.grownBy { w with heap := w.heap.setIfInBounds g o } (some g) := fun o =>
    ⟨rfl, rfl, rfl, by simp, fun j _ hj => by
      have : g ≠ j := fun e => hj (by rw [e])
      simp [this]⟩
  cases hi : m.findIdx? (fun p => decide (p.1 = a)) with
  | none =>
    rw [hi] at hf
    refine ⟨{ w with heap := w.heap.setIfInBounds g (.map es clock) }, ?_, ⟨es, clock, by simp [hlt], ?_, hst⟩, grow _, by simp⟩
    · simp only [Builtin.delete_, List.getElem?_toArray, List.getElem?_cons_zero, List.getElem?_cons_succ, Sem.run_bind, run_underlying hT, Result.andThen_ok, MapKept.run_getObj_map hb, K.check, hf, Option.bind_none, MapKept.run_setObj_map _ hb, Sem.run_pure]
    · unfold mdel; rw [hi]; exact he
  | some i =>
    obtain ⟨u, hv, hg⟩ := find_some hi
    rw [hi] at hf
    have him : i < m.length := by
      rcases Nat.lt_or_ge i m.length with h1 | h1
      · exact h1
      · rw [List.getElem?_eq_none h1] at hv; cases hv
    have hlen : es.size = m.length := by have := congrArg List.length he; simpa using this
    refine ⟨{ w with heap := w.heap.setIfInBounds g (.map (es.eraseIdxIfInBounds i) clock) }, ?_, ⟨es.eraseIdxIfInBounds i, clock, by simp [hlt], ?_, MapKept.stamped_erase hst i⟩, grow _, by simp⟩
    · simp only [Builtin.delete_, List.getElem?_toArray, List.getElem?_cons_zero, List.getElem?_cons_succ, Sem.run_bind, run_underlying hT, Result.andThen_ok, MapKept.run_getObj_map hb, K.check, hf, Option.bind_some, hv, Option.map_some, MapKept.run_setObj_map _ hb, Sem.run_pure]
    · unfold mdel; rw [hi]
      have : (es.eraseIdxIfInBounds i).toList = es.toList.eraseIdx i := by
        unfold Array.eraseIdxIfInBounds
        rw [dif_pos (by omega)]; simp
      rw [this]
      show (es.toList.eraseIdx i).map (fun e => (e.key, e.val)) = (m.eraseIdx i).map (fun p => (enc p.1, p.2))
      rw [erase_map, erase_map, he]

/-- Block r goes over the map in block g, which holds m; todo is still to come. -/
def Rg {α : Type} (w : World) (enc : α → Value) (g r : Nat) (m todo : List (α × Value)) : Prop :=
  ∃ es clock since seen c0, w.heap[g]? = some (.map es clock) ∧ es.toList.map (fun e => (e.key, e.val)) = m.map (fun p => (enc p.1, p.2)) ∧ MapKept.Stamped es clock ∧
    w.heap[r]? = some (.mapIter (some g) since seen c0) ∧ (∀ x ∈ es.toList, x.born < since) ∧ since ≤ c0 ∧ c0 ≤ clock ∧ (leftOf es seen).toList.map (fun e => (e.key, e.val)) = todo.map (fun p => (enc p.1, p.2))
/-- How many are still to come. -/
def lft (w : World) (g r : Nat) : Nat := match w.heap[g]?, w.heap[r]? with
  | some (.map es _), some (.mapIter _ _ seen _) => (leftOf es seen).size
  | _, _ => 0
theorem Rg.left {r : Nat} {todo : List (α × Value)} (h : Rg w enc g r m todo) : lft w g r = todo.length := by
  obtain ⟨es, clock, since, seen, c0, h1, h2, h3, h4, h5, h6, h7, h8⟩ := h
  unfold lft; rw [h1, h4]
  have := congrArg List.length h8
  simpa using this
theorem Rg.mp {r : Nat} {todo : List (α × Value)} (h : Rg w enc g r m todo) : Mp w enc g m := by
  obtain ⟨es, clock, since, seen, c0, h1, h2, h3, _⟩ := h
  exact ⟨es, clock, h1, h2, h3⟩
theorem Rg.ltr {r : Nat} {todo : List (α × Value)} (h : Rg w enc g r m todo) : r < w.heap.size := by
  obtain ⟨es, clock, since, seen, c0, h1, h2, h3, hb, _⟩ := h
  by_cases hl : r < w.heap.size
  · exact hl
  · rw [Array.getElem?_eq_none (by omega)] at hb; cases hb
theorem Rg.grown {w' : World} {r : Nat} {todo : List (α × Value)} {row : Option Nat} (h : Rg w enc g r m todo) (hb : w.grownBy w' row) (hg : some g ≠ row) (hr : some r ≠ row) : Rg w' enc g r m todo := by
  have l1 := h.mp.lt
  have l2 := h.ltr
  obtain ⟨es, clock, since, seen, c0, h1, h2, h3, h4, h5⟩ := h
  exact ⟨es, clock, since, seen, c0, (hb.block g l1 hg).trans h1, h2, h3, (hb.block r l2 hr).trans h4, h5⟩
theorem Rg.below {w' : World} {r B : Nat} {todo : List (α × Value)} (h : Rg w enc g r m todo) (hb : Below B w w') (hg : g < B) (hr : r < B) : Rg w' enc g r m todo := by
  obtain ⟨es, clock, since, seen, c0, h1, h2, h3, h4, h5⟩ := h
  exact ⟨es, clock, since, seen, c0, (hb.block g hg).trans h1, h2, h3, (hb.block r hr).trans h4, h5⟩
/-- 'range m' begins. -/
theorem run_rg {T el : TypeId} (hT : P.underlying T = some (.map k el)) (h : Mp w enc g m) :
    ∃ o, (Instr.range T (.map (some g))).run P w = .ok (.pointer (some ⟨w.heap.size, 0, none⟩)) (w.alloc o) ∧ Rg (w.alloc o) enc g w.heap.size m m := by
  have hl := h.lt
  obtain ⟨es, clock, hb, he, hst⟩ := h
  refine ⟨_, run_range_map w T k el g es clock hT hb, es, clock, clock, #[], clock, (heap_alloc_old w _ hl).trans hb, he, hst, heap_alloc_new w _, hst.1, Nat.le_refl _, Nat.le_refl _, ?_⟩
  have : leftOf es #[] = es := by unfold leftOf; simp
  rw [this]; exact he
theorem left_push (es : List MapEntry) (seen : Array Nat) (e : MapEntry) (hn : (es.map (·.born)).Nodup) (l1 l2 : List MapEntry) (h : es.filter (fun x => !seen.contains x.born) = l1 ++ e :: l2) :
    es.filter (fun x => !(seen.push e.born).contains x.born) = l1 ++ l2 := by
  have hsub : (es.filter (fun x => !seen.contains x.born)).map (·.born) |>.Nodup := hn.sublist (List.filter_sublist.map _)
  rw [h, List.map_append, List.map_cons, List.nodup_append] at hsub
  obtain ⟨_, h2, h3⟩ := hsub
  rw [List.nodup_cons] at h2
  have e1 : es.filter (fun x => !(seen.push e.born).contains x.born) = (es.filter (fun x => !seen.contains x.born)).filter (fun x => !(x.born == e.born)) := by
    rw [List.filter_filter]
    refine List.filter_congr fun x _ => ?_
    rw [contains_push]
    cases seen.contains x.born <;> cases (x.born == e.born) <;> rfl
  rw [e1, h, List.filter_append, List.filter_cons]
  have a1 : l1.filter (fun x => !(x.born == e.born)) = l1 := List.filter_eq_self.2 fun x hx => by
    have := h3 x.born (List.mem_map.2 ⟨x, hx, rfl⟩) e.born (by simp)
    simpa using this
  have a2 : l2.filter (fun x => !(x.born == e.born)) = l2 := List.filter_eq_self.2 fun x hx => by
    have : x.born ≠ e.born := fun he => h2.1 (he ▸ List.mem_map.2 ⟨x, hx, rfl⟩)
    simpa using this
  rw [a1, a2]; simp
/-- 'next': nothing is left, or one that is left comes. -/
theorem run_nx {r : Nat} {todo : List (α × Value)} (h : Rg w enc g r m todo) :
    (todo = [] ∧ ∀ ty, (Instr.next (.pointer (some ⟨r, 0, none⟩)) false ty).run P w = .ok (.tuple #[.bool false]) w) ∨
    ∃ a v t1 t2 w', todo = t1 ++ (a, v) :: t2 ∧ (∀ ty, (Instr.next (.pointer (some ⟨r, 0, none⟩)) false ty).run P w = .ok (.tuple #[.bool true, enc a, v]) w') ∧
      (Instr.entry (.pointer (some ⟨r, 0, none⟩))).run P w' = .ok (.tuple #[enc a, v]) w' ∧ Rg w' enc g r m (t1 ++ t2) ∧ w.grownBy w' (some r) ∧ w'.heap.size = w.heap.size := by
  have lg := h.mp.lt
  have lr := h.ltr
  obtain ⟨es, clock, since, seen, c0, h1, h2, h3, h4, h5, h6, h7, h8⟩ := h
  have hgr : g ≠ r := by rintro rfl; rw [h1] at h4; cases h4
  rcases run_next_at (P := P) w 0 r g since c0 seen es clock h4 h1 h5 h6 with ⟨h0, hrun⟩ | ⟨e, he, w1, hw1, hrun⟩
  · left
    have : (leftOf es seen).toList = [] := List.eq_nil_of_length_eq_zero (by simpa using h0)
    rw [this] at h8
    refine ⟨?_, fun _ => hrun⟩
    have := congrArg List.length h8
    exact List.eq_nil_of_length_eq_zero (by simpa using this.symm)
  · right
    obtain ⟨l1, l2, hl⟩ := List.append_of_mem he
    rw [hl, List.map_append, List.map_cons] at h8
    obtain ⟨t1, t3, ht, ht1, ht3⟩ := List.map_eq_append_iff.1 h8.symm
    obtain ⟨p, t2, rfl, hp, ht2⟩ := List.map_eq_cons_iff.1 ht3
    obtain ⟨a, v⟩ := p
    simp only [Prod.mk.injEq] at hp
    have hs : w1.heap = w.heap := by rcases hw1 with rfl | rfl <;> rfl
    have hh : ∀ o : Obj, (ChangeMaps.setBlock w1 r o).heap[r]? = some o := fun o => by simp [ChangeMaps.setBlock, hs, lr]
    have ho : ∀ (o : Obj) j, j ≠ r → (ChangeMaps.setBlock w1 r o).heap[j]? = w.heap[j]? := fun o j hj => by
      have : r ≠ j := fun e => hj e.symm
      simp [ChangeMaps.setBlock, hs, this]
    have hz : ∀ o : Obj, (ChangeMaps.setBlock w1 r o).heap.size = w.heap.size := fun o => by simp [ChangeMaps.setBlock, hs]
    refine ⟨a, v, t1, t2, ChangeMaps.setBlock w1 r (.mapIter (some g) since (seen.push e.born) clock), ht, fun _ => ?_, ?_, ?_, ?_, hz _⟩
    · rw [hp.1, hp.2]; exact hrun
    · rw [hp.1, hp.2]
      exact run_entry_at (P := P) _ r g since seen es clock e (hh _) ((ho _ g hgr).trans h1) (mem_left he).1 h3.2.1
    · refine ⟨es, clock, since, seen.push e.born, clock, (ho _ g hgr).trans h1, h2, h3, hh _, h5, Nat.le_trans h6 h7, Nat.le_refl _, ?_⟩
      have : (leftOf es (seen.push e.born)).toList = l1 ++ l2 := by
        have := left_push es.toList seen e h3.2.1 l1 l2 (by rw [← hl]; unfold leftOf; simp)
        rw [← this]; unfold leftOf; simp
      rw [this, List.map_append, List.map_append, ht1, ht2]
    · refine ⟨?_, ?_, ?_, by rw [hz]; exact Nat.le_refl _, fun j hj hjr => ho _ j fun e => hjr (by rw [e])⟩
      all_goals (rcases hw1 with rfl | rfl <;> rfl)
end
theorem str_find {P : Program} {k : TypeId} (hk : P.underlying k = some .string) (w : World) (a : ByteArray) :
    ∀ (es : List MapEntry) (m : List (ByteArray × Value)) (n : Nat), es.map (fun e => (e.key, e.val)) = m.map (fun p => (Value.string p.1, p.2)) →
    Instr.findNow .string (.string a) es n = some ((m.findIdx? (fun p => decide (p.1 = a))).bind fun i => (m[i]?).map fun p => (n + i, p.2))
  | [], [], n, _ => by simp [Instr.findNow]
  | [], _ :: _, _, h => by cases h
  | _ :: _, [], _, h => by cases h
  | e :: es, p :: m, n, h => by
    simp only [List.map_cons, List.cons.injEq, Prod.mk.injEq] at h
    obtain ⟨⟨h1, h2⟩, h3⟩ := h
    have ih := str_find hk w a es m (n + 1) h3
    have hs : Instr.sameNow .string (.string a) e.key = some (decide (a = p.1)) := by
      rw [h1]; simp only [Instr.sameNow]; congr 1
      rw [Bool.eq_iff_iff, MapKept.bytes_beq, decide_eq_true_iff]
    by_cases ha : a = p.1
    · rw [decide_eq_true ha] at hs
      simp only [Instr.findNow, hs, List.findIdx?_cons, decide_eq_true ha.symm, if_true]
      simp [h2]
    · have ha' : ¬ p.1 = a := fun e => ha e.symm
      rw [decide_eq_false ha] at hs
      simp only [Instr.findNow, hs, ih, List.findIdx?_cons, ha', decide_false, Bool.false_eq_true, if_false]
      congr 1
      cases m.findIdx? (fun p => decide (p.1 = a)) with
      | none => rfl
      | some i => simp; congr 1; funext x; simp; omega
set_option maxRecDepth 100000 in
theorem str_keying : Keying Tryz.prog 9 ByteArray Value.string where
  check w em a := MapKept.run_checkKey Tryz.underlying9 (show MapKept.IsKey .string (.string a) from trivial) em 9999
  stays w a := by
    have h : Instr.sameBits 10000 (.string a) (.string a) = true := by simp [Instr.sameBits, beq_toListBytes]
    simp [Instr.keyThatStays, h]
  inj a b h := by injection h
  find w a es m h := by
    simp [Instr.findKey, run_underlying Tryz.underlying9, str_find Tryz.underlying9 w a es m 0 h]
/-- Seats as keys. -/
def seatEnc (s : ByteArray × ByteArray) : Value := .agg #[.string s.1, .string s.2]
set_option maxRecDepth 100000 in
theorem seat_equal (w : World) (e f : ByteArray × ByteArray) : (Op.equal 117 (seatEnc e) (seatEnc f)).run Tryz.prog w = .ok (decide (e = f)) w := by
  obtain ⟨a, b⟩ := e
  obtain ⟨c, d⟩ := f
  have h : (binOp .eql 117 (.agg #[.string a, .string b]) (.agg #[.string c, .string d])).run Tryz.prog w = .ok (.bool (decide ((a, b) = (c, d)))) w := by
    go_simp
    simp only [ite_dec]
    refine congrArg (fun b => Result.ok (Value.bool b) w) ?_
    rw [Bool.eq_iff_iff]
    simp [bytes_inj]
  simp only [binOp, Sem.run_bind] at h
  show (Op.equal 117 (.agg #[.string a, .string b]) (.agg #[.string c, .string d])).run Tryz.prog w = _
  generalize (Op.equal 117 _ _).run Tryz.prog w = r at h ⊢
  cases r with
  | ok x w1 =>
    simp only [Result.andThen_ok, Sem.run_pure, Result.ok.injEq, Value.bool.injEq] at h
    rw [h.1, h.2]
  | halt x w1 => simp [Result.andThen] at h
set_option maxRecDepth 100000 in
theorem seat_check (w : World) (em : Bool) (e : ByteArray × ByteArray) : (Instr.checkKey em 10000 117 (seatEnc e)).run Tryz.prog w = .ok () w := by
  obtain ⟨a, b⟩ := e
  kernel_rfl
theorem seat_keying : Keying Tryz.prog 117 (ByteArray × ByteArray) seatEnc where
  check := seat_check
  inj a b h := by
    rcases a with ⟨a1, a2⟩
    rcases b with ⟨b1, b2⟩
    simpa [seatEnc] using h
  stays w e := by
    have h : Instr.sameBits 10000 (seatEnc e) (seatEnc e) = true := by simp [seatEnc, Instr.sameBits, beq_toListBytes]
    simp [Instr.keyThatStays, h]
  find w a es m h := by
    have hf := findAsking_run seat_equal w a es m 0 h
    have : (Instr.findKey 117 (seatEnc a) es).run Tryz.prog w = (Instr.findAsking 117 (seatEnc a) es 0).run Tryz.prog w :=
      run_findKey_eq _ (by rw [Tryz.underlying117]) _ _
    rw [this, hf]
    simp
end Go.Proofs.YtccnocgmikmonaaGreatDoor
namespace Go.Proofs.YtccnocgmikmonaaGreatDoor
open Go Go.RowKit
theorem zero_boolV (w : World) : (zeroValue 4).run Tryz.prog w = .ok (.bool false) w := by kernel_rfl
theorem getD_mem {α : Type} (l : List α) (k : Nat) (d : α) (h : k < l.length) : l.getD k d ∈ l := by
  rw [List.getD_eq_getElem?_getD, List.getElem?_eq_getElem h]; exact List.getElem_mem h
theorem take_getD {α : Type} (l : List α) (k : Nat) (d : α) (h : k < l.length) : l.take (k + 1) = l.take k ++ [l.getD k d] := by
  rw [List.take_add_one, List.getElem?_eq_getElem h, List.getD_eq_getElem?_getD, List.getElem?_eq_getElem h]; rfl
/-- Keys that were seen, each with true. -/
def seenK {κ : Type} (l : List κ) : List (κ × Value) := l.map fun e => (e, .bool true)
def inK {κ : Type} [DecidableEq κ] (l : List κ) (e : κ) : Bool := l.any fun x => decide (x = e)
theorem inK_iff {κ : Type} [DecidableEq κ] (l : List κ) (e : κ) : inK l e = true ↔ e ∈ l := by
  unfold inK; rw [List.any_eq_true]
  exact ⟨fun ⟨x, h1, h2⟩ => by rw [← of_decide_eq_true h2]; exact h1, fun h => ⟨e, h, decide_eq_true rfl⟩⟩
theorem inK_no {κ : Type} [DecidableEq κ] {l : List κ} {e : κ} (h : inK l e = false) : ¬ e ∈ l := fun hm => by rw [(inK_iff l e).2 hm] at h; cases h
theorem seenK_get {κ : Type} [DecidableEq κ] (l : List κ) (e : κ) : (mget (seenK l) e).getD (.bool false) = .bool (inK l e) := by
  unfold mget seenK inK
  induction l with
  | nil => rfl
  | cons a l ih =>
    by_cases h : a = e
    · subst h; simp
    · simp only [List.map_cons, List.find?_cons, h, decide_false, List.any_cons, Bool.false_or]
      exact ih
theorem seenK_put {κ : Type} [DecidableEq κ] (l : List κ) (e : κ) (h : ¬ e ∈ l) : mput (seenK l) e (.bool true) = seenK (l ++ [e]) := by
  unfold mput
  have : (seenK l).findIdx? (fun p => decide (p.1 = e)) = none := by
    rw [List.findIdx?_eq_none_iff]
    intro x hx
    simp only [seenK, List.mem_map] at hx
    obtain ⟨a, ha, rfl⟩ := hx
    simp only [decide_eq_false_iff_not]
    rintro rfl; exact h ha
  rw [this]
  simp [seenK]
/-- The kinds so far, and whether they are no vehicles. -/
def kindsM (l : List Kd) : List (ByteArray × Value) := l.map fun k => (k.name, .bool (!k.veh))
theorem kindsM_has (l : List Kd) (x : ByteArray) : (mget (kindsM l) x).isSome = l.any fun q => decide (q.name = x) := by
  unfold mget kindsM
  induction l with
  | nil => rfl
  | cons a l ih =>
    by_cases h : a.name = x
    · simp [h]
    · simp only [List.map_cons, List.find?_cons, h, decide_false, List.any_cons, Bool.false_or]
      exact ih
theorem kindsM_get (l : List Kd) (hn : (l.map Kd.name).Nodup) (x : ByteArray) : (mget (kindsM l) x).getD (.bool false) = .bool (l.any fun k => decide (k.name = x) && !k.veh) := by
  unfold mget kindsM
  induction l with
  | nil => rfl
  | cons a l ih =>
    rw [List.map_cons, List.nodup_cons] at hn
    by_cases h : a.name = x
    · have h2 : (l.any fun k => decide (k.name = x) && !k.veh) = false := by
        rw [List.any_eq_false]
        intro k hk
        have : k.name ≠ x := fun e => hn.1 (by rw [h, ← e]; exact List.mem_map.2 ⟨k, hk, rfl⟩)
        simp [this]
      simp [h, h2]
    · simp only [List.map_cons, List.find?_cons, h, decide_false, List.any_cons, Bool.false_or, Bool.false_and]
      exact ih hn.2
theorem kindsM_put (l : List Kd) (k : Kd) (h : (l.any fun q => decide (q.name = k.name)) = false) : mput (kindsM l) k.name (.bool (!k.veh)) = kindsM (l ++ [k]) := by
  unfold mput
  have : (kindsM l).findIdx? (fun p => decide (p.1 = k.name)) = none := by
    rw [List.findIdx?_eq_none_iff]
    intro x hx
    simp only [kindsM, List.mem_map] at hx
    obtain ⟨a, ha, rfl⟩ := hx
    have := List.any_eq_false.1 h a ha
    simpa using this
  rw [this]
  simp [kindsM]
/-- The third loop: the kinds of a slot. -/
def kindsOk (pre : List Kd) (l : List ByteArray) (n : Nat) : Prop := (l.take n).Nodup ∧ ∀ x ∈ l.take n, (pre.any fun k => decide (k.name = x) && !k.veh) = true
theorem slotOk_bad {pre : List Kd} {s : Sk} {n : Nat} (h : n < s.kinds.length) (hb : s.kinds.getD n eS ∈ s.kinds.take n ∨ (pre.any fun k => decide (k.name = s.kinds.getD n eS) && !k.veh) = false) : slotOk pre s = false := by
  unfold slotOk
  rcases hb with hb | hb
  · have : ¬ s.kinds.Nodup := fun hn => by
      have h2 : (s.kinds.take (n + 1)).Nodup := hn.sublist (List.take_sublist _ _)
      rw [take_getD s.kinds n eS h, List.nodup_append] at h2
      exact h2.2.2 _ hb _ (by simp) rfl
    simp [this]
  · have : (s.kinds.all fun x => pre.any fun k => decide (k.name = x) && !k.veh) = false := by
      rw [List.all_eq_false]
      exact ⟨_, getD_mem s.kinds n eS h, by rw [hb]; decide⟩
    simp only [this, Bool.and_false]
theorem kindsOk_step {pre : List Kd} {l : List ByteArray} {n : Nat} (h : kindsOk pre l n) (hn : n < l.length) (h1 : ¬ l.getD n eS ∈ l.take n) (h2 : (pre.any fun k => decide (k.name = l.getD n eS) && !k.veh) = true) : kindsOk pre l (n + 1) := by
  unfold kindsOk
  rw [take_getD l n eS hn]
  refine ⟨?_, fun x hx => ?_⟩
  · rw [List.nodup_append]
    exact ⟨h.1, by simp, fun a ha b hb => by simp at hb; subst hb; intro e; subst e; exact h1 ha⟩
  · rw [List.mem_append, List.mem_singleton] at hx
    rcases hx with hx | rfl
    · exact h.2 x hx
    · exact h2
theorem slotOk_good {pre : List Kd} {s : Sk} (h0 : nameB s.name = true) (h1 : 1 ≤ s.norm) (h2 : s.norm ≤ s.kinds.length) (h : kindsOk pre s.kinds s.kinds.length) : slotOk pre s = true := by
  unfold kindsOk at h
  rw [List.take_length] at h
  have : (s.kinds.all fun x => pre.any fun k => decide (k.name = x) && !k.veh) = true := by rw [List.all_eq_true]; exact h.2
  unfold slotOk
  rw [this, h0]
  simp [h.1, h1, h2]
/-- The second loop: the slots of a kind. -/
def slotsOk (pre : List Kd) (l : List Sk) (n : Nat) : Prop := (∀ s ∈ l.take n, slotOk pre s = true) ∧ ((l.take n).map Sk.name).Nodup
theorem kindOk_bad {pre : List Kd} {k : Kd} {n : Nat} (h : n < k.slots.length) (hb : slotOk pre (k.slots.getD n noSk) = false ∨ (k.slots.getD n noSk).name ∈ (k.slots.take n).map Sk.name) : kindOk pre k = false := by
  unfold kindOk
  rcases hb with hb | hb
  · have : k.slots.all (slotOk pre) = false := by
      rw [List.all_eq_false]; exact ⟨_, getD_mem k.slots n noSk h, by rw [hb]; decide⟩
    simp only [this, Bool.false_and, Bool.and_false]
  · have : ¬ (k.slots.map Sk.name).Nodup := fun hn => by
      have h2 : ((k.slots.take (n + 1)).map Sk.name).Nodup := hn.sublist ((List.take_sublist _ _).map _)
      rw [take_getD k.slots n noSk h, List.map_append, List.nodup_append] at h2
      exact h2.2.2 _ hb _ (by simp) rfl
    simp [this]
theorem slotsOk_step {pre : List Kd} {l : List Sk} {n : Nat} (h : slotsOk pre l n) (hn : n < l.length) (h1 : slotOk pre (l.getD n noSk) = true) (h2 : ¬ (l.getD n noSk).name ∈ (l.take n).map Sk.name) : slotsOk pre l (n + 1) := by
  unfold slotsOk
  rw [take_getD l n noSk hn, List.map_append]
  refine ⟨fun x hx => ?_, ?_⟩
  · rw [List.mem_append, List.mem_singleton] at hx
    rcases hx with hx | rfl
    · exact h.1 x hx
    · exact h1
  · rw [List.nodup_append]
    exact ⟨h.2, by simp, fun a ha b hb => by simp at hb; subst hb; intro e; subst e; exact h2 ha⟩
theorem kindOk_good {pre : List Kd} {k : Kd} (h0 : (pre.any fun q => decide (q.name = k.name)) = false) (h1 : nameB k.name = true) (h2 : k.slots.length ≤ 12) (h : slotsOk pre k.slots k.slots.length) : kindOk pre k = true := by
  unfold slotsOk at h
  rw [List.take_length] at h
  have : k.slots.all (slotOk pre) = true := by rw [List.all_eq_true]; exact h.1
  unfold kindOk
  rw [this, h0, h1]
  simp [h.2, h2]
theorem catTo_bad {c : List Kd} {n : Nat} (h : n < c.length) (hb : kindOk (c.take n) (c.getD n noKd) = false) : catB c = false := by
  have : catTo c c.length = false := by
    unfold catTo; rw [List.all_eq_false]
    exact ⟨n, List.mem_range.2 h, by rw [hb]; decide⟩
  unfold catB; rw [this]; rfl
theorem catTo_step {c : List Kd} {n : Nat} (h : catTo c n = true) (hb : kindOk (c.take n) (c.getD n noKd) = true) : catTo c (n + 1) = true := by
  unfold catTo at *
  rw [List.range_succ, List.all_append, h]
  simp only [List.all_cons, List.all_nil, hb, Bool.and_true]
theorem catTo_names {c : List Kd} : ∀ {n : Nat}, n ≤ c.length → catTo c n = true → ((c.take n).map Kd.name).Nodup
  | 0, _, _ => by simp
  | n + 1, hn, h => by
    unfold catTo at h
    rw [List.range_succ, List.all_append] at h
    simp only [List.all_cons, List.all_nil, Bool.and_true, Bool.and_eq_true] at h
    have ih := catTo_names (c := c) (n := n) (by omega) (by unfold catTo; exact h.1)
    rw [take_getD c n noKd (by omega), List.map_append, List.nodup_append]
    refine ⟨ih, by simp, fun a ha b hb => ?_⟩
    simp at hb; subst hb
    have h2 := h.2
    unfold kindOk at h2
    simp only [Bool.and_eq_true, Bool.not_eq_true'] at h2
    have h3 := h2.1.1.1
    rw [List.any_eq_false] at h3
    obtain ⟨q, hq, rfl⟩ := List.mem_map.1 ha
    have := h3 q hq
    simpa using this
end Go.Proofs.YtccnocgmikmonaaGreatDoor
namespace Go.Proofs.YtccnocgmikmonaaGreatDoor
open Go Go.RowKit
set_option maxRecDepth 100000 in
set_option maxHeartbeats 2000000 in
theorem catValid_any (w0 : World) (v : Value) (c : List Kd) (w : World) (hb0 : Below w0.heap.size w0 w) (hv : Cat w0 v c) (hl : c.length ≤ 100000) (hs : ∀ k ∈ c, k.short) :
    Calls Tryz.prog 63 #[.agg #[v]] w fun e w' => e = .returned (.bool (catB c)) ∧ Below w.heap.size w w' := by
  obtain ⟨A, cc, rfl, hn⟩ := hv.form
  have hmm := @run_makeMap Tryz.prog
  have HV := Lib.hid hv
  have HS := Lib.hid hs
  have HB0 := Lib.hid hb0
  clear hv hs hb0
  go_enter Tryz.func63, Tryz.ntmps63
  go_wp2_with fail
  go_loopw [18] (fun i wr => ∃ k : Nat, k ≤ c.length ∧ i = .int .i64 k ∧ Hid (Mp wr Value.string (w.heap.size + 1) (kindsM (c.take k))) ∧ Hid (catTo c k = true) ∧ Hid (Has wr w.heap.size 60 #[.slice A c.length cc]) ∧ Hid (Below w.heap.size w wr) ∧ w.heap.size + 2 ≤ wr.heap.size) (fun i _ => c.length - (intOf i).toNat)
  case atStart =>
    refine ⟨0, Nat.zero_le _, rfl, ?_, rfl, (Has.new w _ _).alloc _, ((Below.refl _ _).alloc (Nat.le_refl _) _).alloc (by simp) _, by simp⟩
    have h := Mp.new (w.alloc (.cells #[.slice A c.length cc] 60)) Value.string
    have e : (w.alloc (.cells #[.slice A c.length cc] 60)).heap.size = w.heap.size + 1 := by simp
    rw [e] at h
    exact h
  case round =>
    obtain ⟨k, hk, rfl, HM, HT, HR, HB, hZ⟩ := hrel
    by_cases hlt : k < c.length
    · obtain ⟨b, o, c', cs, he, _, ⟨sv, rfl, hsv⟩, _, hrg⟩ := HV.out.get hlt noKd
      injection he with e1 e2 e3
      subst e1; subst e3
      obtain ⟨A2, c2, rfl, hn2⟩ := hsv.form
      have hrg' := range_later hrg (HB0.out.trans (HB.out.mono HB0.out.size))
      have HSV := Lib.hid hsv
      have hsh := HS.out _ (getD_mem c k noKd hlt)
      have hbad := Lib.hid (fun h => catTo_bad hlt h)
      have hstep := Lib.hid (fun h => catTo_step HT.out h)
      have hnod := Lib.hid (catTo_names hk HT.out)
      have htake := Lib.hid (take_getD c k noKd hlt)
      clear hrg hsv
      generalize c.getD k noKd = q at *
      generalize c.take k = pre at *
      obtain ⟨s, vb, ss⟩ := q
      obtain ⟨hs1, hs2, hs3⟩ := hsh
      have HS3 := Lib.hid hs3
      clear hs3
      have hM1 := HM.out.alloc (.cells #[.string s, .bool vb, .slice A2 ss.length c2] 98)
      have hL := run_look str_keying Tryz.underlying158 hM1 s (zero_boolV _) true
      rw [kindsM_has] at hL
      have HK := Lib.hid ((Has.new wr 98 #[.string s, .bool vb, .slice A2 ss.length c2]))
      have HM1 := Lib.hid hM1
      clear hM1
      generalize hvv : (mget (kindsM pre) s).getD (.bool false) = vv at hL
      rw [kindsM_get _ hnod.out] at hvv
      subst hvv
      cases hany : (pre.any fun q => decide (q.name = s))
      · rw [hany] at hL
        have HANY := Lib.hid hany
        clear hany
        cases hnm : nameB s
        · have HNM := Lib.hid hnm
          clear hnm
          go_wp2_with (first | ((with_reducible show wpList _ _ _ (Oper.mk (some 21) _ _ _ _ _ :: _) _ _); refine wpList_load_mid rfl 98 _ rfl b (o + k * 3) rfl _ _ hrg' Tryz.underlying98 rfl rfl ?_) | (go_at_call 84; refine (name_any s _ hs1).mono ?_; rintro e w2 ⟨rfl, hb2⟩; rw [HNM.out]; obtain ⟨hE2, hB2, hz2⟩ := boxed hb2; obtain ⟨hc2, hf2⟩ := hE2.facts))
          go_ret
          exact ⟨ret_bool (hbad.out (by unfold kindOk; rw [HNM.out]; simp)).symm, HB.out.trans (hB2.mono (by omega))⟩
        · have HNM := Lib.hid hnm
          clear hnm
          by_cases h12 : ss.length ≤ 12
          · have h12' : ¬ (12 : Int) < (ss.length : Int) := by omega
            go_wp2_with (first | ((with_reducible show wpList _ _ _ (Oper.mk (some 21) _ _ _ _ _ :: _) _ _); refine wpList_load_mid rfl 98 _ rfl b (o + k * 3) rfl _ _ hrg' Tryz.underlying98 rfl rfl ?_) | (go_at_call 84; refine (name_any s _ hs1).mono ?_; rintro e w2 ⟨rfl, hb2⟩; rw [HNM.out]; obtain ⟨hE2, hB2, hz2⟩ := boxed hb2; obtain ⟨hc2, hf2⟩ := hE2.facts; have HE2 := Lib.hid hE2; have HB2 := Lib.hid hB2; clear hb2 hE2 hB2))
            have hHk : Has (w2.alloc (.map #[] 0)) wr.heap.size 98 #[.string s, .bool vb, .slice A2 ss.length c2] := HE2.out.alloc _
            have hMp : Mp (w2.alloc (.map #[] 0)) Value.string (w.heap.size + 1) (kindsM pre) := (HM.out.below HB2.out (by omega)).alloc _
            have hCa : Has (w2.alloc (.map #[] 0)) w.heap.size 60 #[.slice (some ⟨b, o, none⟩) c.length cc] := (HR.out.below HB2.out (by omega)).alloc _
            have hBb : Below w.heap.size w (w2.alloc (.map #[] 0)) := (HB.out.trans (HB2.out.mono (by omega))).alloc (by omega) _
            obtain ⟨gk, hgk⟩ : ∃ gk, gk = wr.heap.size := ⟨_, rfl⟩
            rw [← hgk] at hHk hz2
            have hgk2 : w.heap.size + 2 ≤ gk := by omega
            go_loopw [46] (fun i ws => ∃ j : Nat, j ≤ ss.length ∧ i = .int .i64 j ∧ Hid (Mp ws Value.string w2.heap.size (seenK ((ss.take j).map Sk.name))) ∧ Hid (Mp ws Value.string (w.heap.size + 1) (kindsM pre)) ∧ Hid (Has ws gk 98 #[.string s, .bool vb, .slice A2 ss.length c2]) ∧ Hid (Has ws w.heap.size 60 #[.slice (some ⟨b, o, none⟩) c.length cc]) ∧ Hid (Below w.heap.size w ws) ∧ w2.heap.size < ws.heap.size ∧ Hid (slotsOk pre ss j)) (fun i _ => ss.length - (intOf i).toNat)
            case atStart => exact ⟨0, Nat.zero_le _, rfl, Mp.new w2 Value.string, hMp, hHk, hCa, hBb, by simp, ⟨fun s h => by simp at h, by simp⟩⟩
            case round =>
              obtain ⟨j, hj, rfl, HSm, HPm, HKd, HCt, HBs, hZs, HSo⟩ := hrel
              clear hHk hMp hCa hBb
              by_cases hjl : j < ss.length
              · obtain ⟨b3, o3, c3, cs3, he3, _, ⟨sv3, rfl, hsv3⟩, _, hrg3⟩ := HSV.out.get hjl noSk
                injection he3 with e4 e5 e6
                subst e4; subst e6
                obtain ⟨A4, c4, hsv4, hn4, hc4⟩ := id hsv3
                subst hsv4
                have hrg3' := range_later hrg3 (HB0.out.trans (HBs.out.mono HB0.out.size))
                have HKS := Lib.hid hsv3
                have hsh3 := HS3.out _ (getD_mem ss j noSk hjl)
                have kbad := Lib.hid (fun h => hbad.out (kindOk_bad (pre := pre) (k := ⟨s, vb, ss⟩) hjl h))
                have sstep := Lib.hid (fun h1 h2 => slotsOk_step (pre := pre) HSo.out hjl h1 h2)
                have stake := Lib.hid (take_getD ss j noSk hjl)
                clear hrg3 hsv3 hc4
                change Hid (slotOk pre (ss.getD j noSk) = false ∨ (ss.getD j noSk).name ∈ (ss.take j).map Sk.name → catB c = false) at kbad
                generalize ss.getD j noSk = q3 at *
                generalize hseen : (ss.take j).map Sk.name = seen at *
                have HSEEN := Lib.hid hseen
                clear hseen
                obtain ⟨t, ks, nm⟩ := q3
                obtain ⟨hs4, hs5, hs6⟩ := hsh3
                have HS6 := Lib.hid hs6
                clear hs6
                have hM3 := HSm.out.alloc (.cells #[.string t, .slice A4 ks.length c4, .int .i64 nm] 95)
                have hL3 := run_look str_keying Tryz.underlying158 hM3 t (zero_boolV _) false
                rw [seenK_get] at hL3
                have HM3 := Lib.hid hM3
                clear hM3
                cases hik : inK seen t
                rotate_left
                · rw [hik] at hL3
                  have hmem := (inK_iff _ _).1 hik
                  clear hik
                  go_wp2_with ((with_reducible show wpList _ _ _ (Oper.mk (some 49) _ _ _ _ _ :: _) _ _); refine wpList_load_mid rfl 95 _ rfl b3 (o3 + j * 3) rfl _ _ hrg3' Tryz.underlying95 rfl rfl ?_)
                  go_ret
                  exact ⟨ret_bool (kbad.out (.inr hmem)).symm, HBs.out.alloc (by have := HBs.out.size; omega) _⟩
                · rw [hik] at hL3
                  have hmem := inK_no hik
                  clear hik
                  cases hn3 : nameB t
                  · have HN3 := Lib.hid hn3
                    clear hn3
                    go_wp2_with (first | ((with_reducible show wpList _ _ _ (Oper.mk (some 49) _ _ _ _ _ :: _) _ _); refine wpList_load_mid rfl 95 _ rfl b3 (o3 + j * 3) rfl _ _ hrg3' Tryz.underlying95 rfl rfl ?_) | (go_at_call 84; refine (name_any t _ hs4).mono ?_; rintro e w4 ⟨rfl, hb4⟩; rw [HN3.out]; obtain ⟨hE4, hB4, hz4⟩ := boxed hb4; obtain ⟨hc4, hf4⟩ := hE4.facts; have HE4 := Lib.hid hE4; have HB4 := Lib.hid hB4; clear hE4 hB4 hb4))
                    go_ret
                    exact ⟨ret_bool (kbad.out (.inl (by unfold slotOk; rw [HN3.out]; rfl))).symm, HBs.out.trans (HB4.out.mono HBs.out.size)⟩
                  · have HN3 := Lib.hid hn3
                    clear hn3
                    by_cases hno1 : nm < 1
                    · go_wp2_with (first | ((with_reducible show wpList _ _ _ (Oper.mk (some 49) _ _ _ _ _ :: _) _ _); refine wpList_load_mid rfl 95 _ rfl b3 (o3 + j * 3) rfl _ _ hrg3' Tryz.underlying95 rfl rfl ?_) | (go_at_call 84; refine (name_any t _ hs4).mono ?_; rintro e w4 ⟨rfl, hb4⟩; rw [HN3.out]; obtain ⟨hE4, hB4, hz4⟩ := boxed hb4; obtain ⟨hc4, hf4⟩ := hE4.facts; have HE4 := Lib.hid hE4; have HB4 := Lib.hid hB4; clear hE4 hB4 hb4))
                      go_ret
                      exact ⟨ret_bool (kbad.out (.inl (by have h : decide (1 ≤ nm) = false := decide_eq_false (by omega); simp [slotOk, h]))).symm, HBs.out.trans (HB4.out.mono HBs.out.size)⟩
                    · by_cases hno2 : (ks.length : Int) < nm
                      · go_wp2_with (first | ((with_reducible show wpList _ _ _ (Oper.mk (some 49) _ _ _ _ _ :: _) _ _); refine wpList_load_mid rfl 95 _ rfl b3 (o3 + j * 3) rfl _ _ hrg3' Tryz.underlying95 rfl rfl ?_) | (go_at_call 84; refine (name_any t _ hs4).mono ?_; rintro e w4 ⟨rfl, hb4⟩; rw [HN3.out]; obtain ⟨hE4, hB4, hz4⟩ := boxed hb4; obtain ⟨hc4, hf4⟩ := hE4.facts; have HE4 := Lib.hid hE4; have HB4 := Lib.hid hB4; clear hE4 hB4 hb4))
                        go_ret
                        exact ⟨ret_bool (kbad.out (.inl (by have h : decide (nm ≤ (ks.length : Int)) = false := decide_eq_false (by omega); simp [slotOk, h]))).symm, HBs.out.trans (HB4.out.mono HBs.out.size)⟩
                      · go_wp2_with (first | ((with_reducible show wpList _ _ _ (Oper.mk (some 49) _ _ _ _ _ :: _) _ _); refine wpList_load_mid rfl 95 _ rfl b3 (o3 + j * 3) rfl _ _ hrg3' Tryz.underlying95 rfl rfl ?_) | (go_at_call 84; refine (name_any t _ hs4).mono ?_; rintro e w4 ⟨rfl, hb4⟩; rw [HN3.out]; obtain ⟨hE4, hB4, hz4⟩ := boxed hb4; obtain ⟨hc4, hf4⟩ := hE4.facts; have HE4 := Lib.hid hE4; have HB4 := Lib.hid hB4; clear hE4 hB4 hb4; obtain ⟨w5, hp5, hM5, hG5, hS5⟩ := run_put str_keying Tryz.underlying158 (HSm.out.below HB4.out hZs) t (.bool true); rw [seenK_put _ _ hmem] at hM5; have HM5 := Lib.hid hM5; have HG5 := Lib.hid hG5; have HS5 := Lib.hid hS5; have hz5 : wr.heap.size < w5.heap.size := (by omega); obtain ⟨hc5, hf5⟩ := (HE4.out.grown hG5 (fun h => by have := Option.some.inj h; omega)).facts; clear hM5 hG5 hS5))
                        have hP5 := (HPm.out.below HB4.out (by omega)).grown HG5.out (fun h => by have := Option.some.inj h; omega)
                        have hK5 := (HKd.out.below HB4.out (by omega)).grown HG5.out (fun h => by have := Option.some.inj h; omega)
                        have hC5 := (HCt.out.below HB4.out (by omega)).grown HG5.out (fun h => by have := Option.some.inj h; omega)
                        have hB5 := (HBs.out.trans (HB4.out.mono HBs.out.size)).grown HG5.out (by omega) (fun j hj => by cases hj; omega)
                        have h25 : w2.heap.size < w5.heap.size := by omega
                        go_loopw [80] (fun i wt => ∃ m : Nat, m ≤ ks.length ∧ i = .int .i64 m ∧ Hid (Mp wt Value.string w5.heap.size (seenK (ks.take m))) ∧ Hid (Mp wt Value.string w2.heap.size (seenK (seen ++ [t]))) ∧ Hid (Mp wt Value.string (w.heap.size + 1) (kindsM pre)) ∧ Hid (Has wt gk 98 #[.string s, .bool vb, .slice (some ⟨b3, o3, none⟩) ss.length c2]) ∧ Hid (Has wt w.heap.size 60 #[.slice (some ⟨b, o, none⟩) c.length cc]) ∧ Hid (Below w.heap.size w wt) ∧ w5.heap.size < wt.heap.size ∧ Hid (kindsOk pre ks m)) (fun i _ => ks.length - (intOf i).toNat)
                        case atStart => exact ⟨0, Nat.zero_le _, rfl, Mp.new w5 Value.string, HM5.out.alloc _, hP5.alloc _, hK5.alloc _, hC5.alloc _, hB5.alloc (by omega) _, by simp, ⟨by simp, fun s h => by simp at h⟩⟩
                        case round =>
                          obtain ⟨m, hm, rfl, HTk, HSk, HPk, HKk, HCk, HBk, hZk, HKo⟩ := hrel
                          clear hP5 hK5 hC5 hB5
                          by_cases hml : m < ks.length
                          · obtain ⟨A7, c7, he7, hn7, hc7⟩ := HKS.out
                            injection he7 with e7 e8 e9
                            subst e7; subst e9
                            rcases hc7 with h0 | ⟨b4, o4, e7, hc7⟩
                            · omega
                            subst e7
                            have hcell := cell_later (HB0.out.trans (HBk.out.mono HB0.out.size)) (hc7 m (by omega))
                            change wr.cell? ⟨b4, o4 + m, none⟩ = some (.string (ks.getD m eS)) at hcell
                            have xbad := Lib.hid (fun h => kbad.out (.inl (slotOk_bad (pre := pre) (s := ⟨t, ks, nm⟩) hml h)))
                            have xstep := Lib.hid (fun h1 h2 => kindsOk_step (pre := pre) HKo.out hml h1 h2)
                            have xtake := Lib.hid (take_getD ks m eS hml)
                            clear hc7
                            change Hid (ks.getD m eS ∈ ks.take m ∨ (pre.any fun k => decide (k.name = ks.getD m eS) && !k.veh) = false → catB c = false) at xbad
                            generalize ks.getD m eS = x at *
                            generalize ks.take m = xs at *
                            have hL4 := run_look str_keying Tryz.underlying158 HTk.out x (zero_boolV _) false
                            rw [seenK_get] at hL4
                            have hL5 := run_look str_keying Tryz.underlying158 HPk.out x (zero_boolV _) false
                            rw [kindsM_get _ hnod.out] at hL5
                            cases hik : inK xs x
                            · rw [hik] at hL4
                              have hnm4 := inK_no hik
                              clear hik
                              cases hpp : (pre.any fun k => decide (k.name = x) && !k.veh)
                              · rw [hpp] at hL5
                                have HPP := Lib.hid hpp
                                clear hpp
                                go_wp2_with fail
                                go_ret
                                exact ⟨ret_bool (xbad.out (.inr HPP.out)).symm, HBk.out⟩
                              · rw [hpp] at hL5
                                have HPP := Lib.hid hpp
                                clear hpp
                                obtain ⟨w6, hp6, hM6, hG6, hS6⟩ := run_put str_keying Tryz.underlying158 HTk.out x (.bool true)
                                rw [seenK_put _ _ hnm4] at hM6
                                have HM6 := Lib.hid hM6
                                have HG6 := Lib.hid hG6
                                have HS6 := Lib.hid hS6
                                clear hM6 hG6 hS6
                                go_wp2_with fail
                                go_roundw
                                case rel => exact ⟨m + 1, by omega, by go_num, by rw [xtake.out]; exact HM6.out, HSk.out.grown HG6.out (fun h => by have := Option.some.inj h; omega), HPk.out.grown HG6.out (fun h => by have := Option.some.inj h; omega), HKk.out.grown HG6.out (fun h => by have := Option.some.inj h; omega), HCk.out.grown HG6.out (fun h => by have := Option.some.inj h; omega), HBk.out.grown HG6.out (by omega) (fun j hj => by cases hj; omega), by have := HS6.out; omega, xstep.out hnm4 HPP.out⟩
                                case measure => simp [intOf]; omega
                            · rw [hik] at hL4
                              have hmem4 := (inK_iff _ _).1 hik
                              clear hik
                              go_wp2_with fail
                              go_ret
                              exact ⟨ret_bool (xbad.out (.inl hmem4)).symm, HBk.out⟩
                          · obtain rfl : m = ks.length := by omega
                            have hgood := Lib.hid (slotOk_good (s := ⟨t, ks, nm⟩) HN3.out (by omega) (by omega) HKo.out)
                            go_wp2_with fail
                            go_roundw
                            case rel => exact ⟨j + 1, by omega, by go_num, by rw [stake.out, List.map_append, HSEEN.out]; exact HSk.out, HPk.out, HKk.out, HCk.out, HBk.out, by omega, sstep.out hgood.out hmem⟩
                            case measure => simp [intOf]; omega
              · obtain rfl : j = ss.length := by omega
                have hgood := Lib.hid (hstep.out (kindOk_good HANY.out HNM.out h12 HSo.out))
                obtain ⟨w6, hp6, hM6, hG6, hS6⟩ := run_put str_keying Tryz.underlying158 HPm.out s (.bool (!vb))
                rw [kindsM_put pre ⟨s, vb, ss⟩ HANY.out] at hM6
                subst hgk
                obtain ⟨p1, p2⟩ := HKd.out.facts
                have HM6 := Lib.hid hM6
                have HG6 := Lib.hid hG6
                have HS6 := Lib.hid hS6
                clear hM6 hG6 hS6
                go_wp2_with fail
                go_roundw
                case rel => exact ⟨k + 1, by omega, by go_num, by rw [htake.out]; exact HM6.out, hgood.out, HCt.out.grown HG6.out (fun h => by have := Option.some.inj h; omega), HBs.out.grown HG6.out (by omega) (fun j hj => by cases hj; omega), by have := HS6.out; omega⟩
                case measure => simp [intOf]; omega
          · have h12' : (12 : Int) < (ss.length : Int) := by omega
            go_wp2_with (first | ((with_reducible show wpList _ _ _ (Oper.mk (some 21) _ _ _ _ _ :: _) _ _); refine wpList_load_mid rfl 98 _ rfl b (o + k * 3) rfl _ _ hrg' Tryz.underlying98 rfl rfl ?_) | (go_at_call 84; refine (name_any s _ hs1).mono ?_; rintro e w2 ⟨rfl, hb2⟩; rw [HNM.out]; obtain ⟨hE2, hB2, hz2⟩ := boxed hb2; obtain ⟨hc2, hf2⟩ := hE2.facts))
            go_ret
            exact ⟨ret_bool (hbad.out (by unfold kindOk; simp [h12])).symm, HB.out.trans (hB2.mono (by omega))⟩
      · rw [hany] at hL
        have HANY := Lib.hid hany
        clear hany
        go_wp2_with (first | ((with_reducible show wpList _ _ _ (Oper.mk (some 21) _ _ _ _ _ :: _) _ _); refine wpList_load_mid rfl 98 _ rfl b (o + k * 3) rfl _ _ hrg' Tryz.underlying98 rfl rfl ?_))
        go_ret
        exact ⟨ret_bool (hbad.out (by unfold kindOk; rw [HANY.out]; rfl)).symm, HB.out.alloc (by omega) _⟩
    · obtain rfl : k = c.length := by omega
      obtain ⟨p1, p2⟩ := HR.out.facts
      go_wp2_with fail
      go_ret
      refine ⟨ret_bool ?_, HB.out⟩
      have := HT.out
      unfold catB
      rw [this]; simp; omega
end Go.Proofs.YtccnocgmikmonaaGreatDoor
