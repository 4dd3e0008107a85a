/- fleet.Find: the state of a part. The cells of a part; what the test of sizes gives. -/
import Derived.Test.YtpikcofbhkbifaaU04
import Derived.Test.YtpikcofbhkbifaaU07
import Derived.Test.YtpikcofbhkbifaaU24
import Derived.Test.YtpikcofbhkbifaaU25
namespace Go.Proofs.Ytpikcofbhkbifaa
open Go Go.RowKit
theorem pfind_at {l : List Pa} {x : ByteArray} {k : Nat} (hk : k < l.length) (h : ∀ q ∈ l.take k, q.name ≠ x) (he : (l.getD k noPa).name = x) : pfind l x = some (l.getD k noPa) := by
  have hg : l.getD k noPa = l[k] := by rw [List.getD_eq_getElem?_getD, List.getElem?_eq_getElem hk]; rfl
  rw [hg] at he ⊢
  unfold pfind
  rw [List.find?_eq_some_iff_getElem]
  refine ⟨by simpa using he, k, hk, rfl, fun j hj => ?_⟩
  have := h l[j] (List.mem_take_iff_getElem.2 ⟨j, by omega, rfl⟩)
  simpa using this
theorem pfind_all {l : List Pa} {x : ByteArray} (h : ∀ q ∈ l.take l.length, q.name ≠ x) : pfind l x = none := by
  rw [List.take_length] at h
  unfold pfind; rw [List.find?_eq_none]
  intro q hq; simpa using h q hq
theorem take_next {l : List Pa} {x : ByteArray} {k : Nat} (hk : k < l.length) (h : ∀ q ∈ l.take k, q.name ≠ x) (he : (l.getD k noPa).name ≠ x) : ∀ q ∈ l.take (k + 1), q.name ≠ x := by
  intro q hq
  rw [List.take_succ_eq_append_getElem hk, List.mem_append, List.mem_singleton] at hq
  rcases hq with hq | rfl
  · exact h q hq
  · rwa [List.getD_eq_getElem?_getD, List.getElem?_eq_getElem hk] at he
theorem new_range (w : World) (t : TypeId) (cs : List Value) : (w.alloc (.cells cs.toArray t)).rangeAt w.heap.size 0 cs := by
  intro j v hv
  have h1 := (Has.new w t cs.toArray).facts.1 j
  rw [Nat.zero_add, h1]
  simpa using hv
theorem thereH {w : World} {g t n : Nat} {cs : Array Value} (h : Has w g t cs) (hn : n ≤ cs.size) : w.there g 0 n := fun j hj => ⟨by rw [Nat.zero_add, h.cell, Array.getElem?_eq_getElem (by omega)]; rfl, h.free _⟩
theorem setAllH {w : World} {g t : Nat} {cs : Array Value} (h : Has w g t cs) (ds : List Value) (hl : ds.length = cs.size) : Has (w.setCells g 0 ds) g t ds.toArray := by
  have := setCells_block g t ds 0 cs.toList w (by have := h; unfold Has at this; simpa using this) (by simp; omega)
  unfold Has; rw [this]; unfold splice; simp; omega
theorem sizePt : (Try.prog.info? 37).map (·.size) = some 14 := by kernel_rfl
theorem onePt (a b c d : ByteArray) (e f : Int) (g : Bool) (A : Option Addr) (n m : Nat) (h i j k l o : Int) : (#[.string a, .string b, .string c, .string d, .int .i64 e, .int .i64 f, .bool g, .slice A n m, .int .i64 h, .int .i64 i, .int .i64 j, .int .i64 k, .int .i64 l, .int .i64 o] : Array Value).all (·.oneCell') = true := by
  simp [Value.oneCell']
/-- A row stored into a block: what is known of the world behind it. -/
theorem stored {w0 w : World} {g t B : Nat} {cs : Array Value} (h : Has w g t cs) (hb : Below B w0 w) (hg : B ≤ g) (ds : Array Value) (hl : ds.size = cs.size) : ∃ W, w.setCells g 0 ds.toList = W ∧ Has W g t ds ∧ Below B w0 W :=
  ⟨_, rfl, by have := setAllH h ds.toList (by simpa using hl); simpa using this, below_setCells hg ds.toList 0 w hb⟩
set_option maxRecDepth 100000 in
set_option maxHeartbeats 2000000 in
theorem fpart_any (w0 : World) (v : Value) (l : List Pa) (x : ByteArray) (w : World) (hb0 : Below w0.heap.size w0 w) (hv : Sta w0 v l) (hl : l.length ≤ 1000000) :
    Calls Try.prog 9 #[.agg #[v], .string x] w fun e w' => ∃ A m, e = .returned (.tuple #[.agg #[.string ((pfind l x).getD noPa).name, .string ((pfind l x).getD noPa).kind, .string ((pfind l x).getD noPa).into, .string ((pfind l x).getD noPa).slot, .int .i64 ((pfind l x).getD noPa).made, .int .i64 ((pfind l x).getD noPa).since, .bool ((pfind l x).getD noPa).gone, .slice A ((pfind l x).getD noPa).props.length m, .int .i64 ((pfind l x).getD noPa).kl, .int .i64 ((pfind l x).getD noPa).kh, .int .i64 ((pfind l x).getD noPa).cl, .int .i64 ((pfind l x).getD noPa).ch, .int .i64 ((pfind l x).getD noPa).dl, .int .i64 ((pfind l x).getD noPa).dh], .bool (pfind l x).isSome]) ∧ Rd 2 PrR w0 (.slice A ((pfind l x).getD noPa).props.length m) ((pfind l x).getD noPa).props ∧ Below w.heap.size w w' := by
  obtain ⟨A, cc, rfl, hn⟩ := hv.form
  have h2 := Has.new (w.alloc (.cells #[.slice A l.length cc] 27)) 37 #[.string ⟨#[]⟩, .string ⟨#[]⟩, .string ⟨#[]⟩, .string ⟨#[]⟩, .int .i64 0, .int .i64 0, .bool false, .slice none 0 0, .int .i64 0, .int .i64 0, .int .i64 0, .int .i64 0, .int .i64 0, .int .i64 0]
  simp only [World.size_alloc] at h2
  have hb : Below w.heap.size w ((w.alloc (.cells #[.slice A l.length cc] 27)).alloc (.cells #[.string ⟨#[]⟩, .string ⟨#[]⟩, .string ⟨#[]⟩, .string ⟨#[]⟩, .int .i64 0, .int .i64 0, .bool false, .slice none 0 0, .int .i64 0, .int .i64 0, .int .i64 0, .int .i64 0, .int .i64 0, .int .i64 0] 37)) := ((Below.refl _ _).alloc (Nat.le_refl _) _).alloc (by simp) _
  have HV := Lib.hid hv
  have HB0 := Lib.hid hb0
  have HP1 := Lib.hid h2
  have HB1 := Lib.hid hb
  clear hv hb0 h2 hb
  go_enter Try.func9, Try.ntmps9
  go_wp2_with fail
  go_loopw [11] (fun i wr => ∃ k : Nat, k ≤ l.length ∧ i = .int .i64 k ∧ Hid (∀ q ∈ l.take k, q.name ≠ x) ∧ Hid (Has wr (w.heap.size + 1) 37 #[.string ⟨#[]⟩, .string ⟨#[]⟩, .string ⟨#[]⟩, .string ⟨#[]⟩, .int .i64 0, .int .i64 0, .bool false, .slice none 0 0, .int .i64 0, .int .i64 0, .int .i64 0, .int .i64 0, .int .i64 0, .int .i64 0]) ∧ Hid (Below w.heap.size w wr)) (fun i _ => l.length - (intOf i).toNat)
  case atStart => exact ⟨0, Nat.zero_le _, rfl, fun q hq => by simp at hq, HP1.out, HB1.out⟩
  case round =>
    obtain ⟨k, hk, rfl, HT, HP, HB⟩ := hrel
    clear HP1 HB1
    have hwr : w.heap.size + 1 < wr.heap.size := HP.out.lt
    by_cases hlt : k < l.length
    · obtain ⟨b, o, c', cs, he, _, ⟨sv, rfl, hsv⟩, _, hrg⟩ := HV.out.get hlt noPa
      injection he with e1 e2 e3
      subst e1; subst e3
      obtain ⟨A2, c2, rfl, hn2⟩ := hsv.form
      have HSV := Lib.hid hsv
      have hrg' := range_later hrg (HB0.out.trans (HB.out.mono HB0.out.size))
      have HAT := Lib.hid (fun he => pfind_at hlt HT.out he)
      have HNX := Lib.hid (fun he => take_next hlt HT.out he)
      have hki : (k : Int) < (l.length : Int) := by omega
      clear hrg hsv
      generalize l.getD k noPa = q at *
      obtain ⟨name, kind, into, slot, made, since, gone, props, kl, kh, cl, ch, dl, dh⟩ := q
      replace hrg' : wr.rangeAt b (o + k * 14) [.string name, .string kind, .string into, .string slot, .int .i64 made, .int .i64 since, .bool gone, .slice A2 props.length c2, .int .i64 kl, .int .i64 kh, .int .i64 cl, .int .i64 ch, .int .i64 dl, .int .i64 dh] := hrg'
      have hp1 := HP.out.alloc (.cells #[.string name, .string kind, .string into, .string slot, .int .i64 made, .int .i64 since, .bool gone, .slice A2 props.length c2, .int .i64 kl, .int .i64 kh, .int .i64 cl, .int .i64 ch, .int .i64 dl, .int .i64 dh] 37)
      have HP2 := Lib.hid hp1
      clear hp1
      cases he : (name.toList == x.toList)
      · have hne : name ≠ x := by rw [beq_bytes] at he; exact of_decide_eq_false he
        have HN := Lib.hid (HNX.out hne)
        clear hne
        go_wp2_with ((with_reducible show wpList _ _ _ (Oper.mk (some 14) _ _ _ _ _ :: _) _ _); refine wpList_load_mid rfl 37 _ rfl b (o + k * 14) rfl _ _ hrg' Try.underlying37 rfl rfl ?_)
        go_roundw
        case rel => exact ⟨k + 1, by omega, by go_num, HN.out, HP2.out, HB.out.alloc (by omega) _⟩
        case measure => simp [intOf]; omega
      · have heq : name = x := by rw [beq_bytes] at he; exact of_decide_eq_true he
        have HE := Lib.hid (HAT.out heq)
        clear heq
        have HT7 := Lib.hid (thereH (n := 14) HP2.out (by simp))
        obtain ⟨W, hWe, hW, hB⟩ := stored HP2.out (HB.out.alloc HB.out.size (.cells #[.string name, .string kind, .string into, .string slot, .int .i64 made, .int .i64 since, .bool gone, .slice A2 props.length c2, .int .i64 kl, .int .i64 kh, .int .i64 cl, .int .i64 ch, .int .i64 dl, .int .i64 dh] 37)) (by omega : w.heap.size ≤ w.heap.size + 1) #[.string name, .string kind, .string into, .string slot, .int .i64 made, .int .i64 since, .bool gone, .slice A2 props.length c2, .int .i64 kl, .int .i64 kh, .int .i64 cl, .int .i64 ch, .int .i64 dl, .int .i64 dh] rfl
        obtain ⟨n4, n5⟩ := hW.facts
        have HB9 := Lib.hid hB
        clear hB hW
        have hr2 : (wr.alloc (.cells #[.string name, .string kind, .string into, .string slot, .int .i64 made, .int .i64 since, .bool gone, .slice A2 props.length c2, .int .i64 kl, .int .i64 kh, .int .i64 cl, .int .i64 ch, .int .i64 dl, .int .i64 dh] 37)).rangeAt wr.heap.size 0 [.string name, .string kind, .string into, .string slot, .int .i64 made, .int .i64 since, .bool gone, .slice A2 props.length c2, .int .i64 kl, .int .i64 kh, .int .i64 cl, .int .i64 ch, .int .i64 dl, .int .i64 dh] := new_range wr _ _
        go_wp2_with (first | ((with_reducible show wpList _ _ _ (Oper.mk (some 14) _ _ _ _ _ :: _) _ _); refine wpList_load_mid rfl 37 _ rfl b (o + k * 14) rfl _ _ hrg' Try.underlying37 rfl rfl ?_) | ((with_reducible show wpList _ _ _ (Oper.mk (some 19) _ _ _ _ _ :: _) _ _); refine wpList_load_mid rfl 37 _ rfl wr.heap.size 0 rfl _ _ hr2 Try.underlying37 rfl rfl ?_) | ((with_reducible show wpList _ _ _ (Oper.mk none (Op.store 37 (Operand.tmp 4) _) _ _ _ _ :: _) _ _); refine wpList_store_mid rfl 37 _ _ rfl (w.heap.size + 1) 0 #[.string name, .string kind, .string into, .string slot, .int .i64 made, .int .i64 since, .bool gone, .slice A2 props.length c2, .int .i64 kl, .int .i64 kh, .int .i64 cl, .int .i64 ch, .int .i64 dl, .int .i64 dh] rfl rfl HT7.out sizePt (onePt ..) ?_; rw [hWe]))
        refine bodyPost_ret (v := .tuple #[.agg #[.string name, .string kind, .string into, .string slot, .int .i64 made, .int .i64 since, .bool gone, .slice A2 props.length c2, .int .i64 kl, .int .i64 kh, .int .i64 cl, .int .i64 ch, .int .i64 dl, .int .i64 dh], .bool true]) (by simp [results, Try.results9, go_sem, n4]) rfl ?_
        exact ⟨A2, c2, by rw [HE.out]; rfl, by rw [HE.out]; exact HSV.out, HB9.out⟩
    · obtain rfl : k = l.length := by omega
      have HE := Lib.hid (pfind_all HT.out)
      have HT7 := Lib.hid (thereH (n := 14) HP.out (by simp))
      obtain ⟨W, hWe, hW, hB⟩ := stored HP.out HB.out (by omega : w.heap.size ≤ w.heap.size + 1) #[.string ⟨#[]⟩, .string ⟨#[]⟩, .string ⟨#[]⟩, .string ⟨#[]⟩, .int .i64 0, .int .i64 0, .bool false, .slice none 0 0, .int .i64 0, .int .i64 0, .int .i64 0, .int .i64 0, .int .i64 0, .int .i64 0] rfl
      obtain ⟨n4, n5⟩ := hW.facts
      have HB9 := Lib.hid hB
      clear hB hW
      go_wp2_with ((with_reducible show wpList _ _ _ (Oper.mk none (Op.store 37 (Operand.tmp 4) _) _ _ _ _ :: _) _ _); refine wpList_store_mid rfl 37 _ _ rfl (w.heap.size + 1) 0 #[.string ⟨#[]⟩, .string ⟨#[]⟩, .string ⟨#[]⟩, .string ⟨#[]⟩, .int .i64 0, .int .i64 0, .bool false, .slice none 0 0, .int .i64 0, .int .i64 0, .int .i64 0, .int .i64 0, .int .i64 0, .int .i64 0] rfl rfl HT7.out sizePt (onePt ..) ?_; rw [hWe])
      refine bodyPost_ret (v := .tuple #[.agg #[.string ⟨#[]⟩, .string ⟨#[]⟩, .string ⟨#[]⟩, .string ⟨#[]⟩, .int .i64 0, .int .i64 0, .bool false, .slice none 0 0, .int .i64 0, .int .i64 0, .int .i64 0, .int .i64 0, .int .i64 0, .int .i64 0], .bool false]) (by simp [results, Try.results9, go_sem, n4]) rfl ?_
      exact ⟨none, 0, by rw [HE.out]; rfl, by rw [HE.out]; exact Rd.nil _ _, HB9.out⟩
end Go.Proofs.Ytpikcofbhkbifaa
namespace Go.Proofs.Ytpikcofbhkbifaa
open Go Go.RowKit
theorem fewB_take {c : List Kd} {l : List Pa} {es : List Ev} (h : fewB c l es = true) : (c.length ≤ 65 ∧ ∀ k ∈ c, k.short) ∧ (l.length ≤ 20 ∧ ∀ p ∈ l, p.short) := by
  unfold fewB at h
  simp only [Bool.and_eq_true] at h
  exact ⟨fewCa_short h.1, fewSt_short h.2.1⟩
theorem big_max {n : Nat} (h : n ≤ big) : n ≤ maxLen := by unfold big at h; unfold maxLen; omega
theorem part_facts {w : World} {b o : Nat} {x0 x1 x2 x3 x4 x5 x6 x7 x8 x9 x10 x11 x12 x13 : Value} (h : w.rangeAt b o [x0, x1, x2, x3, x4, x5, x6, x7, x8, x9, x10, x11, x12, x13]) :
    w.cell? ⟨b, o, none⟩ = some x0 ∧ w.cell? ⟨b, o + 1, none⟩ = some x1 ∧ w.cell? ⟨b, o + 2, none⟩ = some x2 ∧ w.cell? ⟨b, o + 3, none⟩ = some x3 ∧ w.cell? ⟨b, o + 4, none⟩ = some x4 ∧ w.cell? ⟨b, o + 5, none⟩ = some x5 ∧ w.cell? ⟨b, o + 6, none⟩ = some x6 ∧ w.cell? ⟨b, o + 7, none⟩ = some x7 ∧ w.cell? ⟨b, o + 8, none⟩ = some x8 ∧ w.cell? ⟨b, o + 9, none⟩ = some x9 ∧ w.cell? ⟨b, o + 10, none⟩ = some x10 ∧ w.cell? ⟨b, o + 11, none⟩ = some x11 ∧ w.cell? ⟨b, o + 12, none⟩ = some x12 ∧ w.cell? ⟨b, o + 13, none⟩ = some x13 :=
  ⟨h 0 _ rfl, h 1 _ rfl, h 2 _ rfl, h 3 _ rfl, h 4 _ rfl, h 5 _ rfl, h 6 _ rfl, h 7 _ rfl, h 8 _ rfl, h 9 _ rfl, h 10 _ rfl, h 11 _ rfl, h 12 _ rfl, h 13 _ rfl⟩
end Go.Proofs.Ytpikcofbhkbifaa
