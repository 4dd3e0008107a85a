/- bogielaw13.head: the chapter's examples come out right. -/
import Derived.Test.YtjlpllnhefafkaaGreatDoorXI
namespace Go.Proofs.YtjlpllnhefafkaaGreatDoor
open Go Go.RowKit
def exA : Ev := ⟨1, 3, ⟨#[97]⟩, ⟨#[97, 120, 108, 101]⟩, ⟨#[]⟩, ⟨#[]⟩, ⟨#[]⟩, ⟨#[]⟩, 0, 0, 0, 0, 0, 0⟩
def exB : Ev := ⟨3, 5, ⟨#[97]⟩, ⟨#[]⟩, ⟨#[]⟩, ⟨#[]⟩, ⟨#[]⟩, ⟨#[]⟩, 0, 0, 0, 0, 0, 0⟩
def exC : Ev := ⟨3, 5, ⟨#[98]⟩, ⟨#[]⟩, ⟨#[]⟩, ⟨#[]⟩, ⟨#[]⟩, ⟨#[]⟩, 0, 0, 0, 0, 0, 0⟩
theorem exA_ok : evOk exA = true := by decide +kernel
theorem exB_ok : evOk exB = true := by decide +kernel
theorem exC_ok : evOk exC = true := by decide +kernel
theorem repA_ok : repOk [exA] = true := by decide +kernel
theorem repB_ok : repOk [exB, exC] = true := by decide +kernel
theorem txtA : repTxt textB [exA] false = ⟨#[115, 117, 114, 101, 10, 109, 97, 107, 101, 32, 51, 32, 97, 32, 97, 120, 108, 101, 10]⟩ := by decide +kernel
theorem txtB : repTxt textB [exB, exC] true = ⟨#[112, 101, 114, 104, 97, 112, 115, 10, 114, 101, 109, 111, 118, 101, 32, 53, 32, 97, 10, 114, 101, 109, 111, 118, 101, 32, 53, 32, 98, 10]⟩ := by decide +kernel
/-- The examples' blocks, from block B on. -/
structure ExW (w : World) (B : Nat) : Prop where
  a : Has w B 49 exA.cells
  b : Has w (B + 1) 31 #[.slice (some ⟨B, 0, none⟩) 1 1, .bool false]
  c : Has w (B + 1 + 1) 49 (evCells [exB, exC]).toArray
  d : Has w (B + 1 + 1 + 1) 31 #[.slice (some ⟨B + 1 + 1, 0, none⟩) 2 2, .bool true]
theorem ExW.below {w w' : World} {B : Nat} (h : ExW w B) (hb : Below w.heap.size w w') : ExW w' B :=
  ⟨h.a.below hb h.a.lt, h.b.below hb h.b.lt, h.c.below hb h.c.lt, h.d.below hb h.d.lt⟩
theorem ExW.alloc {w : World} {B : Nat} (h : ExW w B) (o : Obj) : ExW (w.alloc o) B := ⟨h.a.alloc o, h.b.alloc o, h.c.alloc o, h.d.alloc o⟩
theorem ExW.new (w : World) : ExW ((((w.alloc (.cells exA.cells 49)).alloc (.cells #[.slice (some ⟨w.heap.size, 0, none⟩) 1 1, .bool false] 31)).alloc (.cells (evCells [exB, exC]).toArray 49)).alloc (.cells #[.slice (some ⟨w.heap.size + 1 + 1, 0, none⟩) 2 2, .bool true] 31)) w.heap.size := by
  refine ⟨(((Has.new w _ _).alloc _).alloc _).alloc _, ?_, ?_, ?_⟩
  · have h := ((Has.new (w.alloc (.cells exA.cells 49)) 31 #[.slice (some ⟨w.heap.size, 0, none⟩) 1 1, .bool false]).alloc (.cells (evCells [exB, exC]).toArray 49)).alloc (.cells #[.slice (some ⟨w.heap.size + 1 + 1, 0, none⟩) 2 2, .bool true] 31)
    rwa [World.size_alloc] at h
  · have h := (Has.new ((w.alloc (.cells exA.cells 49)).alloc (.cells #[.slice (some ⟨w.heap.size, 0, none⟩) 1 1, .bool false] 31)) 49 (evCells [exB, exC]).toArray).alloc (.cells #[.slice (some ⟨w.heap.size + 1 + 1, 0, none⟩) 2 2, .bool true] 31)
    rwa [World.size_alloc, World.size_alloc] at h
  · have h := Has.new (((w.alloc (.cells exA.cells 49)).alloc (.cells #[.slice (some ⟨w.heap.size, 0, none⟩) 1 1, .bool false] 31)).alloc (.cells (evCells [exB, exC]).toArray 49)) 31 #[.slice (some ⟨w.heap.size + 1 + 1, 0, none⟩) 2 2, .bool true]
    rwa [World.size_alloc, World.size_alloc, World.size_alloc] at h
theorem sl_cells {w : World} {g t : Nat} {l : List Ev} (h : Has w g t (evCells l).toArray) : Sl w (.slice (some ⟨g, 0, none⟩) l.length l.length) l.length 14 (evF l) :=
  Sl.has h (Nat.le_refl _) (fun j hj => by simpa using evCells_at l j hj)
theorem ExW.slA {w : World} {B : Nat} (h : ExW w B) : Sl w (.slice (some ⟨B, 0, none⟩) 1 1) 1 14 (evF [exA]) := sl_cells (l := [exA]) h.a
theorem ExW.slB {w : World} {B : Nat} (h : ExW w B) : Sl w (.slice (some ⟨B + 1 + 1, 0, none⟩) 2 2) 2 14 (evF [exB, exC]) := sl_cells (l := [exB, exC]) h.c
theorem ex_short : exA.short ∧ exB.short ∧ exC.short := by unfold Ev.short maxLen; decide +kernel
theorem ex_shortA : ∀ e ∈ [exA], e.short := fun e he => by obtain rfl := List.mem_singleton.1 he; exact ex_short.1
theorem ex_shortB : ∀ e ∈ [exB, exC], e.short := fun e he => by
  rcases List.mem_cons.1 he with rfl | he
  · exact ex_short.2.1
  · obtain rfl := List.mem_singleton.1 he
    exact ex_short.2.2
theorem ex_txtA (w0 : World) (ht : Tab w0) (w : World) {B : Nat} (hb : Below w0.heap.size w0 w) (h : ExW w B) : Calls Tryz.prog 12 #[.agg #[.slice (some ⟨B, 0, none⟩) 1 1, .bool false]] w fun r w' => r = .returned (.tuple #[.string ⟨#[115, 117, 114, 101, 10, 109, 97, 107, 101, 32, 51, 32, 97, 32, 97, 120, 108, 101, 10]⟩, .int .i64 0]) ∧ Below w.heap.size w w' := by
  have h1 := repText_any _ ⟨[exA], false⟩ w0 w ht hb h.slA ex_shortA (by decide)
  rw [show repOk (Rep.mk [exA] false).opts = true from repA_ok, if_pos rfl, if_pos rfl, show textR ⟨[exA], false⟩ = _ from txtA] at h1
  exact h1
theorem ex_txtB (w0 : World) (ht : Tab w0) (w : World) {B : Nat} (hb : Below w0.heap.size w0 w) (h : ExW w B) : Calls Tryz.prog 12 #[.agg #[.slice (some ⟨B + 1 + 1, 0, none⟩) 2 2, .bool true]] w fun r w' => r = .returned (.tuple #[.string ⟨#[112, 101, 114, 104, 97, 112, 115, 10, 114, 101, 109, 111, 118, 101, 32, 53, 32, 97, 10, 114, 101, 109, 111, 118, 101, 32, 53, 32, 98, 10]⟩, .int .i64 0]) ∧ Below w.heap.size w w' := by
  have h1 := repText_any _ ⟨[exB, exC], true⟩ w0 w ht hb h.slB ex_shortB (by decide)
  rw [show repOk (Rep.mk [exB, exC] true).opts = true from repB_ok, if_pos rfl, if_pos rfl, show textR ⟨[exB, exC], true⟩ = _ from txtB] at h1
  exact h1
def exR : List Rep := [⟨[exA], false⟩, ⟨[exB, exC], true⟩, ⟨[exB, exC], true⟩]
theorem exR_ok : pickOk exR [0, 1, 2] = true := by decide +kernel
theorem exR_pk : pk exR [0, 1, 2] exR.length = [exA, exC] := by decide +kernel
theorem ExW.reps {w : World} {B : Nat} (h : ExW w B) (I : Obj) :
    Reps ((w.alloc (.cells #[.slice (some ⟨B, 0, none⟩) 1 1, .bool false, .slice (some ⟨B + 1 + 1, 0, none⟩) 2 2, .bool true, .slice (some ⟨B + 1 + 1, 0, none⟩) 2 2, .bool true] 31)).alloc I) (.slice (some ⟨w.heap.size, 0, none⟩) 3 3) exR := by
  have h2 := (h.alloc (.cells #[.slice (some ⟨B, 0, none⟩) 1 1, .bool false, .slice (some ⟨B + 1 + 1, 0, none⟩) 2 2, .bool true, .slice (some ⟨B + 1 + 1, 0, none⟩) 2 2, .bool true] 31)).alloc I
  have hR := (Has.new w 31 #[.slice (some ⟨B, 0, none⟩) 1 1, .bool false, .slice (some ⟨B + 1 + 1, 0, none⟩) 2 2, .bool true, .slice (some ⟨B + 1 + 1, 0, none⟩) 2 2, .bool true]).alloc I
  refine ⟨_, 3, rfl, Nat.le_refl _, .inr ⟨w.heap.size, 0, rfl, fun i hi => ?_⟩⟩
  match i, hi with
  | 0, _ => exact ⟨_, hR.cell 0, hR.cell 1, h2.slA⟩
  | 1, _ => exact ⟨_, hR.cell 2, hR.cell 3, h2.slB⟩
  | 2, _ => exact ⟨_, hR.cell 4, hR.cell 5, h2.slB⟩
theorem ex_nums (w : World) (R : Obj) : Sl ((w.alloc R).alloc (.cells #[.int .i64 0, .int .i64 1, .int .i64 2] 3)) (.slice (some ⟨w.heap.size + 1, 0, none⟩) 3 3) [0, 1, 2].length 1 (intF [0, 1, 2]) := by
  have h := Has.new (w.alloc R) 3 #[.int .i64 0, .int .i64 1, .int .i64 2]
  rw [World.size_alloc] at h
  exact Sl.has h (by simp) (fun j hj => by match j, hj with | 0, _ => rfl | 1, _ => rfl | 2, _ => rfl)
theorem exR_short : ∀ r ∈ exR, ∀ e ∈ r.opts, e.short := by
  intro r hr e he
  simp only [exR, List.mem_cons, List.not_mem_nil, or_false] at hr
  rcases hr with rfl | rfl | rfl <;> simp at he
  · subst he; exact ex_short.1
  · rcases he with rfl | rfl; exact ex_short.2.1; exact ex_short.2.2
  · rcases he with rfl | rfl; exact ex_short.2.1; exact ex_short.2.2
theorem ex_picked (w : World) {B : Nat} (h : ExW w B) :
    Calls Tryz.prog 6 #[.slice (some ⟨w.heap.size, 0, none⟩) 3 3, .slice (some ⟨w.heap.size + 1, 0, none⟩) 3 3]
      ((w.alloc (.cells #[.slice (some ⟨B, 0, none⟩) 1 1, .bool false, .slice (some ⟨B + 1 + 1, 0, none⟩) 2 2, .bool true, .slice (some ⟨B + 1 + 1, 0, none⟩) 2 2, .bool true] 31)).alloc (.cells #[.int .i64 0, .int .i64 1, .int .i64 2] 3))
      fun r w' => ∃ g o c, r = .returned (.tuple #[.slice (some ⟨g, o, none⟩) 2 c, .int .i64 0]) ∧ (∀ j, j < 28 → w'.cell? ⟨g, o + j, none⟩ = some (evF [exA, exC] j)) ∧ Below w.heap.size w w' := by
  refine (picked_any _ _ exR [0, 1, 2] _ (h.reps _) (ex_nums w _) (by decide) (by decide) (by decide) exR_short).mono ?_
  rintro e w' ⟨v, l, rfl, hl, hs, hb⟩
  rw [exR_ok, exR_pk] at hl
  simp only [if_true] at hl
  subst hl
  obtain ⟨A, c, rfl, hn, h0 | ⟨g, o, rfl, hc⟩⟩ := hs
  · cases h0
  · exact ⟨g, o, c, by rw [exR_ok]; rfl, hc, (((Below.refl _ _).alloc (Nat.le_refl _) _).alloc (by simp) _).trans (hb.mono (by simp; omega))⟩
/-- The cells that the last test reads, written out. -/
structure ExF (w : World) (B g o : Nat) : Prop where
  a : ∀ i, w.cell? ⟨B, i, none⟩ = (#[.int .i64 1, .int .i64 3, .string ⟨#[97]⟩, .string ⟨#[97, 120, 108, 101]⟩, .string ⟨#[]⟩, .string ⟨#[]⟩, .string ⟨#[]⟩, .string ⟨#[]⟩, .int .i64 0, .int .i64 0, .int .i64 0, .int .i64 0, .int .i64 0, .int .i64 0] : Array Value)[i]?
  b : ∀ i, w.cell? ⟨B + 1, i, none⟩ = (#[.slice (some ⟨B, 0, none⟩) 1 1, .bool false] : Array Value)[i]?
  c : ∀ i, w.cell? ⟨B + 1 + 1, i, none⟩ = (#[.int .i64 3, .int .i64 5, .string ⟨#[97]⟩, .string ⟨#[]⟩, .string ⟨#[]⟩, .string ⟨#[]⟩, .string ⟨#[]⟩, .string ⟨#[]⟩, .int .i64 0, .int .i64 0, .int .i64 0, .int .i64 0, .int .i64 0, .int .i64 0, .int .i64 3, .int .i64 5, .string ⟨#[98]⟩, .string ⟨#[]⟩, .string ⟨#[]⟩, .string ⟨#[]⟩, .string ⟨#[]⟩, .string ⟨#[]⟩, .int .i64 0, .int .i64 0, .int .i64 0, .int .i64 0, .int .i64 0, .int .i64 0] : Array Value)[i]?
  d : ∀ i, w.cell? ⟨B + 1 + 1 + 1, i, none⟩ = (#[.slice (some ⟨B + 1 + 1, 0, none⟩) 2 2, .bool true] : Array Value)[i]?
  e : w.cell? ⟨g, o, none⟩ = some (.int .i64 1)
  f : ∀ i, i < 28 → w.cell? ⟨g, o + i, none⟩ = (#[.int .i64 1, .int .i64 3, .string ⟨#[97]⟩, .string ⟨#[97, 120, 108, 101]⟩, .string ⟨#[]⟩, .string ⟨#[]⟩, .string ⟨#[]⟩, .string ⟨#[]⟩, .int .i64 0, .int .i64 0, .int .i64 0, .int .i64 0, .int .i64 0, .int .i64 0, .int .i64 3, .int .i64 5, .string ⟨#[98]⟩, .string ⟨#[]⟩, .string ⟨#[]⟩, .string ⟨#[]⟩, .string ⟨#[]⟩, .string ⟨#[]⟩, .int .i64 0, .int .i64 0, .int .i64 0, .int .i64 0, .int .i64 0, .int .i64 0] : Array Value)[i]?
theorem ExW.lay {w : World} {B g o : Nat} (h : ExW w B) (hc : ∀ j, j < 28 → w.cell? ⟨g, o + j, none⟩ = some (evF [exA, exC] j)) : ExF w B g o := by
  have hf : ∀ i, i < 28 → w.cell? ⟨g, o + i, none⟩ = (#[.int .i64 1, .int .i64 3, .string ⟨#[97]⟩, .string ⟨#[97, 120, 108, 101]⟩, .string ⟨#[]⟩, .string ⟨#[]⟩, .string ⟨#[]⟩, .string ⟨#[]⟩, .int .i64 0, .int .i64 0, .int .i64 0, .int .i64 0, .int .i64 0, .int .i64 0, .int .i64 3, .int .i64 5, .string ⟨#[98]⟩, .string ⟨#[]⟩, .string ⟨#[]⟩, .string ⟨#[]⟩, .string ⟨#[]⟩, .string ⟨#[]⟩, .int .i64 0, .int .i64 0, .int .i64 0, .int .i64 0, .int .i64 0, .int .i64 0] : Array Value)[i]? := fun i hi => by
    rw [hc i hi, ← evCells_at [exA, exC] i hi, ← List.getElem?_toArray]; rfl
  exact ⟨fun i => h.a.cell i, fun i => h.b.cell i, fun i => h.c.cell i, fun i => h.d.cell i, hf 0 (by omega), hf⟩
theorem numA : numC [exA] false = 1 := by decide +kernel
theorem numB : numC [exB, exC] true = 3 := by decide +kernel
theorem ex_choA (w : World) {B : Nat} (h : ExW w B) : Calls Tryz.prog 16 #[.agg #[.slice (some ⟨B, 0, none⟩) 1 1, .bool false]] w fun r w' => r = .returned (.int .i64 1) ∧ Below w.heap.size w w' :=
  (choices_any _ [exA] false w h.slA (fun e he => by obtain rfl := List.mem_singleton.1 he; exact ex_short.1) (by decide)).mono fun r w' ⟨h1, h2⟩ => ⟨by rw [h1, numA]; rfl, h2⟩
theorem ex_choB (w : World) {B : Nat} (h : ExW w B) : Calls Tryz.prog 16 #[.agg #[.slice (some ⟨B + 1 + 1, 0, none⟩) 2 2, .bool true]] w fun r w' => r = .returned (.int .i64 3) ∧ Below w.heap.size w w' :=
  (choices_any _ [exB, exC] true w h.slB (fun e he => by rcases List.mem_cons.1 he with rfl | he; exact ex_short.2.1; obtain rfl := List.mem_singleton.1 he; exact ex_short.2.2) (by decide)).mono fun r w' ⟨h1, h2⟩ => ⟨by rw [h1, numB]; rfl, h2⟩
set_option maxRecDepth 100000 in
set_option maxHeartbeats 4000000 in
theorem head_any (w0 : World) (ht : Tab w0) (w : World) (hb0 : Below w0.heap.size w0 w) : Calls Tryz.prog 4 #[] w fun r w' => r = .returned (.bool true) ∧ Below w.heap.size w w' := by
  have HB0 : Hid (∀ {W : World}, Below w.heap.size w W → Below w0.heap.size w0 W) := fun hb => hb0.trans (hb.mono hb0.size)
  have HX := Lib.hid (ExW.new w)
  have HB : Hid (Below w.heap.size w ((((w.alloc (.cells exA.cells 49)).alloc (.cells #[.slice (some ⟨w.heap.size, 0, none⟩) 1 1, .bool false] 31)).alloc (.cells (evCells [exB, exC]).toArray 49)).alloc (.cells #[.slice (some ⟨w.heap.size + 1 + 1, 0, none⟩) 2 2, .bool true] 31))) := (((((Below.refl _ _).alloc (Nat.le_refl _) _).alloc (by simp) _).alloc (by simp; omega) _).alloc (by simp; omega) _)
  go_enter Tryz.func4, Tryz.ntmps4
  go_wp2_with fail
  refine (ex_txtA w0 ht _ (HB0.out HB.out) HX.out).mono ?_
  rintro e w1 ⟨rfl, hb1⟩
  have hx1 := HX.out.below hb1
  have HB1 := Lib.hid (HB.out.trans (hb1.mono HB.out.size))
  have hz1 := hx1.d.lt
  obtain ⟨p1, _⟩ := hx1.b.facts
  obtain ⟨p2, _⟩ := hx1.d.facts
  have HX1 := Lib.hid hx1
  clear hb1 hx1 HX HB
  go_wp2_with fail
  refine (ex_txtB w0 ht _ (HB0.out HB1.out) HX1.out).mono ?_
  rintro e w2 ⟨rfl, hb2⟩
  have hx2 := HX1.out.below hb2
  have HB2 := Lib.hid (HB1.out.trans (hb2.mono HB1.out.size))
  have hz2 := hx2.d.lt
  obtain ⟨q1, _⟩ := hx2.b.facts
  obtain ⟨q2, _⟩ := hx2.d.facts
  have HX2 := Lib.hid hx2
  clear hb2 hx2 HX1 HB1 p1 p2 hz1
  go_wp2_with fail
  refine (ex_picked _ HX2.out).mono ?_
  rintro e w3 ⟨g, o, c, rfl, hc3, hb3⟩
  have hx3 := HX2.out.below hb3
  have HB3 := Lib.hid (HB2.out.trans (hb3.mono HB2.out.size))
  obtain ⟨fa, fb, fc, fd, fe, ff⟩ := hx3.lay hc3
  have HX3 := Lib.hid hx3
  have HC3 := Lib.hid hc3
  clear hb3 hx3 HX2 HB2 q1 q2 hz2 hc3
  have hE1 : evEq ⟨1, 3, ⟨#[97]⟩, ⟨#[97, 120, 108, 101]⟩, ⟨#[]⟩, ⟨#[]⟩, ⟨#[]⟩, ⟨#[]⟩, 0, 0, 0, 0, 0, 0⟩ ⟨1, 3, ⟨#[97]⟩, ⟨#[97, 120, 108, 101]⟩, ⟨#[]⟩, ⟨#[]⟩, ⟨#[]⟩, ⟨#[]⟩, 0, 0, 0, 0, 0, 0⟩ = true := by decide +kernel
  have hE2 : evEq ⟨3, 5, ⟨#[98]⟩, ⟨#[]⟩, ⟨#[]⟩, ⟨#[]⟩, ⟨#[]⟩, ⟨#[]⟩, 0, 0, 0, 0, 0, 0⟩ ⟨3, 5, ⟨#[98]⟩, ⟨#[]⟩, ⟨#[]⟩, ⟨#[]⟩, ⟨#[]⟩, ⟨#[]⟩, 0, 0, 0, 0, 0, 0⟩ = true := by decide +kernel
  go_wp2_with fail
  go_region_with (first | (go_at_call_of 16 (Value.bool false); refine (ex_choA _ ?_).mono ?_; exact ⟨HX3.out.a, HX3.out.b, HX3.out.c, HX3.out.d⟩; rintro e w4 ⟨rfl, hb4⟩; have hb4 : Below w3.heap.size w3 w4 := ⟨hb4.os, hb4.tape, hb4.output, hb4.size, hb4.block⟩; have HX4 := Lib.hid (HX3.out.below hb4); have HB4 := Lib.hid (HB3.out.trans (hb4.mono HB3.out.size)); have HC4 := Lib.hid (fun j hj => cell_later hb4 (HC3.out j hj)); obtain ⟨fa4, fb4, fc4, fd4, fe4, ff4⟩ := HX4.out.lay HC4.out; clear hb4) | (go_at_call_of 16 (Value.bool true); refine (ex_choB _ ?_).mono ?_; exact ⟨HX4.out.a, HX4.out.b, HX4.out.c, HX4.out.d⟩; rintro e w5 ⟨rfl, hb5⟩; have hb5 : Below w4.heap.size w4 w5 := ⟨hb5.os, hb5.tape, hb5.output, hb5.size, hb5.block⟩; have HX5 := Lib.hid (HX4.out.below hb5); have HB5 := Lib.hid (HB4.out.trans (hb5.mono HB4.out.size)); have HC5 := Lib.hid (fun j hj => cell_later hb5 (HC4.out j hj)); obtain ⟨fa5, fb5, fc5, fd5, fe5, ff5⟩ := HX5.out.lay HC5.out; clear hb5))
  any_goals (clear HX3 HC3 HX4 HC4 HX5 HC5 fa fb fc fd fe ff fa4 fb4 fc4 fd4 fe4 ff4 fa5 fb5 fc5 fd5 fe5 ff5)
  all_goals clear hE1 hE2
  all_goals (try go_wp2_with fail)
  all_goals first | (go_ret; exact ⟨rfl, HB5.out⟩) | (go_ret; exact ⟨rfl, below_drewN HB5.out 1⟩)
end Go.Proofs.YtjlpllnhefafkaaGreatDoor
