/- The parser of rules in memory: its object, its tokens, what a call leaves. No condition. checker.most: the greatest number of parts of a kind inside a part of another one. Condition: the checker lies in memory, over a valid catalog. typing.must: it stops with an error, unless a condition holds. No condition. life.Is: the names of currencies. No condition. The slot with a name, as typing looks for it. Condition: the slots lie in memory, and the condition's node in its block. The parser's small steps: (*parser).fail and (*parser).skip. Condition: the object lies in memory. The parser's (*parser).want of one word. Condition: the object lies in memory. strconv.Atoi at every text. Condition: the two error variables hold something. The parser's (*parser).next with whatever check; name and number. Condition: the object lies in memory. The parser's name and number. Condition: the object lies in memory; the two error variables of strconv hold something. Arguments opened: rules, with conditions as trees. No condition. -/
import Derived.BigQuiet
import Derived.Carry
import Derived.Deep.Slices
import Derived.ProofKit
import Derived.WalkSmall
import Derived.Test.YtcpakaiblelmlaaGreatDoorU01
import Derived.Test.YtcpakaiblelmlaaGreatDoorU02
import Derived.Test.YtcpakaiblelmlaaGreatDoorU04
namespace Go.Proofs.YtcpakaiblelmlaaGreatDoor
open Go Go.RowKit
/-- All blocks but g and b stay. -/
def Aw (g b : Nat) (w w' : World) : Prop := w'.os = w.os ∧ w'.tape = w.tape ∧ w'.output = w.output ∧ w.heap.size ≤ w'.heap.size ∧ ∀ k, k < w.heap.size → k ≠ g → k ≠ b → w'.heap[k]? = w.heap[k]?
theorem Aw.refl (g b : Nat) (w : World) : Aw g b w w := ⟨rfl, rfl, rfl, Nat.le_refl _, fun _ _ _ _ => rfl⟩
theorem Aw.trans {g b : Nat} {u v w : World} (h : Aw g b u v) (h' : Aw g b v w) : Aw g b u w :=
  ⟨h'.1.trans h.1, h'.2.1.trans h.2.1, h'.2.2.1.trans h.2.2.1, Nat.le_trans h.2.2.2.1 h'.2.2.2.1, fun k hk h1 h2 => (h'.2.2.2.2 k (Nat.lt_of_lt_of_le hk h.2.2.2.1) h1 h2).trans (h.2.2.2.2 k hk h1 h2)⟩
theorem Aw.of_below {g b : Nat} {w w' : World} (h : Below w.heap.size w w') : Aw g b w w' := ⟨h.os, h.tape, h.output, h.size, fun k hk _ _ => h.block k hk⟩
theorem Aw.alloc {g b : Nat} {u w : World} (h : Aw g b u w) (o : Obj) : Aw g b u (w.alloc o) := h.trans (.of_below ((Below.refl _ _).alloc (Nat.le_refl _) o))
theorem Aw.drew {g b : Nat} {u w : World} (h : Aw g b u w) : Aw g b u w.drew := h
theorem Aw.set {g b : Nat} {u w : World} (h : Aw g b u w) (k i : Nat) (hk : k = g ∨ k = b ∨ u.heap.size ≤ k) (v : Value) : Aw g b u (w.setCell ⟨k, i, none⟩ v) :=
  ⟨h.1, h.2.1, h.2.2.1, by rw [World.size_setCell]; exact h.2.2.2.1, fun j hj h1 h2 => (heap_setCell_other w ⟨k, i, none⟩ j v (by intro e; have e : j = k := e; omega)).trans (h.2.2.2.2 j hj h1 h2)⟩
/-- What is done to a new block counts as nothing. -/
theorem Aw.fresh {g b c : Nat} {u v w : World} (h : Aw g g u v) (h' : Aw g c v w) (hc : u.heap.size ≤ c) : Aw g b u w :=
  ⟨h'.1.trans h.1, h'.2.1.trans h.2.1, h'.2.2.1.trans h.2.2.1, Nat.le_trans h.2.2.2.1 h'.2.2.2.1, fun k hk h1 h2 => (h'.2.2.2.2 k (Nat.lt_of_lt_of_le hk h.2.2.2.1) h1 (by omega)).trans (h.2.2.2.2 k hk h1 h1)⟩
theorem Aw.one {g b : Nat} {u v : World} (h : Aw g g u v) : Aw g b u v := ⟨h.1, h.2.1, h.2.2.1, h.2.2.2.1, fun k hk h1 _ => h.2.2.2.2 k hk h1 h1⟩
theorem Aw.below {g b : Nat} {w0 u v : World} (hb : Below w0.heap.size w0 u) (h : Aw g b u v) (hg : w0.heap.size ≤ g) (hb' : w0.heap.size ≤ b) : Below w0.heap.size w0 v :=
  ⟨h.1.trans hb.os, h.2.1.trans hb.tape, h.2.2.1.trans hb.output, Nat.le_trans hb.size h.2.2.2.1, fun k hk => (h.2.2.2.2 k (Nat.lt_of_lt_of_le hk hb.size) (by omega) (by omega)).trans (hb.block k hk)⟩
theorem Has.aw {g b k t : Nat} {cs : Array Value} {u v : World} (h : Has u k t cs) (ha : Aw g b u v) (h1 : k ≠ g) (h2 : k ≠ b) : Has v k t cs := (ha.2.2.2.2 k h.lt h1 h2).trans h
/-- A block with at most two cells. -/
def Small (w : World) (g : Nat) : Prop := ∀ o v, 2 ≤ o → w.cell? ⟨g, o, none⟩ = some v → False
theorem Has.small {w : World} {g t : Nat} {cs : Array Value} (h : Has w g t cs) (hs : cs.size ≤ 2) : Small w g := fun o v ho hv => by
  rw [h.cell o, Array.getElem?_eq_none (by omega)] at hv; cases hv
theorem KeepsC.aw {g b : Nat} {u v : World} (h : Aw g b u v) (hg : Small u g) (hb : Small u b) : KeepsC u v := fun k ⟨o, x, ho, hx⟩ j => by
  have hk := cell_size hx
  have h1 : k ≠ g := fun e => by subst e; exact hg o x ho hx
  have h2 : k ≠ b := fun e => by subst e; exact hb o x ho hx
  unfold World.cell?
  show (match v.heap[k]? with | _ => _) = (match u.heap[k]? with | _ => _)
  rw [h.2.2.2.2 k hk h1 h2]
/-- The cells of token i. -/
def tokAt (l : List Fnd) (i : Nat) : Fnd := l.getD i ⟨0, ⟨#[]⟩, 0, 0⟩
/-- A slice that reads as tokens, in a block ahead of g. -/
def Tl (g : Nat) (w : World) (v : Value) (l : List Fnd) : Prop :=
  (∀ t ∈ l, t.text.size ≤ 1000000) ∧ ∃ A c, v = .slice A l.length c ∧ l.length ≤ c ∧ c ≤ 9223372036854775807 ∧ (l = [] ∨ ∃ b o, A = some ⟨b, o, none⟩ ∧ b < g ∧ ∀ i, i < l.length →
    w.cell? ⟨b, o + i * 3, none⟩ = some (.int .i64 (tokAt l i).kind) ∧ w.cell? ⟨b, o + i * 3 + 1, none⟩ = some (.string (tokAt l i).text) ∧ w.cell? ⟨b, o + i * 3 + 2, none⟩ = some (.int .i64 (tokAt l i).pos))
theorem Tl.keeps {g : Nat} {w w' : World} {v : Value} {l : List Fnd} (h : Tl g w v l) (hk : KeepsC w w') : Tl g w' v l := by
  obtain ⟨hz, A, c, e, h1, h2, h3⟩ := h
  refine ⟨hz, A, c, e, h1, h2, h3.imp id fun ⟨b, o, e, hg, hh⟩ => ⟨b, o, e, hg, fun i hi => ?_⟩⟩
  have hb := hk b ⟨_, _, by omega, (hh i hi).2.2⟩
  obtain ⟨a1, a2, a3⟩ := hh i hi
  exact ⟨(hb _).trans a1, (hb _).trans a2, (hb _).trans a3⟩
/-- The parser's object: the tokens still to come, and the text's end. -/
def Par (w : World) (g : Nat) (E : Int) (l : List Fnd) : Prop := ∃ v, Has w g 114 #[v, .int .i64 E] ∧ Tl g w v l
theorem Par.small {w : World} {g : Nat} {E : Int} {l : List Fnd} (h : Par w g E l) : Small w g := by
  obtain ⟨v, h1, _⟩ := h
  exact h1.small (Nat.le_refl 2)
theorem Par.lt {w : World} {g : Nat} {E : Int} {l : List Fnd} (h : Par w g E l) : g < w.heap.size := by
  obtain ⟨v, h1, _⟩ := h
  exact h1.lt
theorem Par.below {w w' : World} {g : Nat} {E : Int} {l : List Fnd} (h : Par w g E l) (hb : Below w.heap.size w w') : Par w' g E l := by
  obtain ⟨v, h1, h2⟩ := h
  exact ⟨v, h1.below hb h1.lt, h2.keeps (.below hb)⟩
/-- The object stays where the blocks up to it stay. -/
theorem Par.on {w w' : World} {g : Nat} {E : Int} {l : List Fnd} (h : Par w g E l) (hk : ∀ b, b ≤ g → w'.heap[b]? = w.heap[b]?) : Par w' g E l := by
  obtain ⟨v, h1, hz, A, c, e, h2, h3, h4⟩ := h
  refine ⟨v, (hk g (Nat.le_refl _)).trans h1, hz, A, c, e, h2, h3, h4.imp id fun ⟨b, o, e, hg, hh⟩ => ⟨b, o, e, hg, fun i hi => ?_⟩⟩
  have hc : ∀ j, w'.cell? ⟨b, j, none⟩ = w.cell? ⟨b, j, none⟩ := fun j => by
    unfold World.cell?
    show (match w'.heap[b]? with | _ => _) = (match w.heap[b]? with | _ => _)
    rw [hk b (Nat.le_of_lt hg)]
  obtain ⟨a1, a2, a3⟩ := hh i hi
  exact ⟨(hc _).trans a1, (hc _).trans a2, (hc _).trans a3⟩
/-- The object taken apart. -/
theorem Par.nil {w : World} {g : Nat} {E : Int} (h : Par w g E []) : ∃ A c, Has w g 114 #[.slice A 0 c, .int .i64 E] ∧ c ≤ 9223372036854775807 := by
  obtain ⟨v, h1, _, A, c, rfl, _, h3, _⟩ := h
  exact ⟨A, c, h1, h3⟩
theorem Par.cons {w : World} {g : Nat} {E : Int} {t : Fnd} {r : List Fnd} (h : Par w g E (t :: r)) : ∃ b o c, Has w g 114 #[.slice (some ⟨b, o, none⟩) (r.length + 1) c, .int .i64 E] ∧ r.length + 1 ≤ c ∧ c ≤ 9223372036854775807 ∧ t.text.size ≤ 1000000 ∧
    w.cell? ⟨b, o, none⟩ = some (.int .i64 t.kind) ∧ w.cell? ⟨b, o + 1, none⟩ = some (.string t.text) ∧ w.cell? ⟨b, o + 2, none⟩ = some (.int .i64 t.pos) ∧
    (∀ w', KeepsC w w' → Has w' g 114 #[.slice (some ⟨b, o + 3, none⟩) r.length (c - 1), .int .i64 E] → Par w' g E r) := by
  obtain ⟨v, h1, hz, A, c, rfl, h2, h3, h4⟩ := h
  rcases h4 with h4 | ⟨b, o, rfl, hbg, h4⟩
  · cases h4
  · have h40 := h4 0 (by simp)
    rw [show tokAt (t :: r) 0 = t from rfl] at h40
    rw [List.length_cons] at h2
    refine ⟨b, o, c, h1, h2, h3, hz t (List.mem_cons_self ..), by simpa using h40.1, by simpa using h40.2.1, by simpa using h40.2.2, fun w' hk hh => ⟨_, hh, fun x hx => hz x (List.mem_cons_of_mem _ hx), _, _, rfl, by omega, by omega, .inr ⟨b, o + 3, rfl, hbg, fun i hi => ?_⟩⟩⟩
    have h := h4 (i + 1) (by rw [List.length_cons]; omega)
    have hb := hk b ⟨_, _, by omega, h.2.2⟩
    have e : o + 3 + i * 3 = o + (i + 1) * 3 := by omega
    rw [e]
    exact ⟨(hb _).trans h.1, (hb _).trans h.2.1, (hb _).trans h.2.2⟩
/-- The failure that a reading ends with. -/
abbrev failV (e a : Int) : Ending := .panicked [{ v := .iface 111 (.agg #[.int .i64 e, .int .i64 a]), recovered := false }]
/-- What a reading leaves: a failure, or a thing and the tokens behind it; nothing but the object turns. -/
def Rd {α : Type} (R : World → Value → α → Prop) (w : World) (g : Nat) (E : Int) (q : Got α) (e : Ending) (w' : World) : Prop :=
  Aw g g w w' ∧ match q with
    | .bad er a => e = failV er a
    | .ok x r => (∃ v, e = .returned v ∧ R w' v x) ∧ Par w' g E r
end Go.Proofs.YtcpakaiblelmlaaGreatDoor
namespace Go.Proofs.YtcpakaiblelmlaaGreatDoor
open Go Go.RowKit
/-- The checker in memory: the catalog, and what is known. -/
structure Ck (w0 : World) (cv : Value) (c : List Kd) (x g : Nat) (m : List ((ByteArray × ByteArray) × Value)) (W : World) : Prop where
  obj : Has W x 56 #[cv, .map (some g)]
  mp : Mp W pairEnc g m
  inv : ∀ p ∈ m, p.2 = .int .i64 (mostP c p.1.1 p.1.2)
  ne : x ≠ g
  b0 : Below w0.heap.size w0 W
  hx : w0.heap.size ≤ x
  hg : w0.heap.size ≤ g
theorem mget_mem {α : Type} [DecidableEq α] {m : List (α × Value)} {a : α} {v : Value} (h : mget m a = some v) : (a, v) ∈ m := by
  unfold mget at h
  cases hq : m.find? (fun p => decide (p.1 = a)) with
  | none => rw [hq] at h; cases h
  | some p =>
    rw [hq] at h
    have h1 := List.mem_of_find?_eq_some hq
    have h2 : p.1 = a := by have h3 := List.find?_some (p := fun p : α × Value => decide (p.1 = a)) hq; exact of_decide_eq_true h3
    injection h with h
    subst h
    subst h2
    exact h1
theorem mput_mem {α : Type} [DecidableEq α] {m : List (α × Value)} {a : α} {v : Value} {p : α × Value} (h : p ∈ mput m a v) : p ∈ m ∨ p = (a, v) := by
  unfold mput at h
  split at h
  · exact (List.mem_or_eq_of_mem_set h).imp id id
  · rcases List.mem_append.1 h with h | h
    · exact .inl h
    · exact .inr (List.mem_singleton.1 h)
section
variable {w0 W W' : World} {cv : Value} {c : List Kd} {x g : Nat} {m : List ((ByteArray × ByteArray) × Value)}
theorem Ck.get (h : Ck w0 cv c x g m W) {k o : ByteArray} {v : Value} (hm : mget m (k, o) = some v) : v = .int .i64 (mostP c k o) := h.inv _ (mget_mem hm)
theorem Ck.below (h : Ck w0 cv c x g m W) (hb : Below W.heap.size W W') : Ck w0 cv c x g m W' := ⟨h.obj.below hb h.obj.lt, h.mp.below hb h.mp.lt, h.inv, h.ne, h.b0.trans (hb.mono h.b0.size), h.hx, h.hg⟩
theorem Ck.alloc (h : Ck w0 cv c x g m W) (o : Obj) : Ck w0 cv c x g m (W.alloc o) := h.below ((Below.refl _ _).alloc (Nat.le_refl _) _)
theorem zero_intV (w : World) : (zeroValue 3).run Tryz.prog w = .ok (.int .i64 0) w := by kernel_rfl
set_option maxRecDepth 100000 in
set_option maxHeartbeats 8000000 in
theorem most_hit (h : Ck w0 cv c x g m W) (kind other : ByteArray) {v : Value} (hm : mget m (kind, other) = some v) :
    Calls Tryz.prog 52 #[.pointer (some ⟨x, 0, none⟩), .string kind, .string other] W fun r w' => r = .returned (.int .i64 (mostP c kind other)) ∧ Below W.heap.size W w' := by
  have hL := run_look pair_keying Tryz.underlying54 (show Mp (W.alloc (.cells #[.string kind, .string other] 119)).drew pairEnc g m from h.mp.alloc _) (kind, other) (zero_intV _) true
  rw [hm, h.get hm] at hL
  obtain ⟨d1, f1⟩ := (h.obj.alloc (.cells #[.string kind, .string other] 119)).facts
  obtain ⟨d2, f2⟩ := (Has.new W 119 #[.string kind, .string other]).facts
  have HB := Lib.hid (show Below W.heap.size W (W.alloc (.cells #[.string kind, .string other] 119)) from (Below.refl _ _).alloc (Nat.le_refl _) _)
  simp only [pairEnc] at hL
  clear h hm
  generalize mostP c kind other = mv at *
  go_enter Tryz.func52, Tryz.ntmps52
  go_wp2_with fail
  go_region
  go_wp2_with fail
  go_ret
  exact ⟨rfl, HB.out.drew⟩
theorem Ck.aw (h : Ck w0 cv c x g m W) {m' : List ((ByteArray × ByteArray) × Value)} (ha : Aw g g W W') (hm : Mp W' pairEnc g m') (hi : ∀ p ∈ m', p.2 = .int .i64 (mostP c p.1.1 p.1.2)) : Ck w0 cv c x g m' W' :=
  ⟨h.obj.aw ha h.ne h.ne, hm, hi, h.ne, ha.below h.b0 h.hg h.hg, h.hx, h.hg⟩
/-- What stays while the number is computed: the key in its block. -/
structure Mk (w0 : World) (cv : Value) (c : List Kd) (x g : Nat) (kind other : ByteArray) (W wr : World) : Prop where
  ck : ∃ m, Ck w0 cv c x g m wr
  aw : Aw g g W wr
  key : Has wr W.heap.size 119 #[.string kind, .string other]
  hg : g < W.heap.size
theorem Mk.below {kind other : ByteArray} {wr w' : World} (h : Mk w0 cv c x g kind other W wr) (hb : Below wr.heap.size wr w') : Mk w0 cv c x g kind other W w' := by
  obtain ⟨m, hm⟩ := h.ck
  exact ⟨⟨m, hm.below hb⟩, h.aw.trans (.of_below hb), h.key.below hb h.key.lt, h.hg⟩
theorem Mk.call {kind other : ByteArray} {wr w' : World} (h : Mk w0 cv c x g kind other W wr) (ha : Aw g g wr w') (hc : ∃ m, Ck w0 cv c x g m w') : Mk w0 cv c x g kind other W w' :=
  ⟨hc, h.aw.trans ha, h.key.aw ha (by have := h.hg; omega) (by have := h.hg; omega), h.hg⟩
set_option maxRecDepth 100000 in
set_option maxHeartbeats 8000000 in
theorem most_miss (hcv : Cat w0 cv c) (hcat : catB c = true) (hl : c.length ≤ 100000) (hsh : ∀ k ∈ c, k.short) (kind other : ByteArray)
    (hone : ∀ (y : ByteArray) (wr : World) (m' : List ((ByteArray × ByteArray) × Value)), kix c y < kix c kind → Ck w0 cv c x g m' wr → Calls Tryz.prog 52 #[.pointer (some ⟨x, 0, none⟩), .string y, .string other] wr fun r w' => r = .returned (.int .i64 (mostP c y other)) ∧ Aw g g wr w' ∧ ∃ m', Ck w0 cv c x g m' w')
    (h : Ck w0 cv c x g m W) (hm : mget m (kind, other) = none) :
    Calls Tryz.prog 52 #[.pointer (some ⟨x, 0, none⟩), .string kind, .string other] W fun r w' => r = .returned (.int .i64 (mostP c kind other)) ∧ Aw g g W w' ∧ ∃ m', Ck w0 cv c x g m' w' := by
  have hL := run_look pair_keying Tryz.underlying54 (show Mp (W.alloc (.cells #[.string kind, .string other] 119)).drew pairEnc g m from h.mp.alloc _) (kind, other) (zero_intV _) true
  rw [hm] at hL
  obtain ⟨d1, f1⟩ := (h.obj.alloc (.cells #[.string kind, .string other] 119)).facts
  obtain ⟨d2, f2⟩ := (Has.new W 119 #[.string kind, .string other]).facts
  simp only [pairEnc] at hL
  have HM1 := Lib.hid (show Mk w0 cv c x g kind other W (W.alloc (.cells #[.string kind, .string other] 119)).drew from ⟨⟨m, (h.alloc _).below (Below.refl _ _).drew⟩, ((Aw.refl _ _ _).alloc _).drew, (Has.new W 119 #[.string kind, .string other]).drew, h.mp.lt⟩)
  have HFD := Lib.hid (fun (w : World) (hb : Below w0.heap.size w0 w) => find_any w0 cv c kind w hb hcv hl)
  have HSL := Lib.hid (show ((kfind c kind).getD noKd).slots = kSlots c kind from rfl)
  have HEQ := Lib.hid (mostP_eq hcat kind other)
  have HLT := Lib.hid (fun (s : Sk) (y : ByteArray) (hs : s ∈ kSlots c kind) (hy : y ∈ s.kinds) => (slot_lt hcat hs hy).1)
  have HRG := Lib.hid (fun y => mostP_range c y other)
  have HO := Lib.hid hone
  have HSH := Lib.hid (show ∀ s ∈ kSlots c kind, s.short from (kfind_short hsh kind).2.2)
  have HSN := Lib.hid (show (kSlots c kind).length ≤ 100000 from (kfind_short hsh kind).2.1)
  clear h hm hone hcat hl hsh hcv
  go_enter Tryz.func52, Tryz.ntmps52
  go_wp2_with fail
  go_region
  change Exit.then _ _ _ _ (W.alloc (.cells #[.string kind, .string other] 119)).drew
  generalize (W.alloc (.cells #[.string kind, .string other] 119)).drew = w1 at *
  clear hL d1 f1 d2 f2
  obtain ⟨m1, hc1⟩ := HM1.out.ck
  obtain ⟨d1, f1⟩ := hc1.obj.facts
  have HB1 := Lib.hid hc1.b0
  clear hc1
  go_wp2_with (go_at_call 14; refine (HFD.out _ HB1.out).mono ?_; rintro e w2 ⟨A2, c2, rfl, hrd, hb⟩; rw [HSL.out] at hrd; have HRd := Lib.hid hrd; have HM2 := Lib.hid (HM1.out.below hb); clear hb hrd)
  have HM3 := Lib.hid (HM2.out.below ((Below.refl _ _).alloc (Nat.le_refl _) (.cells #[.string ((kfind c kind).getD noKd).name, .bool ((kfind c kind).getD noKd).veh, .slice A2 (kSlots c kind).length c2] 38)))
  have hlen : ((kfind c kind).getD noKd).slots.length = (kSlots c kind).length := rfl
  rw [hlen] at *
  clear hlen HFD HM1 HM2 HB1 HSL d1 f1
  generalize ((kfind c kind).getD noKd).name = kn at *
  generalize ((kfind c kind).getD noKd).veh = kb at *
  generalize kSlots c kind = S at *
  generalize (w2.alloc (.cells #[.string kn, .bool kb, .slice A2 S.length c2] 38)) = w3 at *
  go_loopw [10, 45] (fun v i wr => ∃ k : Nat, i = .int .i64 k ∧ v = .int .i64 (sumF (fun y => mostP c y other) other (S.take k)) ∧ k ≤ S.length ∧ Hid (Mk w0 cv c x g kind other W wr)) (fun _ i _ => S.length - (intOf i).toNat)
  case atStart => exact ⟨0, rfl, rfl, Nat.zero_le _, HM3⟩
  case round =>
    obtain ⟨k, rfl, rfl, hk, HMr⟩ := hrel
    clear HM3
    by_cases hlt : k < S.length
    · have hki : (k : Int) < (S.length : Int) := by omega
      have hm2 := HSH.out _ (getD_mem S k noSk hlt)
      have hmem := getD_mem S k noSk hlt
      have HTK := Lib.hid (show sumF (fun y => mostP c y other) other (S.take (k + 1)) = min (sumF (fun y => mostP c y other) other (S.take k) + bestF (fun y => mostP c y other) other (S.getD k noSk).kinds) 10000000 by rw [take_getD S k noSk hlt, sumF_snoc])
      obtain ⟨b, o, cc, cs, he, _, ⟨sv, rfl, hsv⟩, _, hrg⟩ := HRd.out.get hlt noSk
      injection he with e1 e2 e3
      subst e1
      subst e3
      obtain ⟨mr, hcr⟩ := HMr.out.ck
      have hrg' := range_later hrg hcr.b0
      have HLs := Lib.hid (fun y (hy : y ∈ (S.getD k noSk).kinds) => HLT.out _ y hmem hy)
      have HSS := Lib.hid (sumF_range (f := fun y => mostP c y other) HRG.out other (S.take k))
      clear hrg hcr
      generalize S.getD k noSk = s at *
      obtain ⟨sn, ks, nm⟩ := s
      obtain ⟨_, hkl, _⟩ := hm2
      obtain ⟨A4, c4, rfl, hn4, hc4⟩ := hsv
      have HC4 := Lib.hid hc4
      clear hc4 hmem e2
      dsimp only at *
      generalize sumF (fun y => mostP c y other) other (S.take k) = sk at *
      go_wp2_with ((with_reducible show wpList _ _ _ (Oper.mk (some 48) _ _ _ _ _ :: _) _ _); refine wpList_load_mid rfl 60 _ rfl b (o + k * 3) rfl _ _ hrg' Tryz.underlying60 rfl rfl ?_)
      have HM4 := Lib.hid (HMr.out.below ((Below.refl _ _).alloc (Nat.le_refl _) (.cells #[.string sn, .slice A4 ks.length c4, .int .i64 nm] 60)))
      generalize (wr.alloc (.cells #[.string sn, .slice A4 ks.length c4, .int .i64 nm] 60)) = w4 at *
      clear HMr hrg'
      go_loopw [15, 52] (fun v i wq => ∃ n : Nat, i = .int .i64 n ∧ v = .int .i64 (bestF (fun y => mostP c y other) other (ks.take n)) ∧ n ≤ ks.length ∧ Hid (Mk w0 cv c x g kind other W wq)) (fun _ i _ => ks.length - (intOf i).toNat)
      case atStart => exact ⟨0, rfl, rfl, Nat.zero_le _, HM4⟩
      case round =>
        obtain ⟨n, rfl, rfl, hn, HMq⟩ := hrel
        clear HM4
        have HBR := Lib.hid (bestF_range (f := fun y => mostP c y other) HRG.out other (ks.take n))
        by_cases hlt2 : n < ks.length
        · have hki2 : (n : Int) < (ks.length : Int) := by omega
          have hmem := getD_mem ks n ByteArray.empty hlt2
          have HBK := Lib.hid (show bestF (fun y => mostP c y other) other (ks.take (n + 1)) = max (bestF (fun y => mostP c y other) other (ks.take n)) (mostP c (ks.getD n ByteArray.empty) other + if ks.getD n ByteArray.empty = other then 1 else 0) by rw [take_getD ks n ByteArray.empty hlt2, bestF_snoc])
          obtain ⟨mq, hcq⟩ := HMq.out.ck
          obtain ⟨b4, o4, rfl, hc4⟩ : ∃ b4 o4, A4 = some ⟨b4, o4, none⟩ ∧ ∀ j, j < ks.length * 1 → w0.cell? ⟨b4, o4 + j, none⟩ = some (strF ks j) := HC4.out.resolve_left (by omega)
          have hce : _ = some (Value.string (ks.getD n ByteArray.empty)) := cell_later hcq.b0 (hc4 n (by omega))
          have HCQ := Lib.hid hcq
          have HLy := Lib.hid (HLs.out _ hmem)
          have HRy := HRG.out (ks.getD n ByteArray.empty)
          clear hcq hc4 hmem
          generalize ks.getD n ByteArray.empty = y at *
          have HOy := Lib.hid (HO.out y _ mq HLy.out HCQ.out)
          generalize mostP c y other = my at *
          generalize bestF (fun y => mostP c y other) other (ks.take n) = bk at *
          have hs3 : IntKind.i64.wrap (my + 1) = my + 1 := IntWalk.i64_in _ (by omega)
          have hs4 : IntKind.i64.wrap ((n : Int) + 1) = (n : Int) + 1 := IntWalk.i64_in _ (by omega)
          by_cases hyo : y = other
          · subst hyo
            go_wp2_with (go_at_call 52; refine HOy.out.mono ?_; rintro e w5 ⟨rfl, ha, hc⟩; have HM5 := Lib.hid (HMq.out.call ha hc); clear ha hc)
            go_roundw
            case rel => exact ⟨n + 1, by go_num, by rw [HBK.out]; simp, hlt2, HM5⟩
            case measure => simp [intOf]; omega
          · have hne1 : ¬ y.toList = other.toList := fun h => hyo (by rw [Lib.toList_data, Lib.toList_data] at h; cases y; cases other; simpa using h)
            have hne2 : (y.toList == other.toList) = false := by simpa using hne1
            go_wp2_with (go_at_call 52; refine HOy.out.mono ?_; rintro e w5 ⟨rfl, ha, hc⟩; have HM5 := Lib.hid (HMq.out.call ha hc); clear ha hc)
            go_roundw
            case rel => exact ⟨n + 1, by go_num, by rw [HBK.out, if_neg hyo, Int.add_zero], hlt2, HM5⟩
            case measure => simp [intOf]; omega
        · have hki2 : ¬ (n : Int) < (ks.length : Int) := by omega
          obtain rfl : n = ks.length := by omega
          rw [List.take_length] at *
          have hbr := HBR.out
          have hsr := HSS.out
          have HTK2 := HTK.out
          generalize bestF (fun y => mostP c y other) other ks = bk at *
          have hs5 : IntKind.i64.wrap (sk + bk) = sk + bk := IntWalk.i64_in _ (by omega)
          have hs6 : IntKind.i64.wrap ((k : Int) + 1) = (k : Int) + 1 := IntWalk.i64_in _ (by have := HSN.out; omega)
          have HTK3 := Lib.hid HTK2
          clear HTK2 hbr hsr
          go_wp2_with fail
          go_roundw
          case rel => exact ⟨k + 1, by go_num, by rw [HTK3.out], hlt, HMq⟩
          case measure => simp [intOf]; omega
    · have hki : ¬ (k : Int) < (S.length : Int) := by omega
      obtain ⟨mr, hcr⟩ := HMr.out.ck
      obtain ⟨w6, hp6, hM6, hG6, hS6⟩ := run_put pair_keying Tryz.underlying54 (show Mp wr.drew pairEnc g mr from hcr.mp) (kind, other) (.int .i64 (sumF (fun y => mostP c y other) other (S.take k)))
      obtain ⟨d1, f1⟩ := hcr.obj.drew.facts
      obtain ⟨d2, f2⟩ := HMr.out.key.drew.facts
      simp only [pairEnc] at hp6
      obtain rfl : k = S.length := by omega
      rw [List.take_length] at *
      have HFin := Lib.hid (show (mostP c kind other = sumF (fun y => mostP c y other) other S) ∧ Aw g g W w6 ∧ ∃ m', Ck w0 cv c x g m' w6 from by
        have ha : Aw g g wr w6 := ⟨hG6.os, hG6.tape, hG6.output, hG6.size, fun b hb h1 _ => hG6.block b hb (fun e => h1 (by injection e))⟩
        refine ⟨HEQ.out, HMr.out.aw.trans ha, _, hcr.aw ha hM6 fun p hp => ?_⟩
        rcases mput_mem hp with hp | hp
        · exact hcr.inv p hp
        · rw [hp]; exact congrArg (Value.int .i64) HEQ.out.symm)
      clear hcr hM6 hG6 hS6
      generalize sumF (fun y => mostP c y other) other S = sv at *
      go_wp2_with fail
      go_region
      go_wp2_with fail
      go_ret
      exact ⟨by rw [HFin.out.1]; rfl, HFin.out.2⟩
/-- The number, whatever is known already. -/
theorem most_rec (hcv : Cat w0 cv c) (hcat : catB c = true) (hl : c.length ≤ 100000) (hsh : ∀ k ∈ c, k.short) (other : ByteArray) : ∀ (n : Nat) (kind : ByteArray) (W : World) (m : List ((ByteArray × ByteArray) × Value)), kix c kind < n → Ck w0 cv c x g m W →
    Calls Tryz.prog 52 #[.pointer (some ⟨x, 0, none⟩), .string kind, .string other] W fun r w' => r = .returned (.int .i64 (mostP c kind other)) ∧ Aw g g W w' ∧ ∃ m', Ck w0 cv c x g m' w'
  | 0, _, _, _, hn, _ => absurd hn (Nat.not_lt_zero _)
  | n + 1, kind, W, m, hn, h => by
    cases hm : mget m (kind, other) with
    | some v => exact (most_hit h kind other hm).mono fun r w' hr => ⟨hr.1, .of_below hr.2, m, h.below hr.2⟩
    | none => exact most_miss hcv hcat hl hsh kind other (fun y wr m' hy hc => most_rec hcv hcat hl hsh other n y wr m' (by omega) hc) h hm
end
end Go.Proofs.YtcpakaiblelmlaaGreatDoor
namespace Go.Proofs.YtcpakaiblelmlaaGreatDoor
open Go Go.RowKit
/-- A panic with an error of the program's. -/
abbrev errV (e : Int) : Ending := .panicked [{ v := .iface 32 (.int .i64 e), recovered := false }]
set_option maxRecDepth 100000 in
theorem must_any (b : Bool) (e : Int) (w : World) : Calls Tryz.prog 48 #[.bool b, .int .i64 e] w fun r w' => r = (if b then .returned (.tuple #[]) else errV e) ∧ w' = w := by
  cases b with
  | true =>
    go_enter Tryz.func48, Tryz.ntmps48
    go_wp2_with fail
    refine bodyPost_end (results_none rfl _ _ _) rfl ?_
    exact ⟨rfl, rfl⟩
  | false =>
    go_enter Tryz.func48, Tryz.ntmps48
    go_wp2
    exact ⟨rfl, rfl, rfl⟩
set_option maxRecDepth 100000 in
theorem check1_any (s : ByteArray) (A : Option Addr) (n cc : Nat) (nm : Int) (q : Nat) (cs : Array Value) (name : ByteArray) (w : World) (h : Has w q 27 cs) (hn : cs[1]? = some (.string name)) :
    Calls Tryz.prog 50 #[.agg #[.string s, .slice A n cc, .int .i64 nm], .pointer (some ⟨q, 0, none⟩)] w fun r w' => r = .returned (.bool (decide (s = name))) ∧ Below w.heap.size w w' := by
  have HB := Lib.hid (show Below w.heap.size w (w.alloc (.cells #[.string s, .slice A n cc, .int .i64 nm] 60)) from (Below.refl _ _).alloc (Nat.le_refl _) _)
  have hq := h.lt
  have hc : w.cell? ⟨q, 1, none⟩ = some (.string name) := (h.cell 1).trans hn
  have hc2 : (w.alloc (.cells #[.string s, .slice A n cc, .int .i64 nm] 60)).cell? ⟨q, 1, none⟩ = some (.string name) := cell_later HB.out hc
  have hT : (s.toList == name.toList) = decide (s = name) := by
    rw [Bool.eq_iff_iff, decide_eq_true_eq, beq_iff_eq, Lib.toList_data, Lib.toList_data]
    exact ⟨fun h => by cases s; cases name; simpa using h, fun h => by rw [h]⟩
  clear h hn hc
  go_enter Tryz.func50, Tryz.ntmps50
  go_wp2_with fail
  go_ret
  exact ⟨ret_bool (by first | rfl | simp [hT] | exact hT), HB.out⟩
end Go.Proofs.YtcpakaiblelmlaaGreatDoor
namespace Go.Proofs.YtcpakaiblelmlaaGreatDoor
open Go Go.RowKit
theorem mget_put {α : Type} [DecidableEq α] (m : List (α × Value)) (a x : α) (v : Value) (h : mget m a = none) : (mget (mput m a v) x).isSome = (decide (a = x) || (mget m x).isSome) := by
  have hf : m.findIdx? (fun p => decide (p.1 = a)) = none := by
    rw [List.findIdx?_eq_none_iff]
    intro p hp
    unfold mget at h
    cases hq : m.find? (fun p => decide (p.1 = a)) with
    | none => have := List.find?_eq_none.1 hq p hp; simpa using this
    | some q => rw [hq] at h; cases h
  unfold mput
  rw [hf]
  unfold mget
  rw [List.find?_append]
  cases hq : m.find? (fun p => decide (p.1 = x)) with
  | some q => simp
  | none =>
    by_cases hax : a = x
    · simp [hax]
    · simp [hax]
theorem zero_funV (w : World) : (zeroValue 76).run Tryz.prog w = .ok .nilFunc w := by kernel_rfl
set_option maxRecDepth 100000 in
set_option maxHeartbeats 8000000 in
theorem currencies_any (w : World) : Calls Tryz.prog 44 #[] w fun r w' => ∃ g m, r = .returned (.map (some g)) ∧ Mp w' Value.string g m ∧ (∀ x, (mget m x).isSome = curB x) ∧ Below w.heap.size w w' := by
  have hz : (w.alloc (.cells #[.func (.func 74) #[] #[]] 101)).heap.size = w.heap.size + 1 := World.size_alloc _ _
  have h0 := Mp.new (w.alloc (.cells #[.func (.func 74) #[] #[]] 101)) Value.string
  rw [hz] at h0
  have hb0 : Below w.heap.size w ((w.alloc (.cells #[.func (.func 74) #[] #[]] 101)).alloc (.map #[] 0)) := ((Below.refl _ _).alloc (Nat.le_refl _) _).alloc (by omega) _
  obtain ⟨w1, p1, h1, g1, s1⟩ := run_put str_keying Tryz.underlying78 h0 ⟨#[107, 109]⟩ (.func (.func 75) #[] #[])
  have hb1 := hb0.trans (show Below w.heap.size _ w1 from ⟨g1.os, g1.tape, g1.output, g1.size, fun k hk => g1.block k (Nat.lt_of_lt_of_le hk hb0.size) (fun e => by injection e with e; omega)⟩)
  clear g1 s1
  obtain ⟨w2, p2, h2, g2, s2⟩ := run_put str_keying Tryz.underlying78 h1 ⟨#[99, 121, 99, 108, 101, 115]⟩ (.func (.func 76) #[] #[])
  have hb2 := hb1.trans (show Below w.heap.size _ w2 from ⟨g2.os, g2.tape, g2.output, g2.size, fun k hk => g2.block k (Nat.lt_of_lt_of_le hk hb1.size) (fun e => by injection e with e; omega)⟩)
  clear g2 s2
  obtain ⟨w3, p3, h3, g3, s3⟩ := run_put str_keying Tryz.underlying78 h2 ⟨#[100, 97, 109, 97, 103, 101]⟩ (.func (.func 77) #[] #[])
  have hb3 := hb2.trans (show Below w.heap.size _ w3 from ⟨g3.os, g3.tape, g3.output, g3.size, fun k hk => g3.block k (Nat.lt_of_lt_of_le hk hb2.size) (fun e => by injection e with e; omega)⟩)
  clear g3 s3
  obtain ⟨w4, p4, h4, g4, s4⟩ := run_put str_keying Tryz.underlying78 h3 ⟨#[100, 97, 121, 115]⟩ (.func (.func 78) #[] #[.pointer (some ⟨w.heap.size, 0, none⟩)])
  have hb4 := hb3.trans (show Below w.heap.size _ w4 from ⟨g4.os, g4.tape, g4.output, g4.size, fun k hk => g4.block k (Nat.lt_of_lt_of_le hk hb3.size) (fun e => by injection e with e; omega)⟩)
  clear g4 s4
  obtain ⟨w5, p5, h5, g5, s5⟩ := run_put str_keying Tryz.underlying78 h4 ⟨#[97, 103, 101]⟩ (.func (.func 79) #[] #[.pointer (some ⟨w.heap.size, 0, none⟩)])
  have hb5 := hb4.trans (show Below w.heap.size _ w5 from ⟨g5.os, g5.tape, g5.output, g5.size, fun k hk => g5.block k (Nat.lt_of_lt_of_le hk hb4.size) (fun e => by injection e with e; omega)⟩)
  clear g5 s5
  have HM := Lib.hid h5
  have HB := Lib.hid hb5
  clear h0 h1 h2 h3 h4 h5 hb0 hb1 hb2 hb3 hb4 hb5 hz
  have hmm := @run_makeMap Tryz.prog
  go_enter Tryz.func44, Tryz.ntmps44
  go_wp2_with fail
  go_ret
  refine ⟨_, _, rfl, HM.out, fun x => ?_, HB.out⟩
  rw [mget_put _ _ _ _ (by rfl), mget_put _ _ _ _ (by rfl), mget_put _ _ _ _ (by rfl), mget_put _ _ _ _ (by rfl), mget_put _ _ _ _ (by rfl)]
  unfold curB curL
  simp only [List.any_cons, List.any_nil, Bool.or_false]
  generalize decide ((⟨#[107, 109]⟩ : ByteArray) = x) = b1
  generalize decide ((⟨#[99, 121, 99, 108, 101, 115]⟩ : ByteArray) = x) = b2
  generalize decide ((⟨#[100, 97, 109, 97, 103, 101]⟩ : ByteArray) = x) = b3
  generalize decide ((⟨#[100, 97, 121, 115]⟩ : ByteArray) = x) = b4
  generalize decide ((⟨#[97, 103, 101]⟩ : ByteArray) = x) = b5
  show (b5 || (b4 || (b3 || (b2 || (b1 || false))))) = _
  cases b1 <;> cases b2 <;> cases b3 <;> cases b4 <;> cases b5 <;> rfl
set_option maxRecDepth 100000 in
theorem is_any (x : ByteArray) (w : World) : Calls Tryz.prog 20 #[.string x] w fun r w' => r = .returned (.bool (curB x)) ∧ Below w.heap.size w w' := by
  have HC := Lib.hid (currencies_any w)
  go_enter Tryz.func20, Tryz.ntmps20
  go_wp2_with (go_at_call 44; refine HC.out.mono ?_; rintro e w1 ⟨g, m, rfl, hm, hc, hb⟩; have hL := run_look str_keying Tryz.underlying78 hm x (zero_funV _) true; rw [hc x] at hL; have HB := Lib.hid hb; clear hm hc hb)
  go_ret
  exact ⟨rfl, HB.out⟩
end Go.Proofs.YtcpakaiblelmlaaGreatDoor
namespace Go.Proofs.YtcpakaiblelmlaaGreatDoor
open Go Go.RowKit
set_option maxRecDepth 100000 in
set_option maxHeartbeats 1000000 in
theorem slotFor_any (v : Value) (l : List Sk) (x : ByteArray) (q0 : Nat) (ce : Array Value) (w : World) (hv : RdL 3 SkR w v l) (hl : l.length ≤ 100000) (h1 : Has w q0 27 ce) (hn1 : ce[1]? = some (.string x)) :
    Calls Tryz.prog 84 #[v, .func (.func 50) #[] #[.pointer (some ⟨q0, 0, none⟩)]] w fun e w' => e = .returned (.int .i64 (ixL (l.map Sk.name) x)) ∧ Below w.heap.size w w' := by
  have HV := Lib.hid hv
  have H1 := Lib.hid h1
  have l1 := h1.lt
  obtain ⟨A, c, rfl, hn⟩ := hv.form
  clear hv h1
  go_enter Tryz.func84, Tryz.ntmps84
  go_wp2_with fail
  go_loopw [8] (fun i wr => ∃ k : Nat, k ≤ l.length ∧ i = .int .i64 k ∧ Hid (∀ j, j < k → (l.map Sk.name).getD j eS ≠ x) ∧ Below w.heap.size w wr) (fun i _ => l.length - (intOf i).toNat)
  case atStart => exact ⟨0, Nat.zero_le _, rfl, fun j hj => absurd hj (Nat.not_lt_zero _), Below.refl _ _⟩
  case round =>
    obtain ⟨k, hk, rfl, hrel, hb⟩ := hrel
    by_cases hlt : k < l.length
    · obtain ⟨b, o, c', cs, he, _, ⟨sv, rfl, hsv⟩, _, hrg⟩ := HV.out.get hlt noSk
      injection he with e1 e2 e3
      subst e1; subst e3
      have hsv2 := hsv; obtain ⟨A2, c2, rfl, hn2, _⟩ := hsv2
      have hrg' := range_later hrg hb
      have hg : (l.map Sk.name).getD k eS = (l.getD k noSk).name := by
        rw [List.getD_eq_getElem?_getD, List.getElem?_map, List.getD_eq_getElem?_getD, List.getElem?_eq_getElem hlt]; rfl
      have hit := Lib.hid (fun he => ixL_hit (l := l.map Sk.name) (x := x) (by simpa using hlt) hrel.out he)
      have hno : Hid ((l.map Sk.name).getD k eS ≠ x → ∀ j, j < k + 1 → (l.map Sk.name).getD j eS ≠ x) := fun h j hj => by
        rcases Nat.lt_or_ge j k with h1 | h1
        · exact hrel.out j h1
        · obtain rfl : j = k := by omega
          exact h
      rw [hg] at hit hno
      have HB := Lib.hid hb
      have q1 := H1.out.below hb l1
      clear hrg hb hsv hg
      generalize l.getD k noSk = q at *
      obtain ⟨s, ss, vb⟩ := q
      cases hN : decide (s = x)
      · have HN := Lib.hid hN
        have HE := Lib.hid (show s ≠ x from of_decide_eq_false hN)
        go_wp2_with (first | ((with_reducible show wpList _ _ _ (Oper.mk (some 15) _ _ _ _ _ :: _) _ _); refine wpList_load_mid rfl 60 _ rfl b (o + k * 3) rfl _ _ hrg' Tryz.underlying60 rfl rfl ?_) | (go_at_call 50; refine (check1_any s A2 _ c2 vb q0 ce x _ q1 hn1).mono ?_; rintro e w1 ⟨rfl, hb1⟩; rw [HN.out]))
        go_roundw
        case rel => exact ⟨k + 1, by omega, by go_num, hno.out HE.out, HB.out.trans (hb1.mono HB.out.size)⟩
        case measure => simp [intOf]; omega
      · have HN := Lib.hid hN
        have HE := Lib.hid (show s = x from of_decide_eq_true hN)
        go_wp2_with (first | ((with_reducible show wpList _ _ _ (Oper.mk (some 15) _ _ _ _ _ :: _) _ _); refine wpList_load_mid rfl 60 _ rfl b (o + k * 3) rfl _ _ hrg' Tryz.underlying60 rfl rfl ?_) | (go_at_call 50; refine (check1_any s A2 _ c2 vb q0 ce x _ q1 hn1).mono ?_; rintro e w1 ⟨rfl, hb1⟩; rw [HN.out]))
        go_ret
        exact ⟨ret_int (hit.out HE.out).symm, HB.out.trans (hb1.mono HB.out.size)⟩
    · obtain rfl : k = l.length := by omega
      have hmiss := Lib.hid (ixL_miss (l := l.map Sk.name) (x := x) (fun j hj => hrel.out j (by simpa using hj)))
      go_wp2_with fail
      go_ret
      exact ⟨ret_int hmiss.out.symm, hb⟩

set_option maxRecDepth 100000 in
theorem slotHas_any (v : Value) (l : List Sk) (x : ByteArray) (q0 : Nat) (ce : Array Value) (w : World) (hv : RdL 3 SkR w v l) (hl : l.length ≤ 100000) (h1 : Has w q0 27 ce) (hn1 : ce[1]? = some (.string x)) :
    Calls Tryz.prog 49 #[v, .func (.func 50) #[] #[.pointer (some ⟨q0, 0, none⟩)]] w fun e w' => e = .returned (.bool (l.any fun s => decide (s.name = x))) ∧ Below w.heap.size w w' := by
  have HC := Lib.hid (slotFor_any v l x q0 ce w hv hl h1 hn1)
  have HX := Lib.hid (show decide (0 ≤ ixL (l.map Sk.name) x) = l.any fun s => decide (s.name = x) by rw [ixL_has]; unfold hasB; rw [List.any_map]; rfl)
  obtain ⟨A, c, rfl, _⟩ := hv.form
  clear hv h1 hn1
  go_enter Tryz.func49, Tryz.ntmps49
  go_wp2_with (go_at_call 84; refine HC.out.mono ?_; rintro e w1 ⟨rfl, hb⟩; have HB := Lib.hid hb; clear hb)
  go_ret
  exact ⟨ret_bool HX.out, HB.out⟩
end Go.Proofs.YtcpakaiblelmlaaGreatDoor
namespace Go.Proofs.YtcpakaiblelmlaaGreatDoor
open Go Go.RowKit
/-- The error and the offset that fail ends with. -/
def fcode (e : Int) : List Fnd → Int
  | [] => 9
  | _ :: _ => e
def fat (E : Int) : List Fnd → Int
  | [] => E
  | t :: _ => t.pos
theorem failP_eq {α : Type} (E e : Int) (l : List Fnd) : (failP E e l : Got α) = .bad (fcode e l) (fat E l) := by cases l <;> rfl
set_option maxRecDepth 100000 in
set_option maxHeartbeats 4000000 in
theorem fail_any (g : Nat) (E e : Int) (l : List Fnd) (w : World) (h : Par w g E l) :
    Calls Tryz.prog 100 #[.pointer (some ⟨g, 0, none⟩), .int .i64 e] w fun r w' => r = failV (fcode e l) (fat E l) ∧ w' = w := by
  cases l with
  | nil =>
    obtain ⟨A, c, h1, h2⟩ := h.nil
    obtain ⟨c1, f1⟩ := h1.facts
    go_enter Tryz.func100, Tryz.ntmps100
    go_wp2
    exact ⟨rfl, rfl, rfl⟩
  | cons t r =>
    obtain ⟨b, o, c, h1, h2, h3, _, ct1, ct2, ct3, _⟩ := h.cons
    obtain ⟨c1, f1⟩ := h1.facts
    have hne : (((r.length + 1 : Nat) : Int) == 0) = false := by simp; omega
    go_enter Tryz.func100, Tryz.ntmps100
    go_wp2
    exact ⟨rfl, rfl, rfl⟩
/-- The object behind a token that is read, wherever the empty rest points. -/
theorem Par.step {w : World} {g : Nat} {E : Int} {r : List Fnd} {b o c : Nat} {x : Value} (h1 : Has w g 114 #[x, .int .i64 E]) (hc : c ≤ 9223372036854775807)
    (h : ∀ w', KeepsC w w' → Has w' g 114 #[.slice (some ⟨b, o + 3, none⟩) r.length (c - 1), .int .i64 E] → Par w' g E r) (A : Option Addr) (n d : Nat) (hn : n = r.length) (hA : A = some ⟨b, o + 3, none⟩ ∧ d = c - 1 ∨ r = [] ∧ d ≤ c) :
    Par (w.setCell ⟨g, 0, none⟩ (.slice A n d)) g E r ∧ Aw g g w (w.setCell ⟨g, 0, none⟩ (.slice A n d)) := by
  have ha : Aw g g w (w.setCell ⟨g, 0, none⟩ (.slice A n d)) := (Aw.refl g g w).set g 0 (.inl rfl) _
  refine ⟨?_, ha⟩
  rcases hA with ⟨rfl, rfl⟩ | ⟨rfl, hd⟩
  · subst hn
    exact h _ (.aw ha (h1.small (Nat.le_refl 2)) (h1.small (Nat.le_refl 2))) (h1.put 0 _)
  · subst hn
    exact ⟨_, h1.put 0 _, fun x hx => (by cases hx), A, d, rfl, Nat.zero_le _, by omega, .inl rfl⟩
theorem text_ne {a b : ByteArray} (h : ¬ a = b) : ¬ a.toList = b.toList := fun e => h (by
  rw [_root_.Go.ByteArray.toList_eq, _root_.Go.ByteArray.toList_eq] at e
  cases a; cases b
  exact congrArg _ (Array.toList_inj.1 e))
theorem skip_parts {s : ByteArray} {t : Fnd} {r : List Fnd} (h : skipB s (t :: r) = true) : t.text = s ∧ (t.kind = 1 ∨ t.kind = 4) := of_decide_eq_true h
set_option maxRecDepth 100000 in
set_option maxHeartbeats 4000000 in
theorem skip_yes (g : Nat) (E : Int) (s : ByteArray) (l : List Fnd) (w : World) (h : Par w g E l) (hy : skipB s l = true) :
    Calls Tryz.prog 122 #[.pointer (some ⟨g, 0, none⟩), .string s] w fun e w' => e = .returned (.bool true) ∧ Aw g g w w' ∧ Par w' g E l.tail := by
  cases l with
  | nil => cases hy
  | cons t r =>
    obtain ⟨e1, e2⟩ := skip_parts hy
    obtain ⟨b, o, c, h1, h2, h3, _, ct1, ct2, ct3, hs⟩ := h.cons
    obtain ⟨c1, f1⟩ := h1.facts
    have hne : (((r.length + 1 : Nat) : Int) == 0) = false := by simp; omega
    have HS := Lib.hid (Par.step h1 h3 hs)
    have HR := Lib.hid (show c = 1 → r = [] from fun e => List.eq_nil_of_length_eq_zero (by omega))
    clear hs h hy
    rw [e1] at ct2
    clear e1
    rcases e2 with e2 | e2
    all_goals
      rw [e2] at ct1
      clear e2
      go_enter Tryz.func122, Tryz.ntmps122
      go_wp2
      all_goals
        go_ret
        refine ⟨rfl, ?_, ?_⟩
        · first | exact (HS.out _ _ _ rfl (.inl ⟨rfl, rfl⟩)).2 | exact (HS.out _ _ _ rfl (.inr ⟨HR.out (by assumption), by omega⟩)).2
        · first | exact (HS.out _ _ _ rfl (.inl ⟨rfl, rfl⟩)).1 | exact (HS.out _ _ _ rfl (.inr ⟨HR.out (by assumption), by omega⟩)).1
set_option maxRecDepth 100000 in
set_option maxHeartbeats 4000000 in
theorem skip_no (g : Nat) (E : Int) (s : ByteArray) (l : List Fnd) (w : World) (h : Par w g E l) (hy : skipB s l = false) :
    Calls Tryz.prog 122 #[.pointer (some ⟨g, 0, none⟩), .string s] w fun e w' => e = .returned (.bool false) ∧ w' = w := by
  cases l with
  | nil =>
    obtain ⟨A, c, h1, h2⟩ := h.nil
    obtain ⟨c1, f1⟩ := h1.facts
    clear hy
    go_enter Tryz.func122, Tryz.ntmps122
    go_wp2
    go_ret
    exact ⟨rfl, rfl⟩
  | cons t r =>
    obtain ⟨b, o, c, h1, h2, h3, _, ct1, ct2, ct3, _⟩ := h.cons
    obtain ⟨c1, f1⟩ := h1.facts
    have hne : (((r.length + 1 : Nat) : Int) == 0) = false := by simp; omega
    clear h
    have hy2 := of_decide_eq_false hy
    clear hy
    by_cases e1 : t.text = s
    · have e2 : ¬ (t.kind = 1 ∨ t.kind = 4) := fun h => hy2 ⟨e1, h⟩
      have n1 : (t.kind != 1) = true := by simpa using fun h => e2 (.inl h)
      have n4 : (t.kind != 4) = true := by simpa using fun h => e2 (.inr h)
      rw [e1] at ct2
      clear e2 hy2 e1
      go_enter Tryz.func122, Tryz.ntmps122
      go_wp2
      go_ret
      exact ⟨rfl, rfl⟩
    · have e1' := text_ne e1
      have e2' : (t.text.toList != s.toList) = true := by simpa using e1'
      clear hy2
      go_enter Tryz.func122, Tryz.ntmps122
      go_wp2
      go_ret
      exact ⟨rfl, rfl⟩
end Go.Proofs.YtcpakaiblelmlaaGreatDoor
namespace Go.Proofs.YtcpakaiblelmlaaGreatDoor
open Go Go.RowKit
set_option maxRecDepth 100000 in
set_option maxHeartbeats 4000000 in
theorem want_yes (g : Nat) (E : Int) (s : ByteArray) (l : List Fnd) (b c : Nat) (w : World) (h : Par w g E l) (hb : w.cell? ⟨b, 0, none⟩ = some (.string s)) (hy : skipB s l = true) :
    Calls Tryz.prog 97 #[.pointer (some ⟨g, 0, none⟩), .slice (some ⟨b, 0, none⟩) 1 c] w fun e w' => e = .returned (.tuple #[]) ∧ Aw g g w w' ∧ Par w' g E l.tail := by
  have HP := Lib.hid h
  clear h
  go_enter Tryz.func97, Tryz.ntmps97
  go_wp2_with fail
  go_loopw [8] (fun i wr => (i = .int .i64 0 ∧ wr = w) ∨ (i = .int .i64 1 ∧ Hid (Par wr g E l.tail) ∧ Hid (Aw g g w wr))) (fun i _ => 2 - (intOf i).toNat)
  case atStart => exact .inl ⟨rfl, rfl⟩
  case round =>
    rcases hrel with ⟨rfl, rfl⟩ | ⟨rfl, H1, H2⟩
    · go_wp2_with (go_at_call 122; refine (skip_yes g E s l _ HP.out hy).mono ?_; rintro e w1 ⟨rfl, ha, hp⟩; have HA := Lib.hid ha; have HQ := Lib.hid hp; clear ha hp)
      go_roundw
      case rel => exact .inr ⟨by go_num, HQ, HA⟩
      case measure => simp [intOf]
    · go_wp2_with fail
      go_end0
      exact ⟨rfl, H2.out, H1.out⟩
set_option maxRecDepth 100000 in
set_option maxHeartbeats 4000000 in
theorem want_no (g : Nat) (E : Int) (s : ByteArray) (l : List Fnd) (b c : Nat) (w : World) (h : Par w g E l) (hb : w.cell? ⟨b, 0, none⟩ = some (.string s)) (hy : skipB s l = false) :
    Calls Tryz.prog 97 #[.pointer (some ⟨g, 0, none⟩), .slice (some ⟨b, 0, none⟩) 1 c] w fun e w' => e = failV (fcode 8 l) (fat E l) ∧ w' = w := by
  have HP := Lib.hid h
  clear h
  go_enter Tryz.func97, Tryz.ntmps97
  go_wp2_with fail
  go_loopw [8] (fun i wr => i = .int .i64 0 ∧ wr = w) (fun i _ => 2 - (intOf i).toNat)
  case atStart => exact ⟨rfl, rfl⟩
  case round =>
    obtain ⟨rfl, rfl⟩ := hrel
    go_wp2_with (first
      | (go_at_call 122; refine (skip_no g E s l _ HP.out hy).mono ?_; rintro e w1 ⟨rfl, rfl⟩)
      | (go_at_call 100; refine (fail_any g E 8 l _ HP.out).mono ?_; rintro e w1 ⟨rfl, rfl⟩))
    exact ⟨rfl, rfl, rfl⟩
theorem wantP_yes {E : Int} {s : ByteArray} {l : List Fnd} (h : skipB s l = true) : wantP E s l = .ok () l.tail := by unfold wantP; rw [if_pos h]
theorem wantP_no {E : Int} {s : ByteArray} {l : List Fnd} (h : skipB s l = false) : wantP E s l = .bad (fcode 8 l) (fat E l) := by
  unfold wantP; rw [if_neg (by rw [h]; exact Bool.false_ne_true), failP_eq]
/-- want of one word: it is there, or the reading fails. -/
theorem want_any (g : Nat) (E : Int) (s : ByteArray) (l : List Fnd) (b c : Nat) (w : World) (h : Par w g E l) (hb : w.cell? ⟨b, 0, none⟩ = some (.string s)) :
    Calls Tryz.prog 97 #[.pointer (some ⟨g, 0, none⟩), .slice (some ⟨b, 0, none⟩) 1 c] w fun e w' => (wantP E s l = .bad (fcode 8 l) (fat E l) ∧ e = failV (fcode 8 l) (fat E l) ∧ w' = w) ∨ (wantP E s l = .ok () l.tail ∧ e = .returned (.tuple #[]) ∧ Aw g g w w' ∧ Par w' g E l.tail) := by
  cases hy : skipB s l with
  | true => exact (want_yes g E s l b c w h hb hy).mono fun e w' ⟨h1, h2, h3⟩ => .inr ⟨wantP_yes hy, h1, h2, h3⟩
  | false => exact (want_no g E s l b c w h hb hy).mono fun e w' ⟨h1, h2⟩ => .inl ⟨wantP_no hy, h1, h2⟩
theorem Rd.bad {α : Type} {R : World → Value → α → Prop} {w w' : World} {g : Nat} {E : Int} {q : Got α} {er a : Int} (hq : q = .bad er a) (h : Aw g g w w') : Rd R w g E q (failV er a) w' := by
  subst hq; exact ⟨h, rfl⟩
theorem Rd.ok {α : Type} {R : World → Value → α → Prop} {w w' : World} {g : Nat} {E : Int} {q : Got α} {x : α} {r : List Fnd} {v : Value} (hq : q = .ok x r) (h : Aw g g w w') (hv : R w' v x) (hp : Par w' g E r) : Rd R w g E q (.returned v) w' := by
  subst hq; exact ⟨h, ⟨v, rfl, hv⟩, hp⟩
theorem Rd.cases {α : Type} {R : World → Value → α → Prop} {w w' : World} {g : Nat} {E : Int} {q : Got α} {e : Ending} (h : Rd R w g E q e w') :
    (∃ er a, q = .bad er a ∧ e = failV er a ∧ Aw g g w w') ∨ (∃ x r v, q = .ok x r ∧ e = .returned v ∧ R w' v x ∧ Aw g g w w' ∧ Par w' g E r) := by
  cases q with
  | bad er a => exact .inl ⟨er, a, rfl, h.2, h.1⟩
  | ok x r =>
    obtain ⟨ha, ⟨v, hv, hr⟩, hp⟩ := h
    exact .inr ⟨x, r, v, rfl, hv, hr, ha, hp⟩
end Go.Proofs.YtcpakaiblelmlaaGreatDoor
namespace Go.Proofs.YtcpakaiblelmlaaGreatDoor
open Go Go.RowKit
/-- The two variables that hold strconv's errors. -/
def Evs (w0 : World) : Prop := ∀ w, Below w0.heap.size w0 w → (∃ tp p, w.var? Tryz.prog "strconv.ErrSyntax" = some #[.iface tp p]) ∧ (∃ tp p, w.var? Tryz.prog "strconv.ErrRange" = some #[.iface tp p])
theorem atoi_any (w0 : World) (hv : Evs w0) (s : ByteArray) (hs : s.size ≤ 1000000) (w : World) (hb : Below w0.heap.size w0 w) :
    Calls Tryz.prog 156 #[.string s] w fun e w' => ∃ er, e = .returned (.tuple #[.int .i64 (atoiV s.data.toList), er]) ∧ Below w.heap.size w w' := by
  obtain ⟨⟨tp, p, hv1⟩, ⟨tq, q, hv2⟩⟩ := hv w hb
  unfold atoiV
  cases h : Lib.atoiAll s.data.toList with
  | ok v =>
    refine (Tryz.strconv_Atoi_ok s (by omega) v h w).mono ?_
    rintro e w' ⟨rfl, h1⟩
    refine ⟨_, rfl, ?_⟩
    rcases h1 with rfl | ⟨t, rfl⟩
    · exact Below.refl _ _
    · exact Lib.bytesWorld_below w 5 t
  | «syntax» =>
    refine (Tryz.strconv_Atoi_syntax_var s (by omega) h tp p w hv1).mono ?_
    rintro e w' ⟨N, rfl, _, _, h2⟩
    exact ⟨_, rfl, h2⟩
  | range =>
    refine (Tryz.strconv_Atoi_range_var s (by omega) h tq q w hv2).mono ?_
    rintro e w' ⟨N, rfl, _, _, h2⟩
    exact ⟨_, rfl, h2⟩
end Go.Proofs.YtcpakaiblelmlaaGreatDoor
namespace Go.Proofs.YtcpakaiblelmlaaGreatDoor
open Go Go.RowKit
set_option maxRecDepth 100000 in
set_option maxHeartbeats 4000000 in
theorem next_bad (g : Nat) (E kind : Int) (ck : Value) (_chk : ByteArray → Bool) (l : List Fnd) (w : World) (h : Par w g E l) (hk : l = [] ∨ ∃ t r, l = t :: r ∧ t.kind ≠ kind) :
    Calls Tryz.prog 123 #[.pointer (some ⟨g, 0, none⟩), .int .i64 kind, ck] w fun e w' => e = failV (fcode 8 l) (fat E l) ∧ w' = w := by
  have HP := Lib.hid h
  rcases hk with rfl | ⟨t, r, rfl, hk⟩
  · obtain ⟨A, c, h1, h2⟩ := h.nil
    obtain ⟨c1, f1⟩ := h1.facts
    clear h
    go_enter Tryz.func123, Tryz.ntmps123
    go_wp2_with (go_at_call 100; refine (fail_any g E 8 [] _ HP.out).mono ?_; rintro e w1 ⟨rfl, rfl⟩)
    exact ⟨rfl, rfl, rfl⟩
  · obtain ⟨b, o, c, h1, h2, h3, hsz, ct1, ct2, ct3, hs⟩ := h.cons
    obtain ⟨c1, f1⟩ := h1.facts
    have hne : (((r.length + 1 : Nat) : Int) == 0) = false := by simp; omega
    have hkk : (t.kind != kind) = true := by simpa using hk
    clear h hs
    go_enter Tryz.func123, Tryz.ntmps123
    go_wp2_with (go_at_call 100; refine (fail_any g E 8 (t :: r) _ HP.out).mono ?_; rintro e w1 ⟨rfl, rfl⟩)
    exact ⟨rfl, rfl, rfl⟩
set_option maxRecDepth 100000 in
set_option maxHeartbeats 4000000 in
theorem next_ok (g b' : Nat) (E : Int) (F : Nat) (cap : Array Value) (hF : ∀ (args : Array Value) (w : World), (callFunc F args).run Tryz.prog w = .ok (.enter F args) w) (t : Fnd) (r : List Fnd) (w : World) (Post : World → Prop) (h : Par w g E (t :: r)) (hsb : Small w b') (hgb : b' ≠ g)
    (hc : Calls Tryz.prog F (#[.string t.text] ++ cap) w fun e w' => e = .returned (.bool true) ∧ Aw b' b' w w' ∧ Post w') :
    Calls Tryz.prog 123 #[.pointer (some ⟨g, 0, none⟩), .int .i64 t.kind, .func (.func F) #[] cap] w fun e w' => ∃ w2, Aw b' b' w w2 ∧ Post w2 ∧ e = .returned (.string t.text) ∧ Aw g g w2 w' ∧ Par w' g E r := by
  have hlt := h.lt
  have hsg := h.small
  obtain ⟨b, o, c, h1, h2, h3, hsz, ct1, ct2, ct3, hs⟩ := h.cons
  obtain ⟨c1, f1⟩ := h1.facts
  have hne : (((r.length + 1 : Nat) : Int) == 0) = false := by simp; omega
  have HC := Lib.hid hc
  have HR := Lib.hid (show c = 1 → r = [] from fun e => List.eq_nil_of_length_eq_zero (by omega))
  have HAll := Lib.hid (show ∀ w2, Aw b' b' w w2 → Has w2 g 114 #[.slice (some ⟨b, o, none⟩) (r.length + 1) c, .int .i64 E] ∧ (∀ (A : Option Addr) (n d : Nat), n = r.length → (A = some ⟨b, o + 3, none⟩ ∧ d = c - 1 ∨ r = [] ∧ d ≤ c) → Par (w2.setCell ⟨g, 0, none⟩ (.slice A n d)) g E r ∧ Aw g g w2 (w2.setCell ⟨g, 0, none⟩ (.slice A n d))) from fun w2 ha => by
    have hh := h1.aw ha (fun e => hgb e.symm) (fun e => hgb e.symm)
    have hk : KeepsC w w2 := .aw ha hsb hsb
    exact ⟨hh, Par.step hh h3 fun w' hk' hh' => hs w' (hk.trans hk') hh'⟩)
  clear h hc hs hsb hsz ct3
  go_enter Tryz.func123, Tryz.ntmps123
  go_wp2_with (with_reducible refine HC.out.mono ?_; rintro e w2 ⟨rfl, ha, hp⟩; have HA := Lib.hid ha; have HP := Lib.hid hp; have HX := Lib.hid (HAll.out w2 ha); obtain ⟨c2, f2⟩ := HX.out.1.facts; clear ha hp HAll)
  all_goals
    go_ret
    first
      | exact ⟨w2, HA.out, HP.out, rfl, (HX.out.2 _ _ _ rfl (.inl ⟨rfl, rfl⟩)).2, (HX.out.2 _ _ _ rfl (.inl ⟨rfl, rfl⟩)).1⟩
      | exact ⟨w2, HA.out, HP.out, rfl, (HX.out.2 _ _ _ rfl (.inr ⟨HR.out (by assumption), by omega⟩)).2, (HX.out.2 _ _ _ rfl (.inr ⟨HR.out (by assumption), by omega⟩)).1⟩
set_option maxRecDepth 100000 in
set_option maxHeartbeats 4000000 in
theorem next_no (g b' : Nat) (E : Int) (F : Nat) (cap : Array Value) (hF : ∀ (args : Array Value) (w : World), (callFunc F args).run Tryz.prog w = .ok (.enter F args) w) (t : Fnd) (r : List Fnd) (w : World) (Post : World → Prop) (h : Par w g E (t :: r)) (hsb : Small w b') (hgb : b' ≠ g)
    (hc : Calls Tryz.prog F (#[.string t.text] ++ cap) w fun e w' => e = .returned (.bool false) ∧ Aw b' b' w w' ∧ Post w') :
    Calls Tryz.prog 123 #[.pointer (some ⟨g, 0, none⟩), .int .i64 t.kind, .func (.func F) #[] cap] w fun e w' => Aw b' b' w w' ∧ Post w' ∧ e = failV 13 t.pos := by
  have HPar := Lib.hid (show ∀ w2, Aw b' b' w w2 → Par w2 g E (t :: r) from fun w2 ha => by
    obtain ⟨v, hv, ht⟩ := h
    exact ⟨v, hv.aw ha (fun e => hgb e.symm) (fun e => hgb e.symm), ht.keeps (.aw ha hsb hsb)⟩)
  obtain ⟨b, o, c, h1, h2, h3, hsz, ct1, ct2, ct3, hs⟩ := h.cons
  obtain ⟨c1, f1⟩ := h1.facts
  have hne : (((r.length + 1 : Nat) : Int) == 0) = false := by simp; omega
  have HC := Lib.hid hc
  clear h hc hs hsb hsz ct3
  go_enter Tryz.func123, Tryz.ntmps123
  go_wp2_with (first
    | (with_reducible refine HC.out.mono ?_; rintro e w2 ⟨rfl, ha, hp⟩; have HA := Lib.hid ha; have HP := Lib.hid hp; have HX := Lib.hid (HPar.out w2 ha); clear ha hp HPar)
    | (go_at_call 100; refine (fail_any g E 13 (t :: r) _ HX.out).mono ?_; rintro e w1 ⟨rfl, rfl⟩))
  exact ⟨rfl, HA.out, HP.out, rfl⟩
end Go.Proofs.YtcpakaiblelmlaaGreatDoor
namespace Go.Proofs.YtcpakaiblelmlaaGreatDoor
open Go Go.RowKit
theorem small_new (w : World) (b : Nat) (h : w.heap.size ≤ b) : Small w b := fun _o _v _ hv => absurd (cell_size hv) (Nat.not_lt.2 h)
def StrR (_ : World) (v : Value) (s : ByteArray) : Prop := v = .string s
def IntR (_ : World) (v : Value) (n : Int) : Prop := v = .int .i64 n
theorem nextP_bad {E kind : Int} {chk : ByteArray → Bool} {l : List Fnd} (h : l = [] ∨ ∃ t r, l = t :: r ∧ t.kind ≠ kind) : nextP E kind chk l = .bad (fcode 8 l) (fat E l) := by
  rcases h with rfl | ⟨t, r, rfl, h⟩
  · rfl
  · show (if t.kind = kind then _ else _) = _
    rw [if_neg h]; rfl
theorem nextP_ok {E kind : Int} {chk : ByteArray → Bool} {t : Fnd} {r : List Fnd} (hk : t.kind = kind) (h : chk t.text = true) : nextP E kind chk (t :: r) = .ok t.text r := by
  show (if t.kind = kind then _ else _) = _
  rw [if_pos hk, if_pos h]
theorem nextP_no {E kind : Int} {chk : ByteArray → Bool} {t : Fnd} {r : List Fnd} (hk : t.kind = kind) (h : chk t.text = false) : nextP E kind chk (t :: r) = .bad 13 t.pos := by
  show (if t.kind = kind then _ else _) = _
  rw [if_pos hk, if_neg (by rw [h]; exact Bool.false_ne_true)]
theorem tok_cases (kind : Int) (l : List Fnd) : (l = [] ∨ ∃ t r, l = t :: r ∧ t.kind ≠ kind) ∨ ∃ t r, l = t :: r ∧ t.kind = kind := by
  cases l with
  | nil => exact .inl (.inl rfl)
  | cons t r =>
    by_cases h : t.kind = kind
    · exact .inr ⟨t, r, rfl, h⟩
    · exact .inl (.inr ⟨t, r, rfl, h⟩)
/-- next with a check that leaves memory alone. -/
theorem next_pure (g : Nat) (E kind : Int) (F : Nat) (chk : ByteArray → Bool) (hF : ∀ (args : Array Value) (w : World), (callFunc F args).run Tryz.prog w = .ok (.enter F args) w) (l : List Fnd) (w : World) (h : Par w g E l)
    (hc : ∀ s : ByteArray, s.size ≤ 1000000 → Calls Tryz.prog F #[.string s] w fun e w' => e = .returned (.bool (chk s)) ∧ Below w.heap.size w w') :
    Calls Tryz.prog 123 #[.pointer (some ⟨g, 0, none⟩), .int .i64 kind, .func (.func F) #[] #[]] w (Rd StrR w g E (nextP E kind chk l)) := by
  rcases tok_cases kind l with hk | ⟨t, r, rfl, hk⟩
  · exact (next_bad g E kind _ chk l w h hk).mono fun e w' ⟨h1, h2⟩ => by subst h1; subst h2; exact Rd.bad (nextP_bad hk) (Aw.refl _ _ _)
  · have hlt := h.lt
    have hsz : t.text.size ≤ 1000000 := by
      obtain ⟨_, _, _, _, _, _, hs, _⟩ := h.cons
      exact hs
    subst hk
    have hcc := hc t.text hsz
    cases hck : chk t.text with
    | true =>
      rw [hck] at hcc
      exact (next_ok g w.heap.size E F #[] hF t r w (fun _ => True) h (small_new w _ (Nat.le_refl _)) (by omega) (by rw [show (#[.string t.text] ++ #[] : Array Value) = #[.string t.text] by simp]; exact hcc.mono fun e w' ⟨h1, h2⟩ => ⟨h1, Aw.of_below h2, trivial⟩)).mono fun e w' ⟨w2, h1, _, h2, h3, h4⟩ => by
        subst h2
        have h5 : Aw g g w w' := ⟨h3.1.trans h1.1, h3.2.1.trans h1.2.1, h3.2.2.1.trans h1.2.2.1, Nat.le_trans h1.2.2.2.1 h3.2.2.2.1, fun k hk h6 _ => (h3.2.2.2.2 k (Nat.lt_of_lt_of_le hk h1.2.2.2.1) h6 h6).trans (h1.2.2.2.2 k hk (by omega) (by omega))⟩
        exact Rd.ok (nextP_ok rfl hck) h5 rfl h4
    | false =>
      rw [hck] at hcc
      exact (next_no g w.heap.size E F #[] hF t r w (fun _ => True) h (small_new w _ (Nat.le_refl _)) (by omega) (by rw [show (#[.string t.text] ++ #[] : Array Value) = #[.string t.text] by simp]; exact hcc.mono fun e w' ⟨h1, h2⟩ => ⟨h1, Aw.of_below h2, trivial⟩)).mono fun e w' ⟨h1, _, h2⟩ => by
        subst h2
        have h5 : Aw g g w w' := ⟨h1.1, h1.2.1, h1.2.2.1, h1.2.2.2.1, fun k hk _ _ => h1.2.2.2.2 k hk (by omega) (by omega)⟩
        exact Rd.bad (nextP_no rfl hck) h5
set_option maxRecDepth 100000 in
set_option maxHeartbeats 4000000 in
theorem pname_any (g : Nat) (E : Int) (l : List Fnd) (w : World) (h : Par w g E l) :
    Calls Tryz.prog 98 #[.pointer (some ⟨g, 0, none⟩)] w (Rd StrR w g E (nameP E l)) := by
  have HN := Lib.hid (next_pure g E 1 27 nameB (enters_of Tryz.func27 (by kernel_rfl) rfl) l w h fun s hs => name_any s w (by unfold maxLen; omega))
  go_enter Tryz.func98, Tryz.ntmps98
  go_wp2_with (go_at_call 123; refine HN.out.mono ?_; rintro e w1 hd; rcases hd.cases with ⟨er, at', hq, rfl, ha⟩ | ⟨x, r, v, hq, rfl, hv, ha, hp⟩; (exact ⟨rfl, Rd.bad hq ha⟩); have HD := Lib.hid (show Rd StrR w g E (nameP E l) (.returned v) w1 from Rd.ok hq ha hv hp); clear hq hv ha hp)
  go_ret
  exact HD.out
/-- number's check: reads the number into a variable. -/
theorem num1_any (w0 : World) (hv : Evs w0) (s : ByteArray) (hs : s.size ≤ 1000000) (low x : Int) (bn bl : Nat) (w : World) (hb : Below w0.heap.size w0 w) (hn : Has w bn 3 #[.int .i64 x]) (hl : Has w bl 3 #[.int .i64 low]) (hne : bl ≠ bn) :
    Calls Tryz.prog 155 #[.string s, .pointer (some ⟨bn, 0, none⟩), .pointer (some ⟨bl, 0, none⟩)] w fun e w' => e = .returned (.bool (numB low s)) ∧ Aw bn bn w w' ∧ Has w' bn 3 #[.int .i64 (atoiV s.data.toList)] := by
  have HA := Lib.hid (atoi_any w0 hv s hs w hb)
  have HX := Lib.hid (show ∀ w1, Below w.heap.size w w1 → Has w1 bn 3 #[.int .i64 x] ∧ Has w1 bl 3 #[.int .i64 low] ∧ Aw bn bn w w1 from fun w1 h1 => ⟨hn.below h1 hn.lt, hl.below h1 hl.lt, .of_below h1⟩)
  have hd : numB low s = decide (low ≤ atoiV s.data.toList) := rfl
  rw [hd]
  generalize atoiV s.data.toList = n at *
  clear hn hl hb hv hs hd
  go_enter Tryz.func155, Tryz.ntmps155
  go_wp2_with (go_at_call 156; refine HA.out.mono ?_; rintro e w2 ⟨er, rfl, hb2⟩; have HY := Lib.hid (HX.out w2 hb2); obtain ⟨d1, g1⟩ := HY.out.1.facts; obtain ⟨d2, g2⟩ := HY.out.2.1.facts; clear hb2)
  go_ret
  exact ⟨rfl, HY.out.2.2.set bn 0 (.inl rfl) _, HY.out.1.put 0 _⟩
theorem Aw.via {g b : Nat} {u v w : World} (h : Aw b b u v) (h' : Aw g g v w) : Aw g b u w :=
  ⟨h'.1.trans h.1, h'.2.1.trans h.2.1, h'.2.2.1.trans h.2.2.1, Nat.le_trans h.2.2.2.1 h'.2.2.2.1, fun k hk h1 h2 => (h'.2.2.2.2 k (Nat.lt_of_lt_of_le hk h.2.2.2.1) h1 h1).trans (h.2.2.2.2 k hk h2 h2)⟩
/-- What happens to a block that is new at u does not count. -/
theorem Aw.since {g b : Nat} {u v w : World} (h : Aw g g u v) (h' : Aw g b v w) (hb : u.heap.size ≤ b) : Aw g g u w :=
  ⟨h'.1.trans h.1, h'.2.1.trans h.2.1, h'.2.2.1.trans h.2.2.1, Nat.le_trans h.2.2.2.1 h'.2.2.2.1, fun k hk h1 _ => (h'.2.2.2.2 k (Nat.lt_of_lt_of_le hk h.2.2.2.1) h1 (by omega)).trans (h.2.2.2.2 k hk h1 h1)⟩
set_option maxRecDepth 100000 in
set_option maxHeartbeats 4000000 in
theorem number_any (w0 : World) (hv : Evs w0) (g : Nat) (E low : Int) (l : List Fnd) (w : World) (hb : Below w0.heap.size w0 w) (h : Par w g E l) :
    Calls Tryz.prog 150 #[.pointer (some ⟨g, 0, none⟩), .int .i64 low] w (Rd IntR w g E (numP E low l)) := by
  have hlt := h.lt
  have hb1 : Below w.heap.size w ((w.alloc (.cells #[.int .i64 low] 3)).alloc (.cells #[.int .i64 0] 3)) := ((Below.refl _ _).alloc (Nat.le_refl _) _).alloc (by simp) _
  have hl := (Has.new w 3 #[.int .i64 low]).alloc (.cells #[.int .i64 0] 3)
  have hn := Has.new (w.alloc (.cells #[.int .i64 low] 3)) 3 #[.int .i64 0]
  rw [World.size_alloc] at hn
  have HPar := Lib.hid (h.below hb1)
  have H1 := Lib.hid hb1
  rcases tok_cases 2 l with hk | ⟨t, r, rfl, hk⟩
  · have HQ := Lib.hid (show numP E low l = .bad (fcode 8 l) (fat E l) by unfold numP; rw [nextP_bad hk]; rfl)
    have HN := Lib.hid (next_bad g E 2 (.func (.func 155) #[] #[.pointer (some ⟨w.heap.size + 1, 0, none⟩), .pointer (some ⟨w.heap.size, 0, none⟩)]) (numB low) l _ HPar.out hk)
    clear hb hl hn hb1 h hk
    go_enter Tryz.func150, Tryz.ntmps150
    go_wp2_with (go_at_call 123; refine HN.out.mono ?_; rintro e w1 ⟨rfl, rfl⟩)
    exact ⟨rfl, Rd.bad HQ.out (.of_below H1.out)⟩
  · have hsz : t.text.size ≤ 1000000 := by
      obtain ⟨_, _, _, _, _, _, hs, _⟩ := h.cons
      exact hs
    have hF := enters_of Tryz.func155 (by kernel_rfl) rfl
    have hcc := num1_any w0 hv t.text hsz low 0 (w.heap.size + 1) w.heap.size _ (hb.trans (hb1.mono hb.size)) hn hl (by omega)
    have hsm := hn.small (Nat.le_succ 1)
    cases hck : numB low t.text with
    | true =>
      have HQ := Lib.hid (show numP E low (t :: r) = .ok (atoiV t.text.data.toList) r by unfold numP; rw [nextP_ok hk hck]; rfl)
      rw [hck] at hcc
      have hN := next_ok g (w.heap.size + 1) E 155 #[.pointer (some ⟨w.heap.size + 1, 0, none⟩), .pointer (some ⟨w.heap.size, 0, none⟩)] hF t r _ (fun W => Has W (w.heap.size + 1) 3 #[.int .i64 (atoiV t.text.data.toList)]) HPar.out hsm (by omega) hcc
      rw [hk] at hN
      have HN := Lib.hid hN
      clear hb hl hn hb1 h hk hcc hN hF hck hsm hsz HPar
      generalize atoiV t.text.data.toList = n at *
      go_enter Tryz.func150, Tryz.ntmps150
      go_wp2_with (go_at_call 123; refine HN.out.mono ?_; clear HN; rintro e w1 ⟨w2, h2, h3, rfl, h4, h5⟩; have HB := Lib.hid (h3.aw h4 (by omega) (by omega)); have HA := Lib.hid (show Aw g g w w1 from (Aw.of_below H1.out).since (h2.via h4) (by omega)); have HP := Lib.hid h5; clear h2 h3 h4 h5; obtain ⟨d1, g1⟩ := HB.out.facts)
      go_ret
      exact Rd.ok HQ.out HA.out rfl HP.out
    | false =>
      have HQ := Lib.hid (show numP E low (t :: r) = .bad 13 t.pos by unfold numP; rw [nextP_no hk hck]; rfl)
      rw [hck] at hcc
      have hN := next_no g (w.heap.size + 1) E 155 #[.pointer (some ⟨w.heap.size + 1, 0, none⟩), .pointer (some ⟨w.heap.size, 0, none⟩)] hF t r _ (fun _ => True) HPar.out hsm (by omega) (hcc.mono fun e w' ⟨h1, h2, _⟩ => ⟨h1, h2, trivial⟩)
      rw [hk] at hN
      have HN := Lib.hid hN
      clear hb hl hn hb1 h hk hcc hN hF hck hsm hsz HPar
      go_enter Tryz.func150, Tryz.ntmps150
      go_wp2_with (go_at_call 123; refine HN.out.mono ?_; clear HN; rintro e w1 ⟨h2, _, rfl⟩)
      exact ⟨rfl, Rd.bad HQ.out ((Aw.of_below H1.out).since (Aw.via h2 (Aw.refl g g w1)) (by omega))⟩
end Go.Proofs.YtcpakaiblelmlaaGreatDoor
namespace Go.Proofs.YtcpakaiblelmlaaGreatDoor
open Go Go.RowKit Go.ChangeShapes Go.WideShapes Go.Deep
theorem addr_plainE {w : World} {a : Addr} {v : Value} (h : w.cell? a = some v) : a = ⟨a.block, a.off, none⟩ := by
  obtain ⟨b, o, sp⟩ := a
  cases sp with
  | none => rfl
  | some s => simp [World.cell?] at h; split at h <;> simp at h
section
variable {H : Type} {enc : TypeId × Value → H} {P : Program} {w : World} {base : Nat} {spare : Nat → Bool} {held : Bool}
/-- A slice whose elements are of C cells, each of which reads as something; the fuel of the elements is less. -/
theorem open_rowsE {α : Type} (d : α) {t e C fuel : Nat} {v : Value} {x : DataW H × List MemPlace} (R : List Value → α → Prop) (ht : P.underlying t = some (.slice e)) (hC : P.cellsOf e = C) (h0 : 0 < C)
    (hR : ∀ n cs y, n < fuel → DataW.trod enc P w base spare held n e cs = some y → cs.length = C → ∃ a, R cs a)
    (h : DataW.trod enc P w base spare held fuel t [v] = some x) :
    ∃ (A : Option Addr) (c : Nat) (l : List α), v = .slice A l.length c ∧ l.length ≤ c ∧ c ≤ maxLen ∧ (l.length = 0 ∨ ∃ b o, A = some ⟨b, o, none⟩ ∧
      ∀ i a, l[i]? = some a → ∃ cs, R cs a ∧ cs.length = C ∧ ∀ j u, cs[j]? = some u → w.cell? ⟨b, o + i * C + j, none⟩ = some u) := by
  subst hC
  rcases DataW.trod_slice ht h with ⟨h1, _⟩ | ⟨a, len, cap, elems, rest, n, hfu, hcs, _, _, hl, hm, hlen, hel, _, _⟩
  · have : v = .slice none 0 0 := by simpa using h1
    exact ⟨none, 0, [], this, Nat.le_refl _, by simp [maxLen], .inl rfl⟩
  · have hv : v = .slice (some a) len cap := by simpa using hcs
    have hex : ∀ i, i < len → ∃ q : List Value × α, R q.1 q.2 ∧ q.1.length = P.cellsOf e ∧ ∀ j u, q.1[j]? = some u → w.cell? ((a.add (i * P.cellsOf e)).add j) = some u := by
      intro i hi'
      have key := hel i hi'
      rw [List.getElem?_eq_getElem (by omega)] at key
      obtain ⟨cs', hc, ht'⟩ := Option.bind_eq_some_iff.1 key
      obtain ⟨_, hcl, hat⟩ := World.cells?_some hc
      obtain ⟨y, hy⟩ := hR _ _ _ (by omega) ht' hcl
      refine ⟨(cs', y), hy, hcl, fun j u hu => ?_⟩
      have hj : j < P.cellsOf e := by
        rcases Nat.lt_or_ge j (P.cellsOf e) with h1 | h1
        · exact h1
        · rw [List.getElem?_eq_none (by show cs'.length ≤ j; omega)] at hu; cases hu
      rw [hat j hj]; exact hu
    let f : Nat → List Value × α := fun i => if h : i < len then Classical.choose (hex i h) else ([], d)
    have hf : ∀ i, i < len → R (f i).1 (f i).2 ∧ (f i).1.length = P.cellsOf e ∧ ∀ j u, (f i).1[j]? = some u → w.cell? ((a.add (i * P.cellsOf e)).add j) = some u := by
      intro i hi'
      have : f i = Classical.choose (hex i hi') := dif_pos hi'
      rw [this]; exact Classical.choose_spec (hex i hi')
    have hll : ((List.range len).map fun i => (f i).2).length = len := by simp
    refine ⟨some a, cap, (List.range len).map fun i => (f i).2, by rw [hll]; exact hv, by omega, hm, ?_⟩
    by_cases hz : len = 0
    · exact .inl (by omega)
    · right
      obtain ⟨_, hl0, hc0⟩ := hf 0 (by omega)
      have hp : a = ⟨a.block, a.off, none⟩ := by
        have h1 := hc0 0 ((f 0).1[0]'(by omega)) (List.getElem?_eq_getElem (by omega))
        have e1 : (a.add (0 * P.cellsOf e)).add 0 = a := by simp [Addr.add]
        rw [e1] at h1
        exact addr_plainE h1
      refine ⟨a.block, a.off, congrArg some hp, fun i y hy => ?_⟩
      have hi' : i < len := by
        rcases Nat.lt_or_ge i len with h1 | h1
        · exact h1
        · rw [List.getElem?_eq_none (by omega)] at hy; cases hy
      have hyi : (f i).2 = y := by simpa [hi'] using hy
      obtain ⟨h1, h2, h3⟩ := hf i hi'
      refine ⟨(f i).1, hyi ▸ h1, h2, fun j u hu => ?_⟩
      have := h3 j u hu
      rw [hp] at this
      rwa [Addr.add_mid, Addr.add_mid] at this
/-- Numbers of a machine word. -/
def In64E (n : Int) : Prop := -9223372036854775808 ≤ n ∧ n ≤ 9223372036854775807
/-- What an argument's tree says of its leaves: strings that fit, numbers of a machine word. -/
inductive FitE : Ex → Prop
  | mk (e : Ex) (h1 : e.name.size ≤ maxLen) (h2 : e.value.size ≤ maxLen) (h3 : In64E e.op) (h4 : In64E e.n) (h5 : In64E e.extra) (h6 : e.kids.length ≤ maxLen) (hk : ∀ k ∈ e.kids, FitE k) : FitE e
theorem open_int64 {t : TypeId} {n : Nat} {c : Value} {z : DataW H × List MemPlace} (ht : P.underlying t = some (.int .i64)) (h : DataW.trod enc P w base spare held n t [c] = some z) : ∃ a : Int, c = .int .i64 a ∧ In64E a := by
  obtain ⟨a, ha, _, hw⟩ := DataW.trod_int ht h
  refine ⟨a, by simpa using ha, ?_⟩
  have e1 : IntKind.i64.min = -9223372036854775808 := (by decide)
  have e2 : IntKind.i64.max = 9223372036854775807 := (by decide)
  simpa [Lit.wf, e1, e2, In64E] using hw
theorem open_strE {t : TypeId} {n : Nat} {c : Value} {z : DataW H × List MemPlace} (ht : P.underlying t = some .string) (h : DataW.trod enc P w base spare held n t [c] = some z) : ∃ a : ByteArray, c = .string a ∧ a.size ≤ maxLen := by
  obtain ⟨a, ha, _, hs⟩ := DataW.trod_string ht h
  exact ⟨a, by simpa using ha, hs⟩
theorem cEx : Tryz.prog.cellsOf 27 = 6 := by kernel_rfl
theorem cSE : Tryz.prog.cellsOf 9 = 1 := by kernel_rfl
theorem cIE : Tryz.prog.cellsOf 3 = 1 := by kernel_rfl
theorem cKE : Tryz.prog.cellsOf 25 = 1 := by kernel_rfl
def exL (e : Ex) (kv : Value) : List Value := [.int .i64 e.op, .string e.name, .string e.value, .int .i64 e.n, .int .i64 e.extra, kv]
theorem exL_get (e : Ex) (kv : Value) (j : Nat) (h : j < 6) : (exL e kv)[j]? = some (exF e kv j) := by
  rcases j with _ | _ | _ | _ | _ | _ | j
  · rfl
  · rfl
  · rfl
  · rfl
  · rfl
  · rfl
  · omega
def exN : Ex := .mk 0 ⟨#[]⟩ ⟨#[]⟩ 0 0 []
set_option maxRecDepth 100000 in
set_option maxHeartbeats 1000000 in
/-- The kids of a condition, of whatever depth. -/
theorem open_ex : ∀ (fuel n : Nat), n < fuel → ∀ (cs : List Value) (y : DataW H × List MemPlace), DataW.trod enc Tryz.prog w base spare held n 27 cs = some y → cs.length = 6 → ∃ e kv, cs = exL e kv ∧ Lay w kv e.kids ∧ FitE e := by
  intro fuel
  induction fuel with
  | zero => intro n hn; omega
  | succ fuel ih =>
    intro n hn cs y h hl
    obtain ⟨xs, m, rfl, _, _, hxl, hf⟩ := DataW.trod_struct Tryz.underlying27 h
    match cs, hl with
    | [c0, c1, c2, c3, c4, c5], _ =>
      have ok : ∀ i, i < 6 → ∃ z, xs[i]? = some z := fun i hi => ⟨_, List.getElem?_eq_getElem (by rw [hxl]; exact hi)⟩
      obtain ⟨z0, e0'⟩ := ok 0 (by omega)
      obtain ⟨z1, e1⟩ := ok 1 (by omega)
      obtain ⟨z2, e2⟩ := ok 2 (by omega)
      obtain ⟨z3, e3⟩ := ok 3 (by omega)
      obtain ⟨z4, e4⟩ := ok 4 (by omega)
      obtain ⟨z5, e5⟩ := ok 5 (by omega)
      have f0 : DataW.trod enc Tryz.prog w base spare held m 3 (([c0, c1, c2, c3, c4, c5].drop 0).take (Tryz.prog.cellsOf 3)) = xs[0]? := hf 0 _ rfl
      have f1 : DataW.trod enc Tryz.prog w base spare held m 9 (([c0, c1, c2, c3, c4, c5].drop 1).take (Tryz.prog.cellsOf 9)) = xs[1]? := hf 1 _ rfl
      have f2 : DataW.trod enc Tryz.prog w base spare held m 9 (([c0, c1, c2, c3, c4, c5].drop 2).take (Tryz.prog.cellsOf 9)) = xs[2]? := hf 2 _ rfl
      have f3 : DataW.trod enc Tryz.prog w base spare held m 3 (([c0, c1, c2, c3, c4, c5].drop 3).take (Tryz.prog.cellsOf 3)) = xs[3]? := hf 3 _ rfl
      have f4 : DataW.trod enc Tryz.prog w base spare held m 3 (([c0, c1, c2, c3, c4, c5].drop 4).take (Tryz.prog.cellsOf 3)) = xs[4]? := hf 4 _ rfl
      have f5 : DataW.trod enc Tryz.prog w base spare held m 25 (([c0, c1, c2, c3, c4, c5].drop 5).take (Tryz.prog.cellsOf 25)) = xs[5]? := hf 5 _ rfl
      rw [cIE, e0'] at f0
      rw [cSE, e1] at f1
      rw [cSE, e2] at f2
      rw [cIE, e3] at f3
      rw [cIE, e4] at f4
      rw [cKE, e5] at f5
      obtain ⟨op, rfl, s0⟩ := open_int64 Tryz.underlying3 f0
      obtain ⟨nm, rfl, s1⟩ := open_strE Tryz.underlying9 f1
      obtain ⟨vl, rfl, s2⟩ := open_strE Tryz.underlying9 f2
      obtain ⟨nn, rfl, s3⟩ := open_int64 Tryz.underlying3 f3
      obtain ⟨xx, rfl, s4⟩ := open_int64 Tryz.underlying3 f4
      have f5' : DataW.trod enc Tryz.prog w base spare held m 25 [c5] = some z5 := f5
      obtain ⟨A, c, l, rfl, hlc, hcm, hl⟩ := open_rowsE (exN, undef) (fun cs (q : Ex × Value) => cs = exL q.1 q.2 ∧ Lay w q.2 q.1.kids ∧ FitE q.1) Tryz.underlying25 cEx (by omega)
        (fun n' cs' y' hn' h' hl' => by
          obtain ⟨e, kv, h1, h2, h3⟩ := ih n' (by omega) cs' y' h' hl'
          exact ⟨(e, kv), h1, h2, h3⟩) f5'
      have hlen : (l.map (·.1)).length = l.length := List.length_map _
      refine ⟨.mk op nm vl nn xx (l.map (·.1)), .slice A l.length c, rfl, ?_, ?_⟩
      · show Lay w (.slice A l.length c) (l.map (·.1))
        rw [← hlen]
        have hel : ∀ i (hi : i < (l.map (·.1)).length), ∃ q, l[i]? = some q ∧ (l.map (·.1))[i] = q.1 := fun i hi => ⟨l[i]'(by rwa [hlen] at hi), List.getElem?_eq_getElem _, by rw [List.getElem_map]⟩
        refine .mk A c _ (fun i => (l.getD i (exN, undef)).2) (by rw [hlen]; exact hlc) ?_ fun i hi => ?_
        · rcases hl with h0 | ⟨b, o, hA, hi⟩
          · exact .inl (by rw [hlen]; exact h0)
          · refine .inr ⟨b, o, hA, trivial, fun i hi' j hj => ?_⟩
            obtain ⟨q, hq, hq1⟩ := hel i hi'
            obtain ⟨cs, ⟨rfl, _, _⟩, _, hc⟩ := hi i q hq
            have := hc j _ (exL_get q.1 q.2 j hj)
            rw [hq1, List.getD_eq_getElem?_getD, hq, ← Nat.add_assoc]
            exact this
        · obtain ⟨q, hq, hq1⟩ := hel i hi
          rcases hl with h0 | ⟨b, o, hA, hi'⟩
          · omega
          · obtain ⟨cs, ⟨_, h2, _⟩, _, _⟩ := hi' i q hq
            rw [hq1, List.getD_eq_getElem?_getD, hq]
            exact h2
      · refine .mk _ s1 s2 s0 s3 s4 (by show (l.map (·.1)).length ≤ _; rw [hlen]; omega) fun k hk => ?_
        obtain ⟨q, hq, rfl⟩ := List.mem_map.1 hk
        obtain ⟨i, hi, rfl⟩ := List.getElem_of_mem hq
        rcases hl with h0 | ⟨b, o, hA, hi'⟩
        · omega
        · obtain ⟨cs, ⟨_, _, h3⟩, _, _⟩ := hi' i l[i] (List.getElem?_eq_getElem hi)
          exact h3
theorem cRu : Tryz.prog.cellsOf 29 = 8 := by kernel_rfl
set_option maxRecDepth 100000 in
set_option maxHeartbeats 1000000 in
/-- A rule. -/
theorem open_ru {n : Nat} {cs : List Value} {y : DataW H × List MemPlace} (h : DataW.trod enc Tryz.prog w base spare held n 29 cs = some y) (hl : cs.length = 8) :
    ∃ (r : Ru) (kv : Value), cs = (ruA r kv).toList ∧ Lay w kv r.cond.kids ∧ FitE r.cond ∧ r.name.size ≤ maxLen ∧ r.kind.size ≤ maxLen := by
  obtain ⟨xs, m, rfl, _, _, hxl, hf⟩ := DataW.trod_struct Tryz.underlying29 h
  match cs, hl with
  | [c0, c1, d0, d1, d2, d3, d4, d5], _ =>
    have ok : ∀ i, i < 3 → ∃ z, xs[i]? = some z := fun i hi => ⟨_, List.getElem?_eq_getElem (by rw [hxl]; exact hi)⟩
    obtain ⟨z0, e0'⟩ := ok 0 (by omega)
    obtain ⟨z1, e1⟩ := ok 1 (by omega)
    obtain ⟨z2, e2⟩ := ok 2 (by omega)
    have f0 : DataW.trod enc Tryz.prog w base spare held m 9 (([c0, c1, d0, d1, d2, d3, d4, d5].drop 0).take (Tryz.prog.cellsOf 9)) = xs[0]? := hf 0 _ rfl
    have f1 : DataW.trod enc Tryz.prog w base spare held m 9 (([c0, c1, d0, d1, d2, d3, d4, d5].drop 1).take (Tryz.prog.cellsOf 9)) = xs[1]? := hf 1 _ rfl
    have f2 : DataW.trod enc Tryz.prog w base spare held m 27 (([c0, c1, d0, d1, d2, d3, d4, d5].drop 2).take (Tryz.prog.cellsOf 27)) = xs[2]? := hf 2 _ rfl
    rw [cSE, e0'] at f0
    rw [cSE, e1] at f1
    rw [cEx, e2] at f2
    obtain ⟨nm, rfl, s0⟩ := open_strE Tryz.underlying9 f0
    obtain ⟨kd, rfl, s1⟩ := open_strE Tryz.underlying9 f1
    obtain ⟨e, kv, h1, h2, h3⟩ := open_ex (m + 1) m (by omega) _ _ f2 rfl
    have h1' : [d0, d1, d2, d3, d4, d5] = exL e kv := h1
    simp only [exL, List.cons.injEq, and_true] at h1'
    obtain ⟨rfl, rfl, rfl, rfl, rfl, rfl⟩ := h1'
    exact ⟨⟨nm, kd, e⟩, _, rfl, h2, h3, s0, s1⟩
end
end Go.Proofs.YtcpakaiblelmlaaGreatDoor
