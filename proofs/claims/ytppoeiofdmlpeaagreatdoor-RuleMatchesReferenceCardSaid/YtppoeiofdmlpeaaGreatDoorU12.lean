/- The parser of rules in memory: its object, its tokens, what a call leaves. No condition. The parser's small steps: (*parser).fail and (*parser).skip. Condition: the object lies in memory. The parser's (*parser).want of one word. Condition: the object lies in memory. strconv.Atoi at every text. Condition: the two error variables hold something. The parser's (*parser).next with whatever check; name and number. Condition: the object lies in memory. The parser's name and number. Condition: the object lies in memory; the two error variables of strconv hold something. Rows of conditions that a call makes; the closure of rule.of. Condition: none but that the cells lie in memory. Maps that a call makes: what a look-up and a store do, over whatever keys can be told apart. No condition. Strings as keys of a map that a call makes. No condition. rule.series at conditions: things with a word between them. Condition: what reads one thing keeps its contract. -/
import Derived.Maps.RangeWalk
import Derived.WalkSmall
import Derived.WideKeyRuns
import Derived.Test.YtppoeiofdmlpeaaGreatDoorProg
import Derived.Test.YtppoeiofdmlpeaaGreatDoorU01
import Derived.Test.YtppoeiofdmlpeaaGreatDoorU02
import Derived.Test.YtppoeiofdmlpeaaGreatDoorU04
import Derived.Test.YtppoeiofdmlpeaaGreatDoorU09
import Derived.Test.YtppoeiofdmlpeaaGreatDoorU11
namespace Go.Proofs.YtppoeiofdmlpeaaGreatDoor
open Go Go.RowKit
/-- All blocks but g and b stay. -/
def Aw (g b : Nat) (w w' : World) : Prop := w'.os = w.os ∧ w'.tape = w.tape ∧ w'.output = w.output ∧ w.heap.size ≤ w'.heap.size ∧ ∀ k, k < w.heap.size → k ≠ g → k ≠ b → w'.heap[k]? = w.heap[k]?
theorem Aw.refl (g b : Nat) (w : World) : Aw g b w w := ⟨rfl, rfl, rfl, Nat.le_refl _, fun _ _ _ _ => rfl⟩
theorem Aw.trans {g b : Nat} {u v w : World} (h : Aw g b u v) (h' : Aw g b v w) : Aw g b u w :=
  ⟨h'.1.trans h.1, h'.2.1.trans h.2.1, h'.2.2.1.trans h.2.2.1, Nat.le_trans h.2.2.2.1 h'.2.2.2.1, fun k hk h1 h2 => (h'.2.2.2.2 k (Nat.lt_of_lt_of_le hk h.2.2.2.1) h1 h2).trans (h.2.2.2.2 k hk h1 h2)⟩
theorem Aw.of_below {g b : Nat} {w w' : World} (h : Below w.heap.size w w') : Aw g b w w' := ⟨h.os, h.tape, h.output, h.size, fun k hk _ _ => h.block k hk⟩
theorem Aw.alloc {g b : Nat} {u w : World} (h : Aw g b u w) (o : Obj) : Aw g b u (w.alloc o) := h.trans (.of_below ((Below.refl _ _).alloc (Nat.le_refl _) o))
theorem Aw.drew {g b : Nat} {u w : World} (h : Aw g b u w) : Aw g b u w.drew := h
theorem Aw.set {g b : Nat} {u w : World} (h : Aw g b u w) (k i : Nat) (hk : k = g ∨ k = b ∨ u.heap.size ≤ k) (v : Value) : Aw g b u (w.setCell ⟨k, i, none⟩ v) :=
  ⟨h.1, h.2.1, h.2.2.1, by rw [World.size_setCell]; exact h.2.2.2.1, fun j hj h1 h2 => (heap_setCell_other w ⟨k, i, none⟩ j v (by intro e; have e : j = k := e; omega)).trans (h.2.2.2.2 j hj h1 h2)⟩
/-- What is done to a new block counts as nothing. -/
theorem Aw.fresh {g b c : Nat} {u v w : World} (h : Aw g g u v) (h' : Aw g c v w) (hc : u.heap.size ≤ c) : Aw g b u w :=
  ⟨h'.1.trans h.1, h'.2.1.trans h.2.1, h'.2.2.1.trans h.2.2.1, Nat.le_trans h.2.2.2.1 h'.2.2.2.1, fun k hk h1 h2 => (h'.2.2.2.2 k (Nat.lt_of_lt_of_le hk h.2.2.2.1) h1 (by omega)).trans (h.2.2.2.2 k hk h1 h1)⟩
theorem Aw.one {g b : Nat} {u v : World} (h : Aw g g u v) : Aw g b u v := ⟨h.1, h.2.1, h.2.2.1, h.2.2.2.1, fun k hk h1 _ => h.2.2.2.2 k hk h1 h1⟩
theorem Aw.below {g b : Nat} {w0 u v : World} (hb : Below w0.heap.size w0 u) (h : Aw g b u v) (hg : w0.heap.size ≤ g) (hb' : w0.heap.size ≤ b) : Below w0.heap.size w0 v :=
  ⟨h.1.trans hb.os, h.2.1.trans hb.tape, h.2.2.1.trans hb.output, Nat.le_trans hb.size h.2.2.2.1, fun k hk => (h.2.2.2.2 k (Nat.lt_of_lt_of_le hk hb.size) (by omega) (by omega)).trans (hb.block k hk)⟩
theorem Has.aw {g b k t : Nat} {cs : Array Value} {u v : World} (h : Has u k t cs) (ha : Aw g b u v) (h1 : k ≠ g) (h2 : k ≠ b) : Has v k t cs := (ha.2.2.2.2 k h.lt h1 h2).trans h
/-- A block with at most two cells. -/
def Small (w : World) (g : Nat) : Prop := ∀ o v, 2 ≤ o → w.cell? ⟨g, o, none⟩ = some v → False
theorem Has.small {w : World} {g t : Nat} {cs : Array Value} (h : Has w g t cs) (hs : cs.size ≤ 2) : Small w g := fun o v ho hv => by
  rw [h.cell o, Array.getElem?_eq_none (by omega)] at hv; cases hv
theorem KeepsC.aw {g b : Nat} {u v : World} (h : Aw g b u v) (hg : Small u g) (hb : Small u b) : KeepsC u v := fun k ⟨o, x, ho, hx⟩ j => by
  have hk := cell_size hx
  have h1 : k ≠ g := fun e => by subst e; exact hg o x ho hx
  have h2 : k ≠ b := fun e => by subst e; exact hb o x ho hx
  unfold World.cell?
  show (match v.heap[k]? with | _ => _) = (match u.heap[k]? with | _ => _)
  rw [h.2.2.2.2 k hk h1 h2]
/-- The cells of token i. -/
def tokAt (l : List Fnd) (i : Nat) : Fnd := l.getD i ⟨0, ⟨#[]⟩, 0, 0⟩
/-- A slice that reads as tokens, in a block ahead of g. -/
def Tl (g : Nat) (w : World) (v : Value) (l : List Fnd) : Prop :=
  (∀ t ∈ l, t.text.size ≤ 1000000) ∧ ∃ A c, v = .slice A l.length c ∧ l.length ≤ c ∧ c ≤ 9223372036854775807 ∧ (l = [] ∨ ∃ b o, A = some ⟨b, o, none⟩ ∧ b < g ∧ ∀ i, i < l.length →
    w.cell? ⟨b, o + i * 3, none⟩ = some (.int .i64 (tokAt l i).kind) ∧ w.cell? ⟨b, o + i * 3 + 1, none⟩ = some (.string (tokAt l i).text) ∧ w.cell? ⟨b, o + i * 3 + 2, none⟩ = some (.int .i64 (tokAt l i).pos))
theorem Tl.keeps {g : Nat} {w w' : World} {v : Value} {l : List Fnd} (h : Tl g w v l) (hk : KeepsC w w') : Tl g w' v l := by
  obtain ⟨hz, A, c, e, h1, h2, h3⟩ := h
  refine ⟨hz, A, c, e, h1, h2, h3.imp id fun ⟨b, o, e, hg, hh⟩ => ⟨b, o, e, hg, fun i hi => ?_⟩⟩
  have hb := hk b ⟨_, _, by omega, (hh i hi).2.2⟩
  obtain ⟨a1, a2, a3⟩ := hh i hi
  exact ⟨(hb _).trans a1, (hb _).trans a2, (hb _).trans a3⟩
/-- The parser's object: the tokens still to come, and the text's end. -/
def Par (w : World) (g : Nat) (E : Int) (l : List Fnd) : Prop := ∃ v, Has w g 51 #[v, .int .i64 E] ∧ Tl g w v l
theorem Par.small {w : World} {g : Nat} {E : Int} {l : List Fnd} (h : Par w g E l) : Small w g := by
  obtain ⟨v, h1, _⟩ := h
  exact h1.small (Nat.le_refl 2)
theorem Par.lt {w : World} {g : Nat} {E : Int} {l : List Fnd} (h : Par w g E l) : g < w.heap.size := by
  obtain ⟨v, h1, _⟩ := h
  exact h1.lt
theorem Par.below {w w' : World} {g : Nat} {E : Int} {l : List Fnd} (h : Par w g E l) (hb : Below w.heap.size w w') : Par w' g E l := by
  obtain ⟨v, h1, h2⟩ := h
  exact ⟨v, h1.below hb h1.lt, h2.keeps (.below hb)⟩
/-- The object stays where the blocks up to it stay. -/
theorem Par.on {w w' : World} {g : Nat} {E : Int} {l : List Fnd} (h : Par w g E l) (hk : ∀ b, b ≤ g → w'.heap[b]? = w.heap[b]?) : Par w' g E l := by
  obtain ⟨v, h1, hz, A, c, e, h2, h3, h4⟩ := h
  refine ⟨v, (hk g (Nat.le_refl _)).trans h1, hz, A, c, e, h2, h3, h4.imp id fun ⟨b, o, e, hg, hh⟩ => ⟨b, o, e, hg, fun i hi => ?_⟩⟩
  have hc : ∀ j, w'.cell? ⟨b, j, none⟩ = w.cell? ⟨b, j, none⟩ := fun j => by
    unfold World.cell?
    show (match w'.heap[b]? with | _ => _) = (match w.heap[b]? with | _ => _)
    rw [hk b (Nat.le_of_lt hg)]
  obtain ⟨a1, a2, a3⟩ := hh i hi
  exact ⟨(hc _).trans a1, (hc _).trans a2, (hc _).trans a3⟩
/-- The object taken apart. -/
theorem Par.nil {w : World} {g : Nat} {E : Int} (h : Par w g E []) : ∃ A c, Has w g 51 #[.slice A 0 c, .int .i64 E] ∧ c ≤ 9223372036854775807 := by
  obtain ⟨v, h1, _, A, c, rfl, _, h3, _⟩ := h
  exact ⟨A, c, h1, h3⟩
theorem Par.cons {w : World} {g : Nat} {E : Int} {t : Fnd} {r : List Fnd} (h : Par w g E (t :: r)) : ∃ b o c, Has w g 51 #[.slice (some ⟨b, o, none⟩) (r.length + 1) c, .int .i64 E] ∧ r.length + 1 ≤ c ∧ c ≤ 9223372036854775807 ∧ t.text.size ≤ 1000000 ∧
    w.cell? ⟨b, o, none⟩ = some (.int .i64 t.kind) ∧ w.cell? ⟨b, o + 1, none⟩ = some (.string t.text) ∧ w.cell? ⟨b, o + 2, none⟩ = some (.int .i64 t.pos) ∧
    (∀ w', KeepsC w w' → Has w' g 51 #[.slice (some ⟨b, o + 3, none⟩) r.length (c - 1), .int .i64 E] → Par w' g E r) := by
  obtain ⟨v, h1, hz, A, c, rfl, h2, h3, h4⟩ := h
  rcases h4 with h4 | ⟨b, o, rfl, hbg, h4⟩
  · cases h4
  · have h40 := h4 0 (by simp)
    rw [show tokAt (t :: r) 0 = t from rfl] at h40
    rw [List.length_cons] at h2
    refine ⟨b, o, c, h1, h2, h3, hz t (List.mem_cons_self ..), by simpa using h40.1, by simpa using h40.2.1, by simpa using h40.2.2, fun w' hk hh => ⟨_, hh, fun x hx => hz x (List.mem_cons_of_mem _ hx), _, _, rfl, by omega, by omega, .inr ⟨b, o + 3, rfl, hbg, fun i hi => ?_⟩⟩⟩
    have h := h4 (i + 1) (by rw [List.length_cons]; omega)
    have hb := hk b ⟨_, _, by omega, h.2.2⟩
    have e : o + 3 + i * 3 = o + (i + 1) * 3 := by omega
    rw [e]
    exact ⟨(hb _).trans h.1, (hb _).trans h.2.1, (hb _).trans h.2.2⟩
/-- The failure that a reading ends with. -/
abbrev failV (e a : Int) : Ending := .panicked [{ v := .iface 48 (.agg #[.int .i64 e, .int .i64 a]), recovered := false }]
/-- What a reading leaves: a failure, or a thing and the tokens behind it; nothing but the object turns. -/
def Rd {α : Type} (R : World → Value → α → Prop) (w : World) (g : Nat) (E : Int) (q : Got α) (e : Ending) (w' : World) : Prop :=
  Aw g g w w' ∧ match q with
    | .bad er a => e = failV er a
    | .ok x r => (∃ v, e = .returned v ∧ R w' v x) ∧ Par w' g E r
end Go.Proofs.YtppoeiofdmlpeaaGreatDoor
namespace Go.Proofs.YtppoeiofdmlpeaaGreatDoor
open Go Go.RowKit
/-- The error and the offset that fail ends with. -/
def fcode (e : Int) : List Fnd → Int
  | [] => 9
  | _ :: _ => e
def fat (E : Int) : List Fnd → Int
  | [] => E
  | t :: _ => t.pos
theorem failP_eq {α : Type} (E e : Int) (l : List Fnd) : (failP E e l : Got α) = .bad (fcode e l) (fat E l) := by cases l <;> rfl
set_option maxRecDepth 100000 in
set_option maxHeartbeats 4000000 in
theorem fail_any (g : Nat) (E e : Int) (l : List Fnd) (w : World) (h : Par w g E l) :
    Calls Tryz.prog 46 #[.pointer (some ⟨g, 0, none⟩), .int .i64 e] w fun r w' => r = failV (fcode e l) (fat E l) ∧ w' = w := by
  cases l with
  | nil =>
    obtain ⟨A, c, h1, h2⟩ := h.nil
    obtain ⟨c1, f1⟩ := h1.facts
    go_enter Tryz.func46, Tryz.ntmps46
    go_wp2
    exact ⟨rfl, rfl, rfl⟩
  | cons t r =>
    obtain ⟨b, o, c, h1, h2, h3, _, ct1, ct2, ct3, _⟩ := h.cons
    obtain ⟨c1, f1⟩ := h1.facts
    have hne : (((r.length + 1 : Nat) : Int) == 0) = false := by simp; omega
    go_enter Tryz.func46, Tryz.ntmps46
    go_wp2
    exact ⟨rfl, rfl, rfl⟩
/-- The object behind a token that is read, wherever the empty rest points. -/
theorem Par.step {w : World} {g : Nat} {E : Int} {r : List Fnd} {b o c : Nat} {x : Value} (h1 : Has w g 51 #[x, .int .i64 E]) (hc : c ≤ 9223372036854775807)
    (h : ∀ w', KeepsC w w' → Has w' g 51 #[.slice (some ⟨b, o + 3, none⟩) r.length (c - 1), .int .i64 E] → Par w' g E r) (A : Option Addr) (n d : Nat) (hn : n = r.length) (hA : A = some ⟨b, o + 3, none⟩ ∧ d = c - 1 ∨ r = [] ∧ d ≤ c) :
    Par (w.setCell ⟨g, 0, none⟩ (.slice A n d)) g E r ∧ Aw g g w (w.setCell ⟨g, 0, none⟩ (.slice A n d)) := by
  have ha : Aw g g w (w.setCell ⟨g, 0, none⟩ (.slice A n d)) := (Aw.refl g g w).set g 0 (.inl rfl) _
  refine ⟨?_, ha⟩
  rcases hA with ⟨rfl, rfl⟩ | ⟨rfl, hd⟩
  · subst hn
    exact h _ (.aw ha (h1.small (Nat.le_refl 2)) (h1.small (Nat.le_refl 2))) (h1.put 0 _)
  · subst hn
    exact ⟨_, h1.put 0 _, fun x hx => (by cases hx), A, d, rfl, Nat.zero_le _, by omega, .inl rfl⟩
theorem text_ne {a b : ByteArray} (h : ¬ a = b) : ¬ a.toList = b.toList := fun e => h (by
  rw [_root_.Go.ByteArray.toList_eq, _root_.Go.ByteArray.toList_eq] at e
  cases a; cases b
  exact congrArg _ (Array.toList_inj.1 e))
theorem skip_parts {s : ByteArray} {t : Fnd} {r : List Fnd} (h : skipB s (t :: r) = true) : t.text = s ∧ (t.kind = 1 ∨ t.kind = 4) := of_decide_eq_true h
set_option maxRecDepth 100000 in
set_option maxHeartbeats 4000000 in
theorem skip_yes (g : Nat) (E : Int) (s : ByteArray) (l : List Fnd) (w : World) (h : Par w g E l) (hy : skipB s l = true) :
    Calls Tryz.prog 71 #[.pointer (some ⟨g, 0, none⟩), .string s] w fun e w' => e = .returned (.bool true) ∧ Aw g g w w' ∧ Par w' g E l.tail := by
  cases l with
  | nil => cases hy
  | cons t r =>
    obtain ⟨e1, e2⟩ := skip_parts hy
    obtain ⟨b, o, c, h1, h2, h3, _, ct1, ct2, ct3, hs⟩ := h.cons
    obtain ⟨c1, f1⟩ := h1.facts
    have hne : (((r.length + 1 : Nat) : Int) == 0) = false := by simp; omega
    have HS := Lib.hid (Par.step h1 h3 hs)
    have HR := Lib.hid (show c = 1 → r = [] from fun e => List.eq_nil_of_length_eq_zero (by omega))
    clear hs h hy
    rw [e1] at ct2
    clear e1
    rcases e2 with e2 | e2
    all_goals
      rw [e2] at ct1
      clear e2
      go_enter Tryz.func71, Tryz.ntmps71
      go_wp2
      all_goals
        go_ret
        refine ⟨rfl, ?_, ?_⟩
        · first | exact (HS.out _ _ _ rfl (.inl ⟨rfl, rfl⟩)).2 | exact (HS.out _ _ _ rfl (.inr ⟨HR.out (by assumption), by omega⟩)).2
        · first | exact (HS.out _ _ _ rfl (.inl ⟨rfl, rfl⟩)).1 | exact (HS.out _ _ _ rfl (.inr ⟨HR.out (by assumption), by omega⟩)).1
set_option maxRecDepth 100000 in
set_option maxHeartbeats 4000000 in
theorem skip_no (g : Nat) (E : Int) (s : ByteArray) (l : List Fnd) (w : World) (h : Par w g E l) (hy : skipB s l = false) :
    Calls Tryz.prog 71 #[.pointer (some ⟨g, 0, none⟩), .string s] w fun e w' => e = .returned (.bool false) ∧ w' = w := by
  cases l with
  | nil =>
    obtain ⟨A, c, h1, h2⟩ := h.nil
    obtain ⟨c1, f1⟩ := h1.facts
    clear hy
    go_enter Tryz.func71, Tryz.ntmps71
    go_wp2
    go_ret
    exact ⟨rfl, rfl⟩
  | cons t r =>
    obtain ⟨b, o, c, h1, h2, h3, _, ct1, ct2, ct3, _⟩ := h.cons
    obtain ⟨c1, f1⟩ := h1.facts
    have hne : (((r.length + 1 : Nat) : Int) == 0) = false := by simp; omega
    clear h
    have hy2 := of_decide_eq_false hy
    clear hy
    by_cases e1 : t.text = s
    · have e2 : ¬ (t.kind = 1 ∨ t.kind = 4) := fun h => hy2 ⟨e1, h⟩
      have n1 : (t.kind != 1) = true := by simpa using fun h => e2 (.inl h)
      have n4 : (t.kind != 4) = true := by simpa using fun h => e2 (.inr h)
      rw [e1] at ct2
      clear e2 hy2 e1
      go_enter Tryz.func71, Tryz.ntmps71
      go_wp2
      go_ret
      exact ⟨rfl, rfl⟩
    · have e1' := text_ne e1
      have e2' : (t.text.toList != s.toList) = true := by simpa using e1'
      clear hy2
      go_enter Tryz.func71, Tryz.ntmps71
      go_wp2
      go_ret
      exact ⟨rfl, rfl⟩
end Go.Proofs.YtppoeiofdmlpeaaGreatDoor
namespace Go.Proofs.YtppoeiofdmlpeaaGreatDoor
open Go Go.RowKit
set_option maxRecDepth 100000 in
set_option maxHeartbeats 4000000 in
theorem want_yes (g : Nat) (E : Int) (s : ByteArray) (l : List Fnd) (b c : Nat) (w : World) (h : Par w g E l) (hb : w.cell? ⟨b, 0, none⟩ = some (.string s)) (hy : skipB s l = true) :
    Calls Tryz.prog 43 #[.pointer (some ⟨g, 0, none⟩), .slice (some ⟨b, 0, none⟩) 1 c] w fun e w' => e = .returned (.tuple #[]) ∧ Aw g g w w' ∧ Par w' g E l.tail := by
  have HP := Lib.hid h
  clear h
  go_enter Tryz.func43, Tryz.ntmps43
  go_wp2_with fail
  go_loopw [8] (fun i wr => (i = .int .i64 0 ∧ wr = w) ∨ (i = .int .i64 1 ∧ Hid (Par wr g E l.tail) ∧ Hid (Aw g g w wr))) (fun i _ => 2 - (intOf i).toNat)
  case atStart => exact .inl ⟨rfl, rfl⟩
  case round =>
    rcases hrel with ⟨rfl, rfl⟩ | ⟨rfl, H1, H2⟩
    · go_wp2_with (go_at_call 71; refine (skip_yes g E s l _ HP.out hy).mono ?_; rintro e w1 ⟨rfl, ha, hp⟩; have HA := Lib.hid ha; have HQ := Lib.hid hp; clear ha hp)
      go_roundw
      case rel => exact .inr ⟨by go_num, HQ, HA⟩
      case measure => simp [intOf]
    · go_wp2_with fail
      go_end0
      exact ⟨rfl, H2.out, H1.out⟩
set_option maxRecDepth 100000 in
set_option maxHeartbeats 4000000 in
theorem want_no (g : Nat) (E : Int) (s : ByteArray) (l : List Fnd) (b c : Nat) (w : World) (h : Par w g E l) (hb : w.cell? ⟨b, 0, none⟩ = some (.string s)) (hy : skipB s l = false) :
    Calls Tryz.prog 43 #[.pointer (some ⟨g, 0, none⟩), .slice (some ⟨b, 0, none⟩) 1 c] w fun e w' => e = failV (fcode 8 l) (fat E l) ∧ w' = w := by
  have HP := Lib.hid h
  clear h
  go_enter Tryz.func43, Tryz.ntmps43
  go_wp2_with fail
  go_loopw [8] (fun i wr => i = .int .i64 0 ∧ wr = w) (fun i _ => 2 - (intOf i).toNat)
  case atStart => exact ⟨rfl, rfl⟩
  case round =>
    obtain ⟨rfl, rfl⟩ := hrel
    go_wp2_with (first
      | (go_at_call 71; refine (skip_no g E s l _ HP.out hy).mono ?_; rintro e w1 ⟨rfl, rfl⟩)
      | (go_at_call 46; refine (fail_any g E 8 l _ HP.out).mono ?_; rintro e w1 ⟨rfl, rfl⟩))
    exact ⟨rfl, rfl, rfl⟩
theorem wantP_yes {E : Int} {s : ByteArray} {l : List Fnd} (h : skipB s l = true) : wantP E s l = .ok () l.tail := by unfold wantP; rw [if_pos h]
theorem wantP_no {E : Int} {s : ByteArray} {l : List Fnd} (h : skipB s l = false) : wantP E s l = .bad (fcode 8 l) (fat E l) := by
  unfold wantP; rw [if_neg (by rw [h]; exact Bool.false_ne_true), failP_eq]
/-- want of one word: it is there, or the reading fails. -/
theorem want_any (g : Nat) (E : Int) (s : ByteArray) (l : List Fnd) (b c : Nat) (w : World) (h : Par w g E l) (hb : w.cell? ⟨b, 0, none⟩ = some (.string s)) :
    Calls Tryz.prog 43 #[.pointer (some ⟨g, 0, none⟩), .slice (some ⟨b, 0, none⟩) 1 c] w fun e w' => (wantP E s l = .bad (fcode 8 l) (fat E l) ∧ e = failV (fcode 8 l) (fat E l) ∧ w' = w) ∨ (wantP E s l = .ok () l.tail ∧ e = .returned (.tuple #[]) ∧ Aw g g w w' ∧ Par w' g E l.tail) := by
  cases hy : skipB s l with
  | true => exact (want_yes g E s l b c w h hb hy).mono fun e w' ⟨h1, h2, h3⟩ => .inr ⟨wantP_yes hy, h1, h2, h3⟩
  | false => exact (want_no g E s l b c w h hb hy).mono fun e w' ⟨h1, h2⟩ => .inl ⟨wantP_no hy, h1, h2⟩
theorem Rd.bad {α : Type} {R : World → Value → α → Prop} {w w' : World} {g : Nat} {E : Int} {q : Got α} {er a : Int} (hq : q = .bad er a) (h : Aw g g w w') : Rd R w g E q (failV er a) w' := by
  subst hq; exact ⟨h, rfl⟩
theorem Rd.ok {α : Type} {R : World → Value → α → Prop} {w w' : World} {g : Nat} {E : Int} {q : Got α} {x : α} {r : List Fnd} {v : Value} (hq : q = .ok x r) (h : Aw g g w w') (hv : R w' v x) (hp : Par w' g E r) : Rd R w g E q (.returned v) w' := by
  subst hq; exact ⟨h, ⟨v, rfl, hv⟩, hp⟩
theorem Rd.cases {α : Type} {R : World → Value → α → Prop} {w w' : World} {g : Nat} {E : Int} {q : Got α} {e : Ending} (h : Rd R w g E q e w') :
    (∃ er a, q = .bad er a ∧ e = failV er a ∧ Aw g g w w') ∨ (∃ x r v, q = .ok x r ∧ e = .returned v ∧ R w' v x ∧ Aw g g w w' ∧ Par w' g E r) := by
  cases q with
  | bad er a => exact .inl ⟨er, a, rfl, h.2, h.1⟩
  | ok x r =>
    obtain ⟨ha, ⟨v, hv, hr⟩, hp⟩ := h
    exact .inr ⟨x, r, v, rfl, hv, hr, ha, hp⟩
end Go.Proofs.YtppoeiofdmlpeaaGreatDoor
namespace Go.Proofs.YtppoeiofdmlpeaaGreatDoor
open Go Go.RowKit
/-- The two variables that hold strconv's errors. -/
def Evs (w0 : World) : Prop := ∀ w, Below w0.heap.size w0 w → (∃ tp p, w.var? Tryz.prog "strconv.ErrSyntax" = some #[.iface tp p]) ∧ (∃ tp p, w.var? Tryz.prog "strconv.ErrRange" = some #[.iface tp p])
theorem atoi_any (w0 : World) (hv : Evs w0) (s : ByteArray) (hs : s.size ≤ 1000000) (w : World) (hb : Below w0.heap.size w0 w) :
    Calls Tryz.prog 122 #[.string s] w fun e w' => ∃ er, e = .returned (.tuple #[.int .i64 (atoiV s.data.toList), er]) ∧ Below w.heap.size w w' := by
  obtain ⟨⟨tp, p, hv1⟩, ⟨tq, q, hv2⟩⟩ := hv w hb
  unfold atoiV
  cases h : Lib.atoiAll s.data.toList with
  | ok v =>
    refine (Tryz.strconv_Atoi_ok s (by omega) v h w).mono ?_
    rintro e w' ⟨rfl, h1⟩
    refine ⟨_, rfl, ?_⟩
    rcases h1 with rfl | ⟨t, rfl⟩
    · exact Below.refl _ _
    · exact Lib.bytesWorld_below w 5 t
  | «syntax» =>
    refine (Tryz.strconv_Atoi_syntax_var s (by omega) h tp p w hv1).mono ?_
    rintro e w' ⟨N, rfl, _, _, h2⟩
    exact ⟨_, rfl, h2⟩
  | range =>
    refine (Tryz.strconv_Atoi_range_var s (by omega) h tq q w hv2).mono ?_
    rintro e w' ⟨N, rfl, _, _, h2⟩
    exact ⟨_, rfl, h2⟩
end Go.Proofs.YtppoeiofdmlpeaaGreatDoor
namespace Go.Proofs.YtppoeiofdmlpeaaGreatDoor
open Go Go.RowKit
set_option maxRecDepth 100000 in
set_option maxHeartbeats 4000000 in
theorem next_bad (g : Nat) (E kind : Int) (ck : Value) (_chk : ByteArray → Bool) (l : List Fnd) (w : World) (h : Par w g E l) (hk : l = [] ∨ ∃ t r, l = t :: r ∧ t.kind ≠ kind) :
    Calls Tryz.prog 72 #[.pointer (some ⟨g, 0, none⟩), .int .i64 kind, ck] w fun e w' => e = failV (fcode 8 l) (fat E l) ∧ w' = w := by
  have HP := Lib.hid h
  rcases hk with rfl | ⟨t, r, rfl, hk⟩
  · obtain ⟨A, c, h1, h2⟩ := h.nil
    obtain ⟨c1, f1⟩ := h1.facts
    clear h
    go_enter Tryz.func72, Tryz.ntmps72
    go_wp2_with (go_at_call 46; refine (fail_any g E 8 [] _ HP.out).mono ?_; rintro e w1 ⟨rfl, rfl⟩)
    exact ⟨rfl, rfl, rfl⟩
  · obtain ⟨b, o, c, h1, h2, h3, hsz, ct1, ct2, ct3, hs⟩ := h.cons
    obtain ⟨c1, f1⟩ := h1.facts
    have hne : (((r.length + 1 : Nat) : Int) == 0) = false := by simp; omega
    have hkk : (t.kind != kind) = true := by simpa using hk
    clear h hs
    go_enter Tryz.func72, Tryz.ntmps72
    go_wp2_with (go_at_call 46; refine (fail_any g E 8 (t :: r) _ HP.out).mono ?_; rintro e w1 ⟨rfl, rfl⟩)
    exact ⟨rfl, rfl, rfl⟩
set_option maxRecDepth 100000 in
set_option maxHeartbeats 4000000 in
theorem next_ok (g b' : Nat) (E : Int) (F : Nat) (cap : Array Value) (hF : ∀ (args : Array Value) (w : World), (callFunc F args).run Tryz.prog w = .ok (.enter F args) w) (t : Fnd) (r : List Fnd) (w : World) (Post : World → Prop) (h : Par w g E (t :: r)) (hsb : Small w b') (hgb : b' ≠ g)
    (hc : Calls Tryz.prog F (#[.string t.text] ++ cap) w fun e w' => e = .returned (.bool true) ∧ Aw b' b' w w' ∧ Post w') :
    Calls Tryz.prog 72 #[.pointer (some ⟨g, 0, none⟩), .int .i64 t.kind, .func (.func F) #[] cap] w fun e w' => ∃ w2, Aw b' b' w w2 ∧ Post w2 ∧ e = .returned (.string t.text) ∧ Aw g g w2 w' ∧ Par w' g E r := by
  have hlt := h.lt
  have hsg := h.small
  obtain ⟨b, o, c, h1, h2, h3, hsz, ct1, ct2, ct3, hs⟩ := h.cons
  obtain ⟨c1, f1⟩ := h1.facts
  have hne : (((r.length + 1 : Nat) : Int) == 0) = false := by simp; omega
  have HC := Lib.hid hc
  have HR := Lib.hid (show c = 1 → r = [] from fun e => List.eq_nil_of_length_eq_zero (by omega))
  have HAll := Lib.hid (show ∀ w2, Aw b' b' w w2 → Has w2 g 51 #[.slice (some ⟨b, o, none⟩) (r.length + 1) c, .int .i64 E] ∧ (∀ (A : Option Addr) (n d : Nat), n = r.length → (A = some ⟨b, o + 3, none⟩ ∧ d = c - 1 ∨ r = [] ∧ d ≤ c) → Par (w2.setCell ⟨g, 0, none⟩ (.slice A n d)) g E r ∧ Aw g g w2 (w2.setCell ⟨g, 0, none⟩ (.slice A n d))) from fun w2 ha => by
    have hh := h1.aw ha (fun e => hgb e.symm) (fun e => hgb e.symm)
    have hk : KeepsC w w2 := .aw ha hsb hsb
    exact ⟨hh, Par.step hh h3 fun w' hk' hh' => hs w' (hk.trans hk') hh'⟩)
  clear h hc hs hsb hsz ct3
  go_enter Tryz.func72, Tryz.ntmps72
  go_wp2_with (with_reducible refine HC.out.mono ?_; rintro e w2 ⟨rfl, ha, hp⟩; have HA := Lib.hid ha; have HP := Lib.hid hp; have HX := Lib.hid (HAll.out w2 ha); obtain ⟨c2, f2⟩ := HX.out.1.facts; clear ha hp HAll)
  all_goals
    go_ret
    first
      | exact ⟨w2, HA.out, HP.out, rfl, (HX.out.2 _ _ _ rfl (.inl ⟨rfl, rfl⟩)).2, (HX.out.2 _ _ _ rfl (.inl ⟨rfl, rfl⟩)).1⟩
      | exact ⟨w2, HA.out, HP.out, rfl, (HX.out.2 _ _ _ rfl (.inr ⟨HR.out (by assumption), by omega⟩)).2, (HX.out.2 _ _ _ rfl (.inr ⟨HR.out (by assumption), by omega⟩)).1⟩
set_option maxRecDepth 100000 in
set_option maxHeartbeats 4000000 in
theorem next_no (g b' : Nat) (E : Int) (F : Nat) (cap : Array Value) (hF : ∀ (args : Array Value) (w : World), (callFunc F args).run Tryz.prog w = .ok (.enter F args) w) (t : Fnd) (r : List Fnd) (w : World) (Post : World → Prop) (h : Par w g E (t :: r)) (hsb : Small w b') (hgb : b' ≠ g)
    (hc : Calls Tryz.prog F (#[.string t.text] ++ cap) w fun e w' => e = .returned (.bool false) ∧ Aw b' b' w w' ∧ Post w') :
    Calls Tryz.prog 72 #[.pointer (some ⟨g, 0, none⟩), .int .i64 t.kind, .func (.func F) #[] cap] w fun e w' => Aw b' b' w w' ∧ Post w' ∧ e = failV 13 t.pos := by
  have HPar := Lib.hid (show ∀ w2, Aw b' b' w w2 → Par w2 g E (t :: r) from fun w2 ha => by
    obtain ⟨v, hv, ht⟩ := h
    exact ⟨v, hv.aw ha (fun e => hgb e.symm) (fun e => hgb e.symm), ht.keeps (.aw ha hsb hsb)⟩)
  obtain ⟨b, o, c, h1, h2, h3, hsz, ct1, ct2, ct3, hs⟩ := h.cons
  obtain ⟨c1, f1⟩ := h1.facts
  have hne : (((r.length + 1 : Nat) : Int) == 0) = false := by simp; omega
  have HC := Lib.hid hc
  clear h hc hs hsb hsz ct3
  go_enter Tryz.func72, Tryz.ntmps72
  go_wp2_with (first
    | (with_reducible refine HC.out.mono ?_; rintro e w2 ⟨rfl, ha, hp⟩; have HA := Lib.hid ha; have HP := Lib.hid hp; have HX := Lib.hid (HPar.out w2 ha); clear ha hp HPar)
    | (go_at_call 46; refine (fail_any g E 13 (t :: r) _ HX.out).mono ?_; rintro e w1 ⟨rfl, rfl⟩))
  exact ⟨rfl, HA.out, HP.out, rfl⟩
end Go.Proofs.YtppoeiofdmlpeaaGreatDoor
namespace Go.Proofs.YtppoeiofdmlpeaaGreatDoor
open Go Go.RowKit
theorem small_new (w : World) (b : Nat) (h : w.heap.size ≤ b) : Small w b := fun _o _v _ hv => absurd (cell_size hv) (Nat.not_lt.2 h)
def StrR (_ : World) (v : Value) (s : ByteArray) : Prop := v = .string s
def IntR (_ : World) (v : Value) (n : Int) : Prop := v = .int .i64 n
theorem nextP_bad {E kind : Int} {chk : ByteArray → Bool} {l : List Fnd} (h : l = [] ∨ ∃ t r, l = t :: r ∧ t.kind ≠ kind) : nextP E kind chk l = .bad (fcode 8 l) (fat E l) := by
  rcases h with rfl | ⟨t, r, rfl, h⟩
  · rfl
  · show (if t.kind = kind then _ else _) = _
    rw [if_neg h]; rfl
theorem nextP_ok {E kind : Int} {chk : ByteArray → Bool} {t : Fnd} {r : List Fnd} (hk : t.kind = kind) (h : chk t.text = true) : nextP E kind chk (t :: r) = .ok t.text r := by
  show (if t.kind = kind then _ else _) = _
  rw [if_pos hk, if_pos h]
theorem nextP_no {E kind : Int} {chk : ByteArray → Bool} {t : Fnd} {r : List Fnd} (hk : t.kind = kind) (h : chk t.text = false) : nextP E kind chk (t :: r) = .bad 13 t.pos := by
  show (if t.kind = kind then _ else _) = _
  rw [if_pos hk, if_neg (by rw [h]; exact Bool.false_ne_true)]
theorem tok_cases (kind : Int) (l : List Fnd) : (l = [] ∨ ∃ t r, l = t :: r ∧ t.kind ≠ kind) ∨ ∃ t r, l = t :: r ∧ t.kind = kind := by
  cases l with
  | nil => exact .inl (.inl rfl)
  | cons t r =>
    by_cases h : t.kind = kind
    · exact .inr ⟨t, r, rfl, h⟩
    · exact .inl (.inr ⟨t, r, rfl, h⟩)
/-- next with a check that leaves memory alone. -/
theorem next_pure (g : Nat) (E kind : Int) (F : Nat) (chk : ByteArray → Bool) (hF : ∀ (args : Array Value) (w : World), (callFunc F args).run Tryz.prog w = .ok (.enter F args) w) (l : List Fnd) (w : World) (h : Par w g E l)
    (hc : ∀ s : ByteArray, s.size ≤ 1000000 → Calls Tryz.prog F #[.string s] w fun e w' => e = .returned (.bool (chk s)) ∧ Below w.heap.size w w') :
    Calls Tryz.prog 72 #[.pointer (some ⟨g, 0, none⟩), .int .i64 kind, .func (.func F) #[] #[]] w (Rd StrR w g E (nextP E kind chk l)) := by
  rcases tok_cases kind l with hk | ⟨t, r, rfl, hk⟩
  · exact (next_bad g E kind _ chk l w h hk).mono fun e w' ⟨h1, h2⟩ => by subst h1; subst h2; exact Rd.bad (nextP_bad hk) (Aw.refl _ _ _)
  · have hlt := h.lt
    have hsz : t.text.size ≤ 1000000 := by
      obtain ⟨_, _, _, _, _, _, hs, _⟩ := h.cons
      exact hs
    subst hk
    have hcc := hc t.text hsz
    cases hck : chk t.text with
    | true =>
      rw [hck] at hcc
      exact (next_ok g w.heap.size E F #[] hF t r w (fun _ => True) h (small_new w _ (Nat.le_refl _)) (by omega) (by rw [show (#[.string t.text] ++ #[] : Array Value) = #[.string t.text] by simp]; exact hcc.mono fun e w' ⟨h1, h2⟩ => ⟨h1, Aw.of_below h2, trivial⟩)).mono fun e w' ⟨w2, h1, _, h2, h3, h4⟩ => by
        subst h2
        have h5 : Aw g g w w' := ⟨h3.1.trans h1.1, h3.2.1.trans h1.2.1, h3.2.2.1.trans h1.2.2.1, Nat.le_trans h1.2.2.2.1 h3.2.2.2.1, fun k hk h6 _ => (h3.2.2.2.2 k (Nat.lt_of_lt_of_le hk h1.2.2.2.1) h6 h6).trans (h1.2.2.2.2 k hk (by omega) (by omega))⟩
        exact Rd.ok (nextP_ok rfl hck) h5 rfl h4
    | false =>
      rw [hck] at hcc
      exact (next_no g w.heap.size E F #[] hF t r w (fun _ => True) h (small_new w _ (Nat.le_refl _)) (by omega) (by rw [show (#[.string t.text] ++ #[] : Array Value) = #[.string t.text] by simp]; exact hcc.mono fun e w' ⟨h1, h2⟩ => ⟨h1, Aw.of_below h2, trivial⟩)).mono fun e w' ⟨h1, _, h2⟩ => by
        subst h2
        have h5 : Aw g g w w' := ⟨h1.1, h1.2.1, h1.2.2.1, h1.2.2.2.1, fun k hk _ _ => h1.2.2.2.2 k hk (by omega) (by omega)⟩
        exact Rd.bad (nextP_no rfl hck) h5
set_option maxRecDepth 100000 in
set_option maxHeartbeats 4000000 in
theorem pname_any (g : Nat) (E : Int) (l : List Fnd) (w : World) (h : Par w g E l) :
    Calls Tryz.prog 44 #[.pointer (some ⟨g, 0, none⟩)] w (Rd StrR w g E (nameP E l)) := by
  have HN := Lib.hid (next_pure g E 1 17 nameB (enters_of Tryz.func17 (by kernel_rfl) rfl) l w h fun s hs => name_any s w (by unfold maxLen; omega))
  go_enter Tryz.func44, Tryz.ntmps44
  go_wp2_with (go_at_call 72; refine HN.out.mono ?_; rintro e w1 hd; rcases hd.cases with ⟨er, at', hq, rfl, ha⟩ | ⟨x, r, v, hq, rfl, hv, ha, hp⟩; (exact ⟨rfl, Rd.bad hq ha⟩); have HD := Lib.hid (show Rd StrR w g E (nameP E l) (.returned v) w1 from Rd.ok hq ha hv hp); clear hq hv ha hp)
  go_ret
  exact HD.out
/-- number's check: reads the number into a variable. -/
theorem num1_any (w0 : World) (hv : Evs w0) (s : ByteArray) (hs : s.size ≤ 1000000) (low x : Int) (bn bl : Nat) (w : World) (hb : Below w0.heap.size w0 w) (hn : Has w bn 3 #[.int .i64 x]) (hl : Has w bl 3 #[.int .i64 low]) (hne : bl ≠ bn) :
    Calls Tryz.prog 121 #[.string s, .pointer (some ⟨bn, 0, none⟩), .pointer (some ⟨bl, 0, none⟩)] w fun e w' => e = .returned (.bool (numB low s)) ∧ Aw bn bn w w' ∧ Has w' bn 3 #[.int .i64 (atoiV s.data.toList)] := by
  have HA := Lib.hid (atoi_any w0 hv s hs w hb)
  have HX := Lib.hid (show ∀ w1, Below w.heap.size w w1 → Has w1 bn 3 #[.int .i64 x] ∧ Has w1 bl 3 #[.int .i64 low] ∧ Aw bn bn w w1 from fun w1 h1 => ⟨hn.below h1 hn.lt, hl.below h1 hl.lt, .of_below h1⟩)
  have hd : numB low s = decide (low ≤ atoiV s.data.toList) := rfl
  rw [hd]
  generalize atoiV s.data.toList = n at *
  clear hn hl hb hv hs hd
  go_enter Tryz.func121, Tryz.ntmps121
  go_wp2_with (go_at_call 122; refine HA.out.mono ?_; rintro e w2 ⟨er, rfl, hb2⟩; have HY := Lib.hid (HX.out w2 hb2); obtain ⟨d1, g1⟩ := HY.out.1.facts; obtain ⟨d2, g2⟩ := HY.out.2.1.facts; clear hb2)
  go_ret
  exact ⟨rfl, HY.out.2.2.set bn 0 (.inl rfl) _, HY.out.1.put 0 _⟩
theorem Aw.via {g b : Nat} {u v w : World} (h : Aw b b u v) (h' : Aw g g v w) : Aw g b u w :=
  ⟨h'.1.trans h.1, h'.2.1.trans h.2.1, h'.2.2.1.trans h.2.2.1, Nat.le_trans h.2.2.2.1 h'.2.2.2.1, fun k hk h1 h2 => (h'.2.2.2.2 k (Nat.lt_of_lt_of_le hk h.2.2.2.1) h1 h1).trans (h.2.2.2.2 k hk h2 h2)⟩
/-- What happens to a block that is new at u does not count. -/
theorem Aw.since {g b : Nat} {u v w : World} (h : Aw g g u v) (h' : Aw g b v w) (hb : u.heap.size ≤ b) : Aw g g u w :=
  ⟨h'.1.trans h.1, h'.2.1.trans h.2.1, h'.2.2.1.trans h.2.2.1, Nat.le_trans h.2.2.2.1 h'.2.2.2.1, fun k hk h1 _ => (h'.2.2.2.2 k (Nat.lt_of_lt_of_le hk h.2.2.2.1) h1 (by omega)).trans (h.2.2.2.2 k hk h1 h1)⟩
set_option maxRecDepth 100000 in
set_option maxHeartbeats 4000000 in
theorem number_any (w0 : World) (hv : Evs w0) (g : Nat) (E low : Int) (l : List Fnd) (w : World) (hb : Below w0.heap.size w0 w) (h : Par w g E l) :
    Calls Tryz.prog 114 #[.pointer (some ⟨g, 0, none⟩), .int .i64 low] w (Rd IntR w g E (numP E low l)) := by
  have hlt := h.lt
  have hb1 : Below w.heap.size w ((w.alloc (.cells #[.int .i64 low] 3)).alloc (.cells #[.int .i64 0] 3)) := ((Below.refl _ _).alloc (Nat.le_refl _) _).alloc (by simp) _
  have hl := (Has.new w 3 #[.int .i64 low]).alloc (.cells #[.int .i64 0] 3)
  have hn := Has.new (w.alloc (.cells #[.int .i64 low] 3)) 3 #[.int .i64 0]
  rw [World.size_alloc] at hn
  have HPar := Lib.hid (h.below hb1)
  have H1 := Lib.hid hb1
  rcases tok_cases 2 l with hk | ⟨t, r, rfl, hk⟩
  · have HQ := Lib.hid (show numP E low l = .bad (fcode 8 l) (fat E l) by unfold numP; rw [nextP_bad hk]; rfl)
    have HN := Lib.hid (next_bad g E 2 (.func (.func 121) #[] #[.pointer (some ⟨w.heap.size + 1, 0, none⟩), .pointer (some ⟨w.heap.size, 0, none⟩)]) (numB low) l _ HPar.out hk)
    clear hb hl hn hb1 h hk
    go_enter Tryz.func114, Tryz.ntmps114
    go_wp2_with (go_at_call 72; refine HN.out.mono ?_; rintro e w1 ⟨rfl, rfl⟩)
    exact ⟨rfl, Rd.bad HQ.out (.of_below H1.out)⟩
  · have hsz : t.text.size ≤ 1000000 := by
      obtain ⟨_, _, _, _, _, _, hs, _⟩ := h.cons
      exact hs
    have hF := enters_of Tryz.func121 (by kernel_rfl) rfl
    have hcc := num1_any w0 hv t.text hsz low 0 (w.heap.size + 1) w.heap.size _ (hb.trans (hb1.mono hb.size)) hn hl (by omega)
    have hsm := hn.small (Nat.le_succ 1)
    cases hck : numB low t.text with
    | true =>
      have HQ := Lib.hid (show numP E low (t :: r) = .ok (atoiV t.text.data.toList) r by unfold numP; rw [nextP_ok hk hck]; rfl)
      rw [hck] at hcc
      have hN := next_ok g (w.heap.size + 1) E 121 #[.pointer (some ⟨w.heap.size + 1, 0, none⟩), .pointer (some ⟨w.heap.size, 0, none⟩)] hF t r _ (fun W => Has W (w.heap.size + 1) 3 #[.int .i64 (atoiV t.text.data.toList)]) HPar.out hsm (by omega) hcc
      rw [hk] at hN
      have HN := Lib.hid hN
      clear hb hl hn hb1 h hk hcc hN hF hck hsm hsz HPar
      generalize atoiV t.text.data.toList = n at *
      go_enter Tryz.func114, Tryz.ntmps114
      go_wp2_with (go_at_call 72; refine HN.out.mono ?_; clear HN; rintro e w1 ⟨w2, h2, h3, rfl, h4, h5⟩; have HB := Lib.hid (h3.aw h4 (by omega) (by omega)); have HA := Lib.hid (show Aw g g w w1 from (Aw.of_below H1.out).since (h2.via h4) (by omega)); have HP := Lib.hid h5; clear h2 h3 h4 h5; obtain ⟨d1, g1⟩ := HB.out.facts)
      go_ret
      exact Rd.ok HQ.out HA.out rfl HP.out
    | false =>
      have HQ := Lib.hid (show numP E low (t :: r) = .bad 13 t.pos by unfold numP; rw [nextP_no hk hck]; rfl)
      rw [hck] at hcc
      have hN := next_no g (w.heap.size + 1) E 121 #[.pointer (some ⟨w.heap.size + 1, 0, none⟩), .pointer (some ⟨w.heap.size, 0, none⟩)] hF t r _ (fun _ => True) HPar.out hsm (by omega) (hcc.mono fun e w' ⟨h1, h2, _⟩ => ⟨h1, h2, trivial⟩)
      rw [hk] at hN
      have HN := Lib.hid hN
      clear hb hl hn hb1 h hk hcc hN hF hck hsm hsz HPar
      go_enter Tryz.func114, Tryz.ntmps114
      go_wp2_with (go_at_call 72; refine HN.out.mono ?_; clear HN; rintro e w1 ⟨h2, _, rfl⟩)
      exact ⟨rfl, Rd.bad HQ.out ((Aw.of_below H1.out).since (Aw.via h2 (Aw.refl g g w1)) (by omega))⟩
end Go.Proofs.YtppoeiofdmlpeaaGreatDoor
namespace Go.Proofs.YtppoeiofdmlpeaaGreatDoor
open Go Go.RowKit
/-- A condition's value. -/
def ExR (N : Nat) (w : World) (v : Value) (e : Ex) : Prop := ∃ kv, v = .agg #[.int .i64 e.op, .string e.name, .string e.value, .int .i64 e.n, .int .i64 e.extra, kv] ∧ LayS (fun b => N ≤ b) w kv e.kids
theorem ExR.mono {N M : Nat} {w : World} {v : Value} {e : Ex} (h : ExR M w v e) (hN : N ≤ M) : ExR N w v e := by
  obtain ⟨kv, h1, h2⟩ := h
  exact ⟨kv, h1, h2.mono fun b hb _ => Nat.le_trans hN hb⟩
def qCells (q : List (Ex × Value)) : List Value := q.flatMap fun p => exL p.1 p.2
theorem qCells_len (q : List (Ex × Value)) : (qCells q).length = q.length * 6 := by
  induction q with
  | nil => rfl
  | cons p q ih =>
    show (exL p.1 p.2 ++ qCells q).length = _
    rw [List.length_append, ih, List.length_cons]
    show 6 + _ = _
    omega
theorem qCells_get : ∀ (q : List (Ex × Value)) (i : Nat) (hi : i < q.length) (j : Nat), j < 6 → (qCells q)[i * 6 + j]? = some (exF q[i].1 q[i].2 j)
  | [], i, hi, _, _ => absurd hi (Nat.not_lt_zero i)
  | p :: q, 0, _, j, hj => by
    show (exL p.1 p.2 ++ qCells q)[0 * 6 + j]? = _
    rw [List.getElem?_append_left (by show _ < 6; omega), Nat.zero_mul, Nat.zero_add]
    exact exL_get p.1 p.2 j hj
  | p :: q, i + 1, hi, j, hj => by
    show (exL p.1 p.2 ++ qCells q)[(i + 1) * 6 + j]? = _
    rw [List.getElem?_append_right (by show 6 ≤ _; omega)]
    show (qCells q)[(i + 1) * 6 + j - 6]? = _
    rw [show (i + 1) * 6 + j - 6 = i * 6 + j by omega, qCells_get q i (by simpa using hi) j hj]
    rfl
/-- A row that the call owns reads as its conditions. -/
theorem own_lay {S : Nat → Prop} {w : World} {base t : Nat} {v : Value} {q : List (Ex × Value)} (h : w.ownsRow base t 6 v q.length (qCells q)) (hS : ∀ k, base ≤ k → S k) (hk : ∀ p ∈ q, LayS S w p.2 p.1.kids) : LayS S w v (q.map (·.1)) := by
  have hl : (q.map (·.1)).length = q.length := List.length_map _
  obtain ⟨A, c, rfl, hc⟩ : ∃ A c, v = .slice A (q.map (·.1)).length c ∧ (q.map (·.1)).length ≤ c := by
    rw [hl]
    rcases h.2 with ⟨rfl, h0⟩ | ⟨g, cap, cur, rfl, _, _, hn, _⟩
    · exact ⟨none, 0, by rw [h0], by omega⟩
    · exact ⟨_, _, rfl, hn⟩
  refine .mk A c _ (fun i => (q.getD i (exN, undef)).2) hc ?_ fun i hi => ?_
  · rcases h.2 with ⟨h0, h1⟩ | ⟨g, cap, cur, h0, hbg, hh, hn, _, hs, ht⟩
    · exact .inl (by rw [hl]; exact h1)
    · injection h0 with h0 _ _
      refine .inr ⟨g, 0, h0, hS g hbg, fun i hi j hj => ?_⟩
      rw [hl] at hi
      have h1 := qCells_get q i hi j hj
      rw [← ht, List.getElem?_take, if_pos (by omega)] at h1
      rw [Nat.zero_add, cell_of_row w g (i * 6 + j) cur t (0, 0) hh, List.getElem_map, List.getD_eq_getElem?_getD, List.getElem?_eq_getElem hi]
      simpa using h1
  · rw [hl] at hi
    rw [List.getD_eq_getElem?_getD, List.getElem?_eq_getElem hi, List.getElem_map]
    exact hk _ (List.getElem_mem hi)
theorem own_aw {w w' : World} {base t sz n g b : Nat} {v : Value} {xs : List Value} (h : w.ownsRow base t sz v n xs) (ha : Aw g b w w') (hg : g < base) (hb : b < base) : w'.ownsRow base t sz v n xs := by
  refine ⟨h.1, h.2.imp id fun ⟨k, cap, cur, h1, h2, h3, h4⟩ => ⟨k, cap, cur, h1, h2, ?_, h4⟩⟩
  have hk : k < w.heap.size := by
    rcases Nat.lt_or_ge k w.heap.size with h | h
    · exact h
    · rw [Array.getElem?_eq_none h] at h3; cases h3
  exact (ha.2.2.2.2 k hk (by omega) (by omega)).trans h3
theorem infoEx : (Tryz.prog.info? 24).map (fun i => (i.zero, i.size, i.bytes)) = some (some (.agg #[.int .i64 0, .string ⟨#[]⟩, .string ⟨#[]⟩, .int .i64 0, .int .i64 0, .slice none 0 0]), 6, 80) := by kernel_rfl
theorem exL_one (e : Ex) (kv : Value) (hk : kv.oneCell' = true) : ∀ u ∈ exL e kv, u.oneCell' = true := fun u hu => by
  simp only [exL, List.mem_cons, List.not_mem_nil, or_false] at hu
  rcases hu with rfl | rfl | rfl | rfl | rfl | rfl <;> first | rfl | exact hk
theorem LayS.one {S : Nat → Prop} {w : World} {v : Value} {ks : List Ex} (h : LayS S w v ks) : v.oneCell' = true := by
  obtain ⟨A, c, rfl, _⟩ := h.slice
  rfl
section
variable {P : Program} {w : World}
/-- append onto an own row, with what becomes of its block: the same, or a new one. -/
theorem wpList_appB {ops : Array Oper} {rest : List Oper} {o : Oper} {a : Act} {Q : Exit → Act → World → Prop} (hw : Region.wanted o (yielded ops a.tmps) = true) (s x : Operand) (t : TypeId)
    (ho : o.op = .call { callee := .builtin .append, args := #[s, x], argTypes := #[t, t] })
    (base : Nat) (e : TypeId) (i : TypeInfo) (z : Value) (size bytes : Nat) (ht : P.underlying t = some (.slice e)) (hi : P.info? e = some i) (hz : i.zero = some z)
    (hsize : i.size = size) (hby : i.bytes = bytes) (hzs : z.cells.size = size) (hsz : 0 < size)
    (v : Value) (n : Nat) (xs : List Value) (hs : a.eval s = v) (hown : w.ownsRow base e size v n xs) (hn0 : 0 < n)
    (ad : Addr) (m c : Nat) (news : List Value) (hx : a.eval x = .slice (some ad) m c) (hl : news.length = m * size) (hnews : ∀ j u, news[j]? = some u → w.cell? (ad.add j) = some u)
    (h1 : ∀ u ∈ news, u.oneCell' = true) (h63 : n + m ≤ maxLen) (hbytes : (n + m) * bytes ≤ 140737488355328) (hbase : base ≤ w.heap.size)
    (h : ∀ v' w', w'.ownsRow base e size v' (n + m) (xs ++ news) → w.grownBy w' v.ownBlock → (v'.ownBlock = v.ownBlock ∨ ∀ k, v'.ownBlock = some k → w.heap.size ≤ k) → wpList P ops Q rest (a.put o.dst v') w') : wpList P ops Q (o :: rest) a w := by
  refine BigFrame.wpList_want hw fun K hK => ?_
  obtain ⟨v', w', hr, h2, h3, _⟩ := run_append_own (P := P) w base t o.type e i z size bytes ht hi hz hsize hby hzs hsz v n xs hown ad m c news hl hnews h1 h63 hbytes hbase
  have hB : v'.ownBlock = v.ownBlock ∨ ∀ k, v'.ownBlock = some k → w.heap.size ≤ k := by
    subst hsize
    subst hby
    have hsmall : n + m ≤ 9223372036854775807 := by simp only [maxLen] at h63; omega
    rcases hown.2 with ⟨_, h0⟩ | ⟨g, cap, cur, rfl, hbg, hg, hnc, hcm, hcs, htake⟩
    · omega
    · by_cases hroom : n + m ≤ cap
      · have hfit : n * i.size + news.length ≤ cur.size := by rw [hl, hcs, ← Nat.add_mul]; exact Nat.mul_le_mul_right _ hroom
        have hr2 := run_append_room (P := P) w t o.type e i ht hi g n cap cur hg ad m c news hl hnews h1 hroom hfit
        rw [hr] at hr2
        injection hr2 with hv _
        subst hv
        exact .inl rfl
      · have holds : ∀ j u, xs[j]? = some u → w.cell? ((⟨g, 0, none⟩ : Addr).add j) = some u := hown.cells (g := g) rfl
        have hr2 := run_append_grow (P := P) w t o.type e i z ht hi hz ⟨g, 0, none⟩ n cap xs hown.1 holds ad m c news hl hnews (by omega) (by omega) (growslice_fits (by omega) hbytes)
        rw [hr] at hr2
        injection hr2 with hv _
        subst hv
        refine .inr fun k hk => ?_
        simp [Value.ownBlock] at hk
        omega
  unfold Oper.wp execOp
  simp only [ho, resolve, invoke, builtin, Sem.run_bind, Sem.run_pure, Result.andThen_ok, List.map_toArray, List.map_cons, List.map_nil, hs, hx, hr]
  exact hK _ _ (h v' w' h2 h3 hB)
end
set_option maxRecDepth 100000 in
set_option maxHeartbeats 4000000 in
theorem of1_any (op : Int) (v : Value) (ks : List Ex) (b : Nat) (w : World) {S : Nat → Prop} (hb : Has w b 3 #[.int .i64 op]) (hv : LayS S w v ks) :
    Calls Tryz.prog 90 #[v, .pointer (some ⟨b, 0, none⟩)] w fun e w' => e = .returned (.agg #[.int .i64 op, .string e0, .string e0, .int .i64 0, .int .i64 0, v]) ∧ Below w.heap.size w w' := by
  obtain ⟨c1, f1⟩ := hb.facts
  have hlt := hb.lt
  have hone := hv.one
  obtain ⟨A, c, rfl, _⟩ := hv.slice
  go_enter Tryz.func90, Tryz.ntmps90
  go_wp2
  refine bodyPost_ret (v := .agg #[.int .i64 op, .string e0, .string e0, .int .i64 0, .int .i64 0, .slice A ks.length c]) (by simp [results, Tryz.results90, go_sem, e0]) rfl ?_
  exact ⟨rfl, (Below.refl _ _).alloc (Nat.le_refl _) _⟩
set_option maxRecDepth 100000 in
set_option maxHeartbeats 4000000 in
theorem of_any (op : Int) (w : World) : Calls Tryz.prog 75 #[.int .i64 op] w fun e w' => e = .returned (.func (.func 90) #[] #[.pointer (some ⟨w.heap.size, 0, none⟩)]) ∧ Below w.heap.size w w' ∧ Has w' w.heap.size 3 #[.int .i64 op] := by
  go_enter Tryz.func75, Tryz.ntmps75
  go_wp2
  go_ret
  exact ⟨rfl, (Below.refl _ _).alloc (Nat.le_refl _) _, Has.new _ _ _⟩
end Go.Proofs.YtppoeiofdmlpeaaGreatDoor
namespace Go.Proofs.YtppoeiofdmlpeaaGreatDoor
open Go Go.RowKit

/-- How the keys of type k stand for things of type α. -/
structure Keying (P : Program) (k : TypeId) (α : Type) [DecidableEq α] (enc : α → Value) : Prop where
  check : ∀ (w : World) (em : Bool) (a : α), (Instr.checkKey em 10000 k (enc a)).run P w = .ok () w
  find : ∀ (w : World) (a : α) (es : List MapEntry) (m : List (α × Value)), es.map (fun e => (e.key, e.val)) = m.map (fun p => (enc p.1, p.2)) →
    (Instr.findKey k (enc a) es).run P w = .ok ((m.findIdx? (fun p => decide (p.1 = a))).bind fun i => (m[i]?).map fun p => (i, p.2)) w
  stays : ∀ (w : World) (a : α), (Instr.keyThatStays (enc a) (enc a)).run P w = .ok (enc a) w

/-- Block g is a map that holds m, in the order of its making. -/
def Mp {α : Type} (w : World) (enc : α → Value) (g : Nat) (m : List (α × Value)) : Prop :=
  ∃ es clock, w.heap[g]? = some (.map es clock) ∧ es.toList.map (fun e => (e.key, e.val)) = m.map (fun p => (enc p.1, p.2))

/-- What is at a key. -/
def mget {α : Type} [DecidableEq α] (m : List (α × Value)) (a : α) : Option Value := (m.find? (fun p => decide (p.1 = a))).map (·.2)
/-- The map behind a store. -/
def mput {α : Type} [DecidableEq α] (m : List (α × Value)) (a : α) (v : Value) : List (α × Value) :=
  match m.findIdx? (fun p => decide (p.1 = a)) with
  | some i => m.set i (a, v)
  | none => m ++ [(a, v)]

section
variable {α : Type} {enc : α → Value} {w w' : World} {g : Nat} {m : List (α × Value)}
theorem Mp.lt (h : Mp w enc g m) : g < w.heap.size := by
  obtain ⟨es, clock, hb, _⟩ := h
  by_cases hl : g < w.heap.size
  · exact hl
  · rw [Array.getElem?_eq_none (by omega)] at hb; cases hb
theorem Mp.new (w : World) (enc : α → Value) : Mp (w.alloc (.map #[] 0)) enc w.heap.size [] := ⟨#[], 0, heap_alloc_new w _, rfl⟩
theorem Mp.alloc (h : Mp w enc g m) (o : Obj) : Mp (w.alloc o) enc g m := by
  have hl := h.lt
  obtain ⟨es, clock, hb, he⟩ := h
  exact ⟨es, clock, (Below.heap_alloc w o g hl).trans hb, he⟩
theorem Mp.below {B : Nat} (h : Mp w enc g m) (hb : Below B w w') (hg : g < B) : Mp w' enc g m := by
  obtain ⟨es, clock, hh, he⟩ := h
  exact ⟨es, clock, (hb.block g hg).trans hh, he⟩
theorem Mp.far (h : Mp w enc g m) (p : Addr) (hp : g ≠ p.block) (u : Value) : Mp (w.setCell p u) enc g m := by
  obtain ⟨es, clock, hh, he⟩ := h
  exact ⟨es, clock, (heap_setCell_other w p g u hp).trans hh, he⟩

end
section
variable {P : Program} {k : TypeId} {α : Type} [DecidableEq α] {enc : α → Value} {w : World} {g : Nat} {m : List (α × Value)}
theorem find_some {m : List (α × Value)} {a : α} {i : Nat} (h : m.findIdx? (fun p => decide (p.1 = a)) = some i) : ∃ v, m[i]? = some (a, v) ∧ mget m a = some v := by
  rw [List.findIdx?_eq_some_iff_getElem] at h
  obtain ⟨hi, h1, h2⟩ := h
  have e : m[i].1 = a := by simpa using h1
  refine ⟨m[i].2, by rw [List.getElem?_eq_getElem hi]; exact congrArg some (Prod.ext e rfl), ?_⟩
  have : m.find? (fun p => decide (p.1 = a)) = some m[i] := by
    rw [List.find?_eq_some_iff_getElem]
    exact ⟨h1, i, hi, rfl, fun j hj => by have := h2 j hj; simpa using this⟩
  unfold mget; rw [this]; rfl
theorem find_none {m : List (α × Value)} {a : α} (h : m.findIdx? (fun p => decide (p.1 = a)) = none) : mget m a = none := by
  rw [List.findIdx?_eq_none_iff] at h
  unfold mget
  rw [List.find?_eq_none.2 (by intro x hx; have := h x hx; simp_all)]; rfl

/-- 'm[k]', 'v, ok := m[k]'. -/
theorem run_look (K : Keying P k α enc) {T el : TypeId} (hT : P.underlying T = some (.map k el)) (h : Mp w enc g m) (a : α) {z : Value} (hz : (zeroValue el).run P w = .ok z w) (ok : Bool) :
    (Instr.lookup T (.map (some g)) (enc a) ok).run P w = .ok (if ok then .tuple #[(mget m a).getD z, .bool (mget m a).isSome] else (mget m a).getD z) w := by
  obtain ⟨es, clock, hb, he⟩ := h
  have hf := K.find w a es.toList m he
  cases hi : m.findIdx? (fun p => decide (p.1 = a)) with
  | none =>
    rw [hi] at hf
    simp only [Instr.lookup, Sem.run_bind, run_underlying hT, Result.andThen_ok, MapKept.run_getObj_map hb, K.check, hf, Option.bind_none, hz, Sem.run_pure]
    rw [find_none hi]; cases ok <;> simp
  | some i =>
    obtain ⟨v, hv, hg⟩ := find_some hi
    rw [hi] at hf
    simp only [Instr.lookup, Sem.run_bind, run_underlying hT, Result.andThen_ok, MapKept.run_getObj_map hb, K.check, hf, Option.bind_some, hv, Option.map_some, Sem.run_pure]
    rw [hg]; cases ok <;> simp

/-- 'm[k] = v'. -/
theorem run_put (K : Keying P k α enc) {T el : TypeId} (hT : P.underlying T = some (.map k el)) (h : Mp w enc g m) (a : α) (v : Value) :
    ∃ w', (Instr.mapUpdate T (.map (some g)) (enc a) v).run P w = .ok () w' ∧ Mp w' enc g (mput m a v) ∧ w.grownBy w' (some g) ∧ w'.heap.size = w.heap.size := by
  obtain ⟨es, clock, hb, he⟩ := h
  have hf := K.find w a es.toList m he
  have hlen : es.size = m.length := by have := congrArg List.length he; simpa using this
  have hlt : g < w.heap.size := Mp.lt (enc := enc) ⟨es, clock, hb, he⟩
  have grow : ∀ o : Obj, w.grownBy { w with heap := w.heap.setIfInBounds g o } (some g) := fun o =>
    ⟨rfl, rfl, rfl, by simp, fun j _ hj => by
      have : g ≠ j := fun e => hj (by rw [e])
      simp [this]⟩
  cases hi : m.findIdx? (fun p => decide (p.1 = a)) with
  | none =>
    rw [hi] at hf
    refine ⟨{ w with heap := w.heap.setIfInBounds g (.map (es.push { key := enc a, val := v, born := clock }) (clock + 1)) }, ?_, ⟨es.push { key := enc a, val := v, born := clock }, clock + 1, by simp [hlt], ?_⟩, grow _, by simp⟩
    · simp only [Instr.mapUpdate, Sem.run_bind, run_underlying hT, Result.andThen_ok, MapKept.run_getObj_map hb, K.check, hf, Option.bind_none, MapKept.run_setObj_map _ hb]
    · unfold mput; rw [hi]
      simp [he]
  | some i =>
    obtain ⟨u, hv, hg⟩ := find_some hi
    rw [hi] at hf
    have him : i < m.length := by
      rcases Nat.lt_or_ge i m.length with h1 | h1
      · exact h1
      · rw [List.getElem?_eq_none h1] at hv; cases hv
    have hies : i < es.size := by omega
    have hkey : (es[i]?).map (·.key) = some (enc a) := by
      have h1 : (es.toList.map (fun e => (e.key, e.val)))[i]? = some (enc a, u) := by rw [he, List.getElem?_map, hv]; rfl
      rw [List.getElem?_map, Array.getElem?_toList, Array.getElem?_eq_getElem hies] at h1
      rw [Array.getElem?_eq_getElem hies]
      simp only [Option.map_some, Option.some.injEq, Prod.mk.injEq] at h1 ⊢
      exact h1.1
    refine ⟨{ w with heap := w.heap.setIfInBounds g (.map (es.modify i fun e => { e with key := enc a, val := v }) clock) }, ?_, ⟨es.modify i fun e => { e with key := enc a, val := v }, clock, by simp [hlt], ?_⟩, grow _, by simp⟩
    · simp only [Instr.mapUpdate, Sem.run_bind, run_underlying hT, Result.andThen_ok, MapKept.run_getObj_map hb, K.check, hf, Option.bind_some, hv, Option.map_some, hkey, Option.getD_some, K.stays, MapKept.run_setObj_map _ hb]
    · unfold mput; rw [hi]
      apply List.ext_getElem?
      intro j
      have h1 : (es.toList.map (fun e => (e.key, e.val)))[j]? = (m.map (fun p => (enc p.1, p.2)))[j]? := by rw [he]
      rw [List.getElem?_map, Array.getElem?_toList] at h1
      rw [List.getElem?_map, Array.getElem?_toList, Array.getElem?_modify, List.getElem?_map, List.getElem?_set]
      by_cases e : i = j
      · subst e
        simp [hies, him]
      · simp only [e, if_false]
        rw [h1, List.getElem?_map]
end
/-- How a list of entries is gone through, key by key. -/
theorem findAsking_run {P : Program} {k : TypeId} {α : Type} [DecidableEq α] {enc : α → Value} (heq : ∀ (w : World) (a b : α), (Op.equal k (enc a) (enc b)).run P w = .ok (decide (a = b)) w) (w : World) (a : α) :
    ∀ (es : List MapEntry) (m : List (α × Value)) (n : Nat), es.map (fun e => (e.key, e.val)) = m.map (fun p => (enc p.1, p.2)) →
    (Instr.findAsking k (enc a) es n).run P w = .ok ((m.findIdx? (fun p => decide (p.1 = a))).bind fun i => (m[i]?).map fun p => (n + i, p.2)) w
  | [], [], n, _ => by simp [Instr.findAsking]
  | [], _ :: _, _, h => by cases h
  | _ :: _, [], _, h => by cases h
  | e :: es, p :: m, n, h => by
    simp only [List.map_cons, List.cons.injEq, Prod.mk.injEq] at h
    obtain ⟨⟨h1, h2⟩, h3⟩ := h
    have hq : (Op.equal k (enc a) e.key).run P w = .ok (decide (a = p.1)) w := by rw [h1]; exact heq w a p.1
    have ih := findAsking_run heq w a es m (n + 1) h3
    by_cases ha : a = p.1
    · simp only [Instr.findAsking, Sem.run_bind, hq, Result.andThen_ok, decide_eq_true ha, decide_eq_true ha.symm, if_true, Sem.run_pure, List.findIdx?_cons]
      simp [h2]
    · have ha' : ¬ p.1 = a := fun e => ha e.symm
      simp only [Instr.findAsking, Sem.run_bind, hq, Result.andThen_ok, ha, decide_false, Bool.false_eq_true, if_false, ih, List.findIdx?_cons, ha']
      congr 1
      cases m.findIdx? (fun p => decide (p.1 = a)) with
      | none => rfl
      | some i => simp; congr 1; funext x; simp; omega
end Go.Proofs.YtppoeiofdmlpeaaGreatDoor
namespace Go.Proofs.YtppoeiofdmlpeaaGreatDoor
open Go Go.RowKit
theorem str_find {P : Program} {k : TypeId} (hk : P.underlying k = some .string) (w : World) (a : ByteArray) :
    ∀ (es : List MapEntry) (m : List (ByteArray × Value)) (n : Nat), es.map (fun e => (e.key, e.val)) = m.map (fun p => (Value.string p.1, p.2)) →
    Instr.findNow .string (.string a) es n = some ((m.findIdx? (fun p => decide (p.1 = a))).bind fun i => (m[i]?).map fun p => (n + i, p.2))
  | [], [], n, _ => by simp [Instr.findNow]
  | [], _ :: _, _, h => by cases h
  | _ :: _, [], _, h => by cases h
  | e :: es, p :: m, n, h => by
    simp only [List.map_cons, List.cons.injEq, Prod.mk.injEq] at h
    obtain ⟨⟨h1, h2⟩, h3⟩ := h
    have ih := str_find hk w a es m (n + 1) h3
    have hs : Instr.sameNow .string (.string a) e.key = some (decide (a = p.1)) := by
      rw [h1]; simp only [Instr.sameNow]; congr 1
      rw [Bool.eq_iff_iff, MapKept.bytes_beq, decide_eq_true_iff]
    by_cases ha : a = p.1
    · rw [decide_eq_true ha] at hs
      simp only [Instr.findNow, hs, List.findIdx?_cons, decide_eq_true ha.symm, if_true]
      simp [h2]
    · have ha' : ¬ p.1 = a := fun e => ha e.symm
      rw [decide_eq_false ha] at hs
      simp only [Instr.findNow, hs, ih, List.findIdx?_cons, ha', decide_false, Bool.false_eq_true, if_false]
      congr 1
      cases m.findIdx? (fun p => decide (p.1 = a)) with
      | none => rfl
      | some i => simp; congr 1; funext x; simp; omega
set_option maxRecDepth 100000 in
theorem str_keying : Keying Tryz.prog 9 ByteArray Value.string where
  check w em a := MapKept.run_checkKey Tryz.underlying9 (show MapKept.IsKey .string (.string a) from trivial) em 9999
  stays w a := by
    have h : Instr.sameBits 10000 (.string a) (.string a) = true := by simp [Instr.sameBits, beq_toListBytes]
    simp [Instr.keyThatStays, h]
  find w a es m h := by
    simp [Instr.findKey, run_underlying Tryz.underlying9, str_find Tryz.underlying9 w a es m 0 h]
end Go.Proofs.YtppoeiofdmlpeaaGreatDoor
namespace Go.Proofs.YtppoeiofdmlpeaaGreatDoor
open Go Go.RowKit
def parLen (w : World) (g : Nat) : Nat := match w.cell? ⟨g, 0, none⟩ with
  | some (.slice _ n _) => n
  | _ => 0
theorem Par.len {w : World} {g : Nat} {E : Int} {l : List Fnd} (h : Par w g E l) : parLen w g = l.length := by
  obtain ⟨v, h1, _, A, c, rfl, _⟩ := h
  unfold parLen
  rw [h1.cell 0]; rfl
theorem moreP_zero {word : ByteArray} {one : List Fnd → Got Ex} {n : Nat} {l : List Fnd} (h : skipB word l = false) : moreP word one n l = .ok [] l := by
  cases n with
  | zero => rfl
  | succ n =>
    show (if skipB word l then _ else _) = _
    rw [if_neg (by rw [h]; exact Bool.false_ne_true)]
theorem moreP_succ {word : ByteArray} {one : List Fnd → Got Ex} {n : Nat} {l : List Fnd} (h : skipB word l = true) : moreP word one (n + 1) l = (one l.tail).bind fun c r => (moreP word one n r).bind fun cs r2 => .ok (c :: cs) r2 := by
  show (if skipB word l then _ else _) = _
  rw [if_pos h]
theorem tail_len {word : ByteArray} {l : List Fnd} (h : skipB word l = true) : l.tail.length + 1 = l.length := by
  cases l with
  | nil => cases h
  | cons t r => rfl
/-- Six cells of a block laid one after the other. -/
def six (W : World) (B : Nat) (v0 v1 v2 v3 v4 v5 : Value) : World := (((((W.setCell ⟨B, 0, none⟩ v0).setCell ⟨B, 1, none⟩ v1).setCell ⟨B, 2, none⟩ v2).setCell ⟨B, 3, none⟩ v3).setCell ⟨B, 4, none⟩ v4).setCell ⟨B, 5, none⟩ v5
theorem six_has {W : World} {B t : Nat} {a0 a1 a2 a3 a4 a5 : Value} (h : Has W B t #[a0, a1, a2, a3, a4, a5]) (v0 v1 v2 v3 v4 v5 : Value) : Has (six W B v0 v1 v2 v3 v4 v5) B t #[v0, v1, v2, v3, v4, v5] :=
  (((((h.put 0 v0).put 1 v1).put 2 v2).put 3 v3).put 4 v4).put 5 v5
theorem six_old (W : World) (B : Nat) (v0 v1 v2 v3 v4 v5 : Value) {k : Nat} (hk : k ≠ B) : (six W B v0 v1 v2 v3 v4 v5).heap[k]? = W.heap[k]? := by
  unfold six
  iterate 6 rw [heap_setCell_other _ ⟨B, _, none⟩ k _ hk]
theorem six_aw {u W : World} {g b B : Nat} (h : Aw g b u W) (hB : B = g ∨ B = b ∨ u.heap.size ≤ B) (v0 v1 v2 v3 v4 v5 : Value) : Aw g b u (six W B v0 v1 v2 v3 v4 v5) :=
  (((((h.set B 0 hB v0).set B 1 hB v1).set B 2 hB v2).set B 3 hB v3).set B 4 hB v4).set B 5 hB v5
theorem six_par {W : World} {B g : Nat} {E : Int} {l : List Fnd} (h : Par W g E l) (hB : g < B) (v0 v1 v2 v3 v4 v5 : Value) : Par (six W B v0 v1 v2 v3 v4 v5) g E l := h.on fun b hb => six_old W B _ _ _ _ _ _ (by omega)
theorem six_lay {S T : Nat → Prop} {W : World} {B : Nat} {v : Value} {ks : List Ex} (h : LayS S W v ks) (hS : ∀ b, S b → b ≠ B ∧ T b) (v0 v1 v2 v3 v4 v5 : Value) : LayS T (six W B v0 v1 v2 v3 v4 v5) v ks := h.on (fun b hb _ => six_old W B _ _ _ _ _ _ (hS b hb).1) fun b hb _ => (hS b hb).2
/-- What the loop holds: the things so far, and what is still to come. -/
structure SerI (w : World) (g : Nat) (E op : Int) (word : ByteArray) (one : List Fnd → Got Ex) (l : List Fnd) (m : Nat) (v : Value) (W : World) (q : List (Ex × Value)) (r : List Fnd) (n : Nat) : Prop where
  own : W.ownsRow (w.heap.size + 1) 24 6 v q.length (qCells q)
  lay : ∀ p ∈ q, LayS (fun b => w.heap.size + 1 ≤ b ∧ v.ownBlock ≠ some b) W p.2 p.1.kids
  par : Par W g E r
  aw : Aw g g w W
  res : Has W w.heap.size 24 #[.int .i64 0, .string ⟨#[]⟩, .string ⟨#[]⟩, .int .i64 0, .int .i64 0, .slice none 0 0]
  hn : r.length ≤ n
  hm : q.length + r.length ≤ m
  hl : r.length ≤ l.length
  eq : ∃ c0 cs, q.map (·.1) = c0 :: cs ∧ serP word op one l = (moreP word one n r).bind fun cs2 r2 => .ok (oneOf op c0 (cs ++ cs2)) r2
theorem SerI.pos {w W : World} {g m n : Nat} {E op : Int} {word : ByteArray} {one : List Fnd → Got Ex} {l r : List Fnd} {v : Value} {q : List (Ex × Value)} (h : SerI w g E op word one l m v W q r n) : 0 < q.length := by
  obtain ⟨c0, cs, h1, _⟩ := h.eq
  have : (q.map (·.1)).length = (c0 :: cs).length := by rw [h1]
  rw [List.length_map, List.length_cons] at this
  omega
/-- A further thing. -/
theorem SerI.next {w W w2 w3 W4 : World} {g m n : Nat} {E op : Int} {word : ByteArray} {one : List Fnd → Got Ex} {l r r2 : List Fnd} {v v' kv : Value} {q : List (Ex × Value)} {x : Ex} {o : Obj} (h : SerI w g E op word one l m v W q r n) (hgw : g < w.heap.size)
    (hs : skipB word r = true) (a2 : Aw g g W w2) (hq : one r.tail = .ok x r2) (a3 : Aw g g w2 w3) (p3 : Par w3 g E r2) (hv : LayS (fun b => w2.heap.size ≤ b) w3 kv x.kids) (hle : r2.length ≤ r.tail.length)
    (own' : W4.ownsRow (w.heap.size + 1) 24 6 v' (q.length + 1) (qCells q ++ exL x kv)) (hg : (w3.alloc o).grownBy W4 v.ownBlock) (hb : v'.ownBlock = v.ownBlock ∨ ∀ k, v'.ownBlock = some k → (w3.alloc o).heap.size ≤ k) :
    SerI w g E op word one l m v' W4 (q ++ [(x, kv)]) r2 (n - 1) := by
  have hpos := h.pos
  have htl := tail_len hs
  have hsW := h.aw.2.2.2.1
  have hs2 := a2.2.2.2.1
  have hs3 := a3.2.2.2.1
  have hown := h.own.lt
  have hres := h.res.lt
  have hz4 : (w3.alloc o).heap.size = w3.heap.size + 1 := World.size_alloc _ _
  obtain ⟨n, rfl⟩ : ∃ k, n = k + 1 := ⟨n - 1, by have := h.hn; omega⟩
  have stay : ∀ b, b < w3.heap.size → v.ownBlock ≠ some b → W4.heap[b]? = w3.heap[b]? := fun b hb h2 =>
    (hg.block b (by omega) (fun e => h2 e.symm)).trans (Below.heap_alloc w3 o _ hb)
  refine ⟨by rw [List.length_append, List.length_singleton]; show W4.ownsRow _ _ _ _ _ ((q ++ [(x, kv)]).flatMap fun p => exL p.1 p.2); rw [List.flatMap_append]; simpa [qCells] using own', fun p hp => ?_, p3.on fun b hb => stay b (Nat.lt_of_le_of_lt hb p3.lt) (fun e => by have := (hown b e).1; omega), ?_, ?_, by have := h.hn; show _ ≤ n; omega, by have := h.hm; rw [List.length_append, List.length_singleton]; omega, by have := h.hl; omega, ?_⟩
  · rcases List.mem_append.1 hp with hp | hp
    · refine (h.lay p hp).on (fun b hb hlt => ?_) fun b hb hlt => ⟨hb.1, ?_⟩
      · rw [stay b (by omega) hb.2, a3.2.2.2.2 b (by omega) (by omega) (by omega)]
        exact a2.2.2.2.2 b hlt (by omega) (by omega)
      · rcases hb' : v'.ownBlock with _ | k
        · exact fun e => by cases e
        · intro e
          injection e with e
          subst e
          rcases ‹v'.ownBlock = v.ownBlock ∨ _› with h1 | h1
          · exact hb.2 (h1 ▸ hb')
          · have := h1 k hb'; omega
    · rw [List.mem_singleton] at hp
      subst hp
      refine hv.on (fun b hb hlt => stay b hlt (fun e => by have := (hown b e).2; omega)) fun b hb hlt => ⟨by omega, ?_⟩
      rcases hb' : v'.ownBlock with _ | k
      · exact fun e => by cases e
      · intro e
        injection e with e
        subst e
        rcases ‹v'.ownBlock = v.ownBlock ∨ _› with h1 | h1
        · have := (hown k (h1 ▸ hb')).2; omega
        · have := h1 k hb'; omega
  · have h4 : Aw g g w w3 := (h.aw.trans a2).trans a3
    exact ⟨hg.os.trans h4.1, hg.tape.trans h4.2.1, hg.output.trans h4.2.2.1, by have := hg.size; omega, fun b hb h1 h2 => (stay b (by omega) (fun e => by have := (hown b e).1; omega)).trans (h4.2.2.2.2 b hb h1 h2)⟩
  · have h5 := ((h.res.aw a2 (by omega) (by omega)).aw a3 (by omega) (by omega))
    exact (stay _ h5.lt (fun e => by have := (hown _ e).1; omega)).trans h5
  · obtain ⟨c0, cs, h1, h2⟩ := h.eq
    refine ⟨c0, cs ++ [x], by rw [List.map_append, h1]; rfl, ?_⟩
    rw [h2, moreP_succ hs, hq]
    show (((moreP word one n r2).bind fun cs r2 => .ok (x :: cs) r2).bind fun cs2 r2 => .ok (oneOf op c0 (cs ++ cs2)) r2) = _
    show _ = (moreP word one n r2).bind fun cs2 r2 => .ok (oneOf op c0 (cs ++ [x] ++ cs2)) r2
    cases moreP word one n r2 with
    | bad e a => rfl
    | ok y r => show Got.ok _ _ = Got.ok _ _; rw [List.append_assoc]; rfl
/-- The one thing alone. -/
theorem SerI.one {w W : World} {g m n : Nat} {E op : Int} {word : ByteArray} {one : List Fnd → Got Ex} {l r : List Fnd} {v : Value} {q : List (Ex × Value)} (h : SerI w g E op word one l m v W q r n) (hs : skipB word r = false) (h1 : q.length = 1) :
    ∃ x kv k cap, v = .slice (some ⟨k, 0, none⟩) 1 cap ∧ serP word op one l = .ok x r ∧ (∀ j, j < 6 → W.cell? ⟨k, j, none⟩ = some (exF x kv j)) ∧ LayS (fun b => w.heap.size + 1 ≤ b) W kv x.kids := by
  obtain ⟨c0, cs, e1, e2⟩ := h.eq
  obtain ⟨p, rfl⟩ : ∃ p, q = [p] := List.length_eq_one_iff.1 h1
  have e1' : [p.1] = c0 :: cs := e1
  injection e1' with e3 e4
  subst e3
  subst e4
  rw [moreP_zero hs] at e2
  rcases h.own.2 with ⟨_, h0⟩ | ⟨k, cap, cur, rfl, hbk, hh, hn, hcm, hcs, ht⟩
  · cases h0
  · refine ⟨p.1, p.2, k, cap, rfl, e2, fun j hj => ?_, (h.lay p (List.mem_singleton.2 rfl)).mono fun b hb _ => hb.1⟩
    have h5 := qCells_get [p] 0 (by simp) j hj
    rw [← ht, List.getElem?_take, if_pos (by show 0 * 6 + j < 1 * 6; omega)] at h5
    rw [cell_of_row W k j cur _ (0, 0) hh]
    simpa using h5
/-- Several things. -/
theorem SerI.more {w W : World} {g m n : Nat} {E op : Int} {word : ByteArray} {one : List Fnd → Got Ex} {l r : List Fnd} {v : Value} {q : List (Ex × Value)} (h : SerI w g E op word one l m v W q r n) (hs : skipB word r = false) (h1 : q.length ≠ 1) :
    serP word op one l = .ok (.mk op e0 e0 0 0 (q.map (·.1))) r ∧ LayS (fun b => w.heap.size + 1 ≤ b) W v (q.map (·.1)) := by
  obtain ⟨c0, cs, e1, e2⟩ := h.eq
  rw [moreP_zero hs] at e2
  refine ⟨?_, own_lay h.own (fun k hk => by omega) fun p hp => (h.lay p hp).mono fun b hb _ => hb.1⟩
  rw [e2, e1]
  show Got.ok (oneOf op c0 (cs ++ [])) r = _
  rw [List.append_nil]
  cases cs with
  | nil =>
    have : (q.map (·.1)).length = 1 := by rw [e1]; rfl
    rw [List.length_map] at this
    exact absurd this h1
  | cons c cs => rfl
theorem SerI.val {w W : World} {g m n : Nat} {E op : Int} {word : ByteArray} {one : List Fnd → Got Ex} {l r : List Fnd} {v : Value} {q : List (Ex × Value)} (h : SerI w g E op word one l m v W q r n) : ∃ A c, v = .slice A q.length c := by
  rcases h.own.2 with ⟨rfl, h0⟩ | ⟨k, cap, cur, rfl, _⟩
  · exact ⟨none, 0, by rw [h0]⟩
  · exact ⟨_, _, rfl⟩
set_option maxRecDepth 100000 in
set_option maxHeartbeats 8000000 in
theorem series_any (w0 : World) (g F bop m : Nat) (E op : Int) (word : ByteArray) (one : List Fnd → Got Ex) (l : List Fnd) (w : World) (hF : ∀ (args : Array Value) (w : World), (callFunc F args).run Tryz.prog w = .ok (.enter F args) w)
    (hb0 : Below w0.heap.size w0 w) (hg : w0.heap.size ≤ g) (h : Par w g E l) (hbop : Has w bop 3 #[.int .i64 op]) (hgb : bop ≠ g) (hm : l.length + 1 ≤ m) (hm2 : m ≤ 1000000)
    (hone : ∀ (l' : List Fnd) (W : World), l'.length ≤ l.length → Below w0.heap.size w0 W → Par W g E l' → Calls Tryz.prog F #[.pointer (some ⟨g, 0, none⟩)] W (Rd (ExR W.heap.size) W g E (one l')))
    (hsh : ∀ l' c r, one l' = .ok c r → r.length ≤ l'.length) :
    Calls Tryz.prog 73 #[.pointer (some ⟨g, 0, none⟩), .string word, .func (.func F) #[.pointer (some ⟨g, 0, none⟩)] #[], .func (.func 90) #[] #[.pointer (some ⟨bop, 0, none⟩)]] w (Rd (ExR w.heap.size) w g E (serP word op one l)) := by
  have hlt := h.lt
  have hA1 : Aw g g w (w.alloc (.cells #[.int .i64 0, .string ⟨#[]⟩, .string ⟨#[]⟩, .int .i64 0, .int .i64 0, .slice none 0 0] 24)) := (Aw.refl _ _ _).alloc _
  have HO1 := Lib.hid (hone l _ (Nat.le_refl _) (hA1.below hb0 hg hg) (h.below ((Below.refl _ _).alloc (Nat.le_refl _) _)))
  have HR1 := Lib.hid (Has.new w 24 #[.int .i64 0, .string ⟨#[]⟩, .string ⟨#[]⟩, .int .i64 0, .int .i64 0, .slice none 0 0])
  have HA1 := Lib.hid hA1
  clear hA1
  obtain ⟨i0, hi0, hz0, hz1, hz2⟩ := info_parts infoEx
  have HI0 := Lib.hid hi0
  have HZ0 := Lib.hid hz0
  clear hi0 hz0
  go_enter Tryz.func73, Tryz.ntmps73
  go_wp2_with ((with_reducible refine HO1.out.mono ?_); rintro e w1 hd; rcases hd.cases with ⟨er, at', hq, rfl, ha⟩ | ⟨x, r, v, hq, rfl, ⟨kv, rfl, hv⟩, ha, hp⟩; (exact ⟨rfl, Rd.bad (by unfold serP; rw [hq]; rfl) (HA1.out.trans ha)⟩); have HQ := Lib.hid hq; have HV := Lib.hid hv; have HA := Lib.hid ha; have HP := Lib.hid hp; clear hq hv ha hp hd)
  have HS0 := Lib.hid (show SerI w g E op word one l m (.slice (some ⟨w1.heap.size, 0, none⟩) 1 1) (w1.alloc (.cells #[.int .i64 x.op, .string x.name, .string x.value, .int .i64 x.n, .int .i64 x.extra, kv] 24)) [(x, kv)] r r.length from by
    have hz := HA.out.2.2.2.1
    rw [World.size_alloc] at hz
    have hle := hsh l x r HQ.out
    refine ⟨⟨rfl, .inr ⟨w1.heap.size, 1, _, rfl, hz, heap_alloc_new w1 _, Nat.le_refl _, by decide, rfl, rfl⟩⟩, fun p hp => ?_, HP.out.below ((Below.refl _ _).alloc (Nat.le_refl _) _), (HA1.out.trans HA.out).alloc _, (HR1.out.aw HA.out (by omega) (by omega)).alloc _, Nat.le_refl _, by show 1 + r.length ≤ m; omega, hle, x, [], rfl, ?_⟩
    · rw [List.mem_singleton] at hp
      subst hp
      refine HV.out.on (fun b hb hlt => Below.heap_alloc w1 _ _ hlt) fun b hb hlt => ⟨by rw [World.size_alloc] at hb; omega, fun e => ?_⟩
      simp [Value.ownBlock] at e
      omega
    · unfold serP; rw [HQ.out]; rfl)
  clear HO1 HQ HV HA HP HA1 HR1
  generalize (w1.alloc (.cells #[.int .i64 x.op, .string x.name, .string x.value, .int .i64 x.n, .int .i64 x.extra, kv] 24)) = wA at *
  generalize (.slice (some ⟨w1.heap.size, 0, none⟩) 1 1 : Value) = vA at *
  go_loopw [9] (fun v wr => ∃ q r n, Hid (SerI w g E op word one l m v wr q r n)) (fun _ wr => parLen wr g)
  case atStart => exact ⟨_, _, _, HS0⟩
  case round =>
    clear HS0
    obtain ⟨q, r, n, H⟩ := hrel
    obtain ⟨d, f⟩ := H.out.res.facts
    have HBop := Lib.hid (hbop.aw H.out.aw hgb hgb)
    cases hsk : skipB word r with
    | false =>
      by_cases h1 : q.length = 1
      · obtain ⟨x, kv, k, cap, rfl, hS, hc, hk⟩ := H.out.one hsk h1
        have hc0 := hc 0 (by decide)
        have hc1 := hc 1 (by decide)
        have hc2 := hc 2 (by decide)
        have hc3 := hc 3 (by decide)
        have hc4 := hc 4 (by decide)
        have hc5 := hc 5 (by decide)
        simp only [exF, if_true, if_false, Nat.reduceEqDiff, Nat.add_one_ne_zero] at hc0 hc1 hc2 hc3 hc4 hc5
        have HK := Lib.hid hk
        have HSS := Lib.hid hS
        obtain ⟨A', c', rfl, _⟩ := hk.slice
        clear hc hk hS
        go_wp2_with (go_at_call 71; refine (skip_no g E word r _ H.out.par hsk).mono ?_; rintro e w5 ⟨rfl, rfl⟩)
        have HSix := Lib.hid (six_has H.out.res (.int .i64 x.op) (.string x.name) (.string x.value) (.int .i64 x.n) (.int .i64 x.extra) (.slice A' x.kids.length c'))
        have HFin := Lib.hid (show Rd (ExR w.heap.size) w g E (serP word op one l) (.returned (.agg #[.int .i64 x.op, .string x.name, .string x.value, .int .i64 x.n, .int .i64 x.extra, .slice A' x.kids.length c'])) (six w5 w.heap.size (.int .i64 x.op) (.string x.name) (.string x.value) (.int .i64 x.n) (.int .i64 x.extra) (.slice A' x.kids.length c')) from
          Rd.ok HSS.out (six_aw H.out.aw (.inr (.inr (Nat.le_refl _))) _ _ _ _ _ _) ⟨_, rfl, six_lay HK.out (fun b hb => ⟨by omega, by omega⟩) _ _ _ _ _ _⟩ (six_par H.out.par hlt _ _ _ _ _ _))
        show bodyPost _ _ _ _ _ (six w5 w.heap.size (.int .i64 x.op) (.string x.name) (.string x.value) (.int .i64 x.n) (.int .i64 x.extra) (.slice A' x.kids.length c'))
        generalize six w5 w.heap.size (.int .i64 x.op) (.string x.name) (.string x.value) (.int .i64 x.n) (.int .i64 x.extra) (.slice A' x.kids.length c') = W6 at *
        obtain ⟨d6, f6⟩ := HSix.out.facts
        refine bodyPost_ret (v := .agg #[.int .i64 x.op, .string x.name, .string x.value, .int .i64 x.n, .int .i64 x.extra, .slice A' x.kids.length c']) (by simp [results, Tryz.results73, go_sem, d6]) rfl ?_
        exact HFin.out
      · obtain ⟨hS, hk⟩ := H.out.more hsk h1
        obtain ⟨A', c', rfl⟩ := H.out.val
        have hne1 : ((q.length : Int) == 1) = false := by simp; omega
        have HK := Lib.hid hk
        have HSS := Lib.hid hS
        clear hk hS
        go_wp2_with (first
          | (go_at_call 71; refine (skip_no g E word r _ H.out.par hsk).mono ?_; rintro e w5 ⟨rfl, rfl⟩)
          | (go_at_call 90; refine (of1_any op _ (q.map (·.1)) bop _ HBop.out HK.out).mono ?_; rintro e w6 ⟨rfl, hb6⟩; have H6 := Lib.hid hb6; clear hb6; obtain ⟨d7, f7⟩ := (H.out.res.below H6.out H.out.res.lt).facts))
        have hAq : (.slice A' q.length c' : Value) = .slice A' (q.map (·.1)).length c' := by rw [List.length_map]
        have HSix := Lib.hid (six_has (H.out.res.below H6.out H.out.res.lt) (.int .i64 op) (.string e0) (.string e0) (.int .i64 0) (.int .i64 0) (.slice A' q.length c'))
        have HFin := Lib.hid (show Rd (ExR w.heap.size) w g E (serP word op one l) (.returned (.agg #[.int .i64 op, .string e0, .string e0, .int .i64 0, .int .i64 0, .slice A' q.length c'])) (six w6 w.heap.size (.int .i64 op) (.string e0) (.string e0) (.int .i64 0) (.int .i64 0) (.slice A' q.length c')) from
          Rd.ok HSS.out (six_aw (H.out.aw.trans (.of_below H6.out)) (.inr (.inr (Nat.le_refl _))) _ _ _ _ _ _) ⟨_, rfl, six_lay (HK.out.later H6.out) (fun b hb => ⟨by omega, by omega⟩) _ _ _ _ _ _⟩ (six_par (H.out.par.below H6.out) hlt _ _ _ _ _ _))
        show bodyPost _ _ _ _ _ (six w6 w.heap.size (.int .i64 op) (.string e0) (.string e0) (.int .i64 0) (.int .i64 0) (.slice A' q.length c'))
        generalize six w6 w.heap.size (.int .i64 op) (.string e0) (.string e0) (.int .i64 0) (.int .i64 0) (.slice A' q.length c') = W6 at *
        obtain ⟨d8, f8⟩ := HSix.out.facts
        refine bodyPost_ret (v := .agg #[.int .i64 op, .string e0, .string e0, .int .i64 0, .int .i64 0, .slice A' q.length c']) (by simp [results, Tryz.results73, go_sem, d8]) rfl ?_
        exact HFin.out
    | true =>
      have hpos := H.out.pos
      have hlen := tail_len hsk
      have hHn := H.out.hn
      have hHm := H.out.hm
      have hHl := H.out.hl
      have hsz := H.out.aw.2.2.2.1
      obtain ⟨A', c', rfl⟩ := H.out.val
      obtain ⟨n, rfl⟩ : ∃ k, n = k + 1 := ⟨n - 1, by omega⟩
      have hown := H.out.own
      go_wp2_with (first
        | (go_at_call 71; refine (skip_yes g E word r _ H.out.par hsk).mono ?_; rintro e w2 ⟨rfl, ha2, hp2⟩; have HO := Lib.hid (hone r.tail w2 (by omega) ((H.out.aw.trans ha2).below hb0 hg hg) hp2); have HA2 := Lib.hid ha2; clear ha2 hp2)
        | ((with_reducible refine HO.out.mono ?_); clear HO; rintro e w3 hd; rcases hd.cases with ⟨er, at', hq, rfl, ha⟩ | ⟨x2, r2, v2, hq, rfl, ⟨kv2, rfl, hv2⟩, ha, hp⟩; (exact ⟨rfl, Rd.bad (by obtain ⟨c0, cs, _, h2⟩ := H.out.eq; rw [h2, moreP_succ hsk, hq]; rfl) ((H.out.aw.trans HA2.out).trans ha)⟩); have HQ := Lib.hid hq; have HV := Lib.hid hv2; have HA := Lib.hid ha; have HP := Lib.hid hp; have HKone := Lib.hid hv2.one; have HOwn := Lib.hid (show (w3.alloc (.cells #[.int .i64 x2.op, .string x2.name, .string x2.value, .int .i64 x2.n, .int .i64 x2.extra, kv2] 24)).ownsRow (w.heap.size + 1) 24 6 (.slice A' q.length c') q.length (qCells q) from (own_aw (own_aw hown HA2.out (by omega) (by omega)) ha (by omega) (by omega)).alloc _); clear hq hv2 ha hp hd)
        | ((with_reducible show wpList _ _ _ (Oper.mk (some 20) _ _ _ _ _ :: _) _ _); refine wpList_appB rfl (.tmp 16) (.tmp 19) 22 rfl (w.heap.size + 1) 24 i0 (.agg #[.int .i64 0, .string ⟨#[]⟩, .string ⟨#[]⟩, .int .i64 0, .int .i64 0, .slice none 0 0]) 6 80 Tryz.underlying22 HI0.out HZ0.out hz1 hz2 rfl (by decide) _ q.length (qCells q) rfl HOwn.out hpos ⟨w3.heap.size, 0, none⟩ 1 1 (exL x2 kv2) rfl rfl (tok_src w3 (exL x2 kv2) _) (exL_one x2 kv2 HKone.out) (by unfold maxLen; omega) (by omega) (by have h1 := HA2.out.2.2.2.1; have h2 := HA.out.2.2.2.1; rw [World.size_alloc]; omega) ?_; intro v' w4 hown' hgrow hblk; have HNext := Lib.hid (H.out.next hlt hsk HA2.out HQ.out HA.out HP.out HV.out (hsh _ _ _ HQ.out) hown' hgrow hblk); clear hown' hgrow hblk))
      have hml := HNext.out.par.len
      have hml2 := H.out.par.len
      have hle := hsh _ _ _ HQ.out
      go_roundw
      case rel => exact ⟨_, _, _, HNext⟩
      case measure => rw [hml, hml2]; omega
end Go.Proofs.YtppoeiofdmlpeaaGreatDoor
