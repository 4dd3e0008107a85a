/- Events: their fields as a record; the words of operations; what slices.ContainsFunc says of a few strings. More small words on memory: a boxed argument behind a call. No condition. '==' and '!=' on two events, as one Bool. event.Valid at every operation but OpRun. What the functions of the fleet answer, in plain words. No condition. catalog.Find: the first kind with a name. -/
import Derived.Laws.CopyOwn
import Derived.RegionTactic
import Derived.Sort.Walk0
import Derived.Test.YtccnocgmikmonaaGreatDoorU01
namespace Go.Proofs.YtccnocgmikmonaaGreatDoor
open Go Go.RowKit
/-- An event, field by field. -/
structure Ev where
  op : Int
  day : Int
  part : ByteArray
  kind : ByteArray
  into : ByteArray
  slot : ByteArray
  key : ByteArray
  value : ByteArray
  kl : Int
  kh : Int
  cl : Int
  ch : Int
  ll : Int
  lh : Int
  deriving DecidableEq
def Ev.cells (e : Ev) : Array Value := #[.int .i64 e.op, .int .i64 e.day, .string e.part, .string e.kind, .string e.into, .string e.slot, .string e.key, .string e.value, .int .i64 e.kl, .int .i64 e.kh, .int .i64 e.cl, .int .i64 e.ch, .int .i64 e.ll, .int .i64 e.lh]

def wordS (op : Int) : ByteArray :=
  if op = 1 then ⟨#[109, 97, 107, 101]⟩ else if op = 2 then ⟨#[102, 105, 116]⟩ else if op = 3 then ⟨#[114, 101, 109, 111, 118, 101]⟩ else if op = 4 then ⟨#[114, 117, 110]⟩
  else if op = 5 then ⟨#[111, 118, 101, 114, 104, 97, 117, 108]⟩ else if op = 6 then ⟨#[110, 111, 116, 101]⟩ else if op = 7 then ⟨#[115, 99, 114, 97, 112]⟩ else ⟨#[]⟩
theorem wordS_none {op : Int} (h : op < 1 ∨ 7 < op) : wordS op = ⟨#[]⟩ := by
  unfold wordS
  rw [if_neg (by omega), if_neg (by omega), if_neg (by omega), if_neg (by omega), if_neg (by omega), if_neg (by omega), if_neg (by omega)]

set_option maxHeartbeats 1000000 in
theorem word_any (op : Int) (w : World) :
    Calls Tryz.prog 83 #[.int .i64 op] w fun e w' => e = .returned (.string (wordS op)) ∧ Below w.heap.size w w' := by
  by_cases h0 : op < 0
  · have HW := Lib.hid (wordS_none (op := op) (by omega))
    go_enter Tryz.func83, Tryz.ntmps83
    go_wp2
    go_ret
    exact ⟨by rw [HW.out]; rfl, (Below.refl _ _).alloc (Nat.le_refl _) _⟩
  · by_cases h8 : 8 ≤ op
    · have HW := Lib.hid (wordS_none (op := op) (by omega))
      go_enter Tryz.func83, Tryz.ntmps83
      go_wp2
      go_ret
      exact ⟨by rw [HW.out]; rfl, (Below.refl _ _).alloc (Nat.le_refl _) _⟩
    · have hc : op = 0 ∨ op = 1 ∨ op = 2 ∨ op = 3 ∨ op = 4 ∨ op = 5 ∨ op = 6 ∨ op = 7 := by omega
      clear h0 h8
      rcases hc with rfl | rfl | rfl | rfl | rfl | rfl | rfl | rfl
      all_goals
        go_enter Tryz.func83, Tryz.ntmps83
        go_wp2
        go_ret
        exact ⟨rfl, (Below.refl _ _).alloc (Nat.le_refl _) _⟩

/-- The three intervals of a use that lies in a block. -/
theorem intervals_any (g o : Nat) (w : World) :
    Calls Tryz.prog 85 #[.pointer (some ⟨g, o, none⟩)] w fun e w' =>
      e = .returned (.agg #[.pointer (some ⟨g, o, none⟩), .pointer (some ⟨g, o + 2, none⟩), .pointer (some ⟨g, o + 4, none⟩)]) ∧ Below w.heap.size w w' := by
  go_enter Tryz.func85, Tryz.ntmps85
  go_wp2
  go_region
  all_goals
    go_wp2
    refine bodyPost_ret (v := .agg #[.pointer (some ⟨g, o, none⟩), .pointer (some ⟨g, o + 2, none⟩), .pointer (some ⟨g, o + 4, none⟩)]) (by simp [results, Tryz.results85, go_sem]) rfl ⟨rfl, ((Below.refl _ _).alloc (Nat.le_refl _) _).drew⟩

theorem notName_any (s : ByteArray) (w : World) (hs : s.size ≤ maxLen) :
    Calls Tryz.prog 87 #[.string s] w fun e w' => e = .returned (.bool (!nameB s)) ∧ Below w.heap.size w w' := by
  go_enter Tryz.func87, Tryz.ntmps87
  go_wp2_with (go_at_call 84; refine (name_any _ _ hs).mono ?_; rintro e w1 ⟨rfl, hb1⟩)
  go_ret
  exact ⟨rfl, hb1⟩

set_option maxHeartbeats 1000000 in
theorem indexBad_any (v : Value) (l : List ByteArray) (w : World) (hv : Sl w v l.length 1 (strF l)) (hl : l.length ≤ 60000) (hs : ∀ s ∈ l, s.size ≤ maxLen) :
    Calls Tryz.prog 124 #[v, .func (.func 87) #[] #[]] w fun e w' => ∃ r : Int, e = .returned (.int .i64 r) ∧ (r = -1 ∧ l.all nameB = true ∨ 0 ≤ r ∧ l.all nameB = false) ∧ Below w.heap.size w w' := by
  obtain ⟨A, c, rfl, hn, hc⟩ := hv
  go_enter Tryz.func124, Tryz.ntmps124
  go_wp2_with fail
  go_loopw [8] (fun i wr => ∃ k : Nat, k ≤ l.length ∧ i = .int .i64 k ∧ Hid (∀ s, s ∈ l.take k → nameB s = true) ∧ Below w.heap.size w wr) (fun i _ => l.length - (intOf i).toNat)
  case atStart => exact ⟨0, Nat.zero_le _, rfl, fun s hs => by simp at hs, Below.refl _ _⟩
  case round =>
    obtain ⟨k, hk, rfl, hrel, hb⟩ := hrel
    by_cases hlt : k < l.length
    · rcases hc with h0 | ⟨b, o, rfl, hc⟩
      · omega
      have hck : wr.cell? ⟨b, o + k, none⟩ = some (.string (l.getD k ByteArray.empty)) := cell_later hb (hc k (by omega))
      have hmem : l.getD k ByteArray.empty ∈ l := by
        rw [List.getD_eq_getElem?_getD, List.getElem?_eq_getElem hlt]; exact List.getElem_mem hlt
      have hsz := hs _ hmem
      have htake : l.take (k + 1) = l.take k ++ [l.getD k ByteArray.empty] := by
        rw [List.take_add_one, List.getElem?_eq_getElem hlt, List.getD_eq_getElem?_getD, List.getElem?_eq_getElem hlt]; rfl
      have yes : nameB (l.getD k ByteArray.empty) = true → Hid (∀ s, s ∈ l.take (k + 1) → nameB s = true) := fun h s hs => by
        rw [htake, List.mem_append, List.mem_singleton] at hs
        rcases hs with hs | rfl
        · exact hrel.out s hs
        · exact h
      have no : nameB (l.getD k ByteArray.empty) = false → l.all nameB = false := fun h => by
        rw [List.all_eq_false]; exact ⟨_, hmem, by rw [h]; decide⟩
      have YES := Lib.hid yes
      have NO := Lib.hid no
      clear yes no htake hmem hc hs
      generalize l.getD k ByteArray.empty = s at *
      cases hN : nameB s
      · have HN := Lib.hid hN
        go_wp2_with (go_at_call 87; refine (notName_any _ _ hsz).mono ?_; rintro e w1 ⟨rfl, hb1⟩)
        go_ret
        exact ⟨_, rfl, .inr ⟨by omega, NO.out HN.out⟩, hb.trans (hb1.mono hb.size)⟩
      · have HN := Lib.hid hN
        go_wp2_with (go_at_call 87; refine (notName_any _ _ hsz).mono ?_; rintro e w1 ⟨rfl, hb1⟩)
        go_roundw
        case rel => exact ⟨k + 1, by omega, by go_num, YES.out HN.out, hb.trans (hb1.mono hb.size)⟩
        case measure => simp [intOf]; omega
    · obtain rfl : k = l.length := by omega
      go_wp2_with fail
      go_ret
      exact ⟨_, rfl, .inl ⟨rfl, by rw [List.all_eq_true]; intro s hs; exact hrel.out s (by rw [List.take_length]; exact hs)⟩, hb⟩

theorem containsBad_any (v : Value) (l : List ByteArray) (w : World) (hv : Sl w v l.length 1 (strF l)) (hl : l.length ≤ 60000) (hs : ∀ s ∈ l, s.size ≤ maxLen) :
    Calls Tryz.prog 86 #[v, .func (.func 87) #[] #[]] w fun e w' => e = .returned (.bool (!l.all nameB)) ∧ Below w.heap.size w w' := by
  have HV := Lib.hid hv
  clear hv
  go_enter Tryz.func86, Tryz.ntmps86
  go_wp2_with (go_at_call 124; refine (indexBad_any _ l _ HV.out hl hs).mono ?_; rintro e w1 ⟨r, rfl, hr, hb1⟩; have HR := Lib.hid hr; clear hr)
  go_ret
  refine ⟨ret_bool ?_, hb1⟩
  rcases HR.out with ⟨rfl, h⟩ | ⟨h0, h⟩
  · rw [h]; rfl
  · rw [h]; simp [h0]
end Go.Proofs.YtccnocgmikmonaaGreatDoor
namespace Go.Proofs.YtccnocgmikmonaaGreatDoor
open Go Go.RowKit
theorem Has.facts {w : World} {g t : Nat} {cs : Array Value} (h : Has w g t cs) :
    (∀ o, w.cell? ⟨g, o, none⟩ = cs[o]?) ∧ (∀ o, w.frozen? ⟨g, o, none⟩ = false) := ⟨fun o => h.cell o, fun o => h.free o⟩
/-- A boxed argument behind the first call. -/
theorem boxed {w w1 : World} {t : Nat} {cs : Array Value} (hb : Below (w.alloc (.cells cs t)).heap.size (w.alloc (.cells cs t)) w1) :
    Has w1 w.heap.size t cs ∧ Below w.heap.size w w1 ∧ w.heap.size < w1.heap.size := by
  have hs := hb.size
  rw [World.size_alloc] at hs
  exact ⟨(Has.new w t cs).below hb (by simp), ((Below.refl _ _).alloc (Nat.le_refl _) _).trans (hb.mono (by simp)), by omega⟩
/-- The same behind a further call. -/
theorem Has.next {w w1 w2 : World} {t g B : Nat} {cs : Array Value} (h : Has w1 g t cs) (hB : Below B w w1) (hs : g < w1.heap.size) (hb : Below w1.heap.size w1 w2) (hBs : B ≤ w1.heap.size) :
    Has w2 g t cs ∧ Below B w w2 ∧ g < w2.heap.size :=
  ⟨h.below hb hs, hB.trans (hb.mono hBs), Nat.lt_of_lt_of_le hs hb.size⟩
end Go.Proofs.YtccnocgmikmonaaGreatDoor
namespace Go.Proofs.YtccnocgmikmonaaGreatDoor
open Go Go.RowKit
def evEq (e f : Ev) : Bool := decide (e = f)
theorem bytes_beq (a b : ByteArray) : (a.toList == b.toList) = decide (a = b) := by
  rw [Bool.eq_iff_iff, beq_iff_eq, decide_eq_true_iff, _root_.Go.ByteArray.toList_eq, _root_.Go.ByteArray.toList_eq]
  constructor
  · intro h
    cases a; cases b
    simpa using h
  · rintro rfl; rfl
theorem bytes_inj (a b : ByteArray) : (a.toList = b.toList) = (a = b) := by
  have h := bytes_beq a b
  rw [Bool.eq_iff_iff, beq_iff_eq, decide_eq_true_iff] at h
  exact propext h
theorem ite_dec (c : Prop) [Decidable c] (b : Bool) (w : World) :
    (if c then (Result.ok (Value.bool b) w : Result Value) else Result.ok (Value.bool false) w) = Result.ok (Value.bool (decide c && b)) w := by
  split <;> simp [*]
theorem ite_dec' (c : Prop) [Decidable c] (b : Bool) (w : World) :
    (if c then (Result.ok (Value.bool b) w : Result Value) else Result.ok (Value.bool true) w) = Result.ok (Value.bool (!decide c || b)) w := by
  split <;> simp [*]
set_option maxRecDepth 100000 in
set_option maxHeartbeats 2000000 in
theorem run_evEq (w : World) (a0 a1 : Int) (a2 a3 a4 a5 a6 a7 : ByteArray) (a8 a9 a10 a11 a12 a13 : Int) (b0 b1 : Int) (b2 b3 b4 b5 b6 b7 : ByteArray) (b8 b9 b10 b11 b12 b13 : Int) :
    (binOp .eql 51 (.agg #[.int .i64 a0, .int .i64 a1, .string a2, .string a3, .string a4, .string a5, .string a6, .string a7, .int .i64 a8, .int .i64 a9, .int .i64 a10, .int .i64 a11, .int .i64 a12, .int .i64 a13])
      (.agg #[.int .i64 b0, .int .i64 b1, .string b2, .string b3, .string b4, .string b5, .string b6, .string b7, .int .i64 b8, .int .i64 b9, .int .i64 b10, .int .i64 b11, .int .i64 b12, .int .i64 b13])).run Tryz.prog w
      = .ok (.bool (evEq ⟨a0, a1, a2, a3, a4, a5, a6, a7, a8, a9, a10, a11, a12, a13⟩ ⟨b0, b1, b2, b3, b4, b5, b6, b7, b8, b9, b10, b11, b12, b13⟩)) w := by
  go_simp
  simp only [ite_dec]
  refine congrArg (fun b => Result.ok (Value.bool b) w) ?_
  rw [Bool.eq_iff_iff]
  simp [evEq, bytes_inj]

set_option maxRecDepth 100000 in
set_option maxHeartbeats 2000000 in
theorem run_evNe (w : World) (a0 a1 : Int) (a2 a3 a4 a5 a6 a7 : ByteArray) (a8 a9 a10 a11 a12 a13 : Int) (b0 b1 : Int) (b2 b3 b4 b5 b6 b7 : ByteArray) (b8 b9 b10 b11 b12 b13 : Int) :
    (binOp .neq 51 (.agg #[.int .i64 a0, .int .i64 a1, .string a2, .string a3, .string a4, .string a5, .string a6, .string a7, .int .i64 a8, .int .i64 a9, .int .i64 a10, .int .i64 a11, .int .i64 a12, .int .i64 a13])
      (.agg #[.int .i64 b0, .int .i64 b1, .string b2, .string b3, .string b4, .string b5, .string b6, .string b7, .int .i64 b8, .int .i64 b9, .int .i64 b10, .int .i64 b11, .int .i64 b12, .int .i64 b13])).run Tryz.prog w
      = .ok (.bool (!evEq ⟨a0, a1, a2, a3, a4, a5, a6, a7, a8, a9, a10, a11, a12, a13⟩ ⟨b0, b1, b2, b3, b4, b5, b6, b7, b8, b9, b10, b11, b12, b13⟩)) w := by
  go_simp
  simp only [ite_dec']
  refine congrArg (fun b => Result.ok (Value.bool b) w) ?_
  rw [Bool.eq_iff_iff]
  simp [evEq, bytes_inj]
attribute [go_sem ↓] run_evEq run_evNe
end Go.Proofs.YtccnocgmikmonaaGreatDoor
namespace Go.Proofs.YtccnocgmikmonaaGreatDoor
open Go Go.RowKit
def noStr : ByteArray := ⟨#[]⟩
def zeroEv : Ev := ⟨0, 0, ⟨#[]⟩, ⟨#[]⟩, ⟨#[]⟩, ⟨#[]⟩, ⟨#[]⟩, ⟨#[]⟩, 0, 0, 0, 0, 0, 0⟩
def useOk (e : Ev) : Bool := decide (0 ≤ e.kl ∧ e.kl ≤ e.kh ∧ e.kh ≤ 1000000 ∧ 0 ≤ e.cl ∧ e.cl ≤ e.ch ∧ e.ch ≤ 1000000 ∧ 0 ≤ e.ll ∧ e.ll ≤ e.lh ∧ e.lh ≤ 1000000)
def rest1 (e : Ev) : Bool := evEq ⟨0, 0, ⟨#[]⟩, ⟨#[]⟩, e.into, e.slot, e.key, e.value, e.kl, e.kh, e.cl, e.ch, e.ll, e.lh⟩ ⟨0, 0, ⟨#[]⟩, ⟨#[]⟩, ⟨#[]⟩, ⟨#[]⟩, ⟨#[]⟩, ⟨#[]⟩, 0, 0, 0, 0, 0, 0⟩
def rest2 (e : Ev) : Bool := evEq ⟨0, 0, ⟨#[]⟩, e.kind, ⟨#[]⟩, ⟨#[]⟩, e.key, e.value, e.kl, e.kh, e.cl, e.ch, e.ll, e.lh⟩ ⟨0, 0, ⟨#[]⟩, ⟨#[]⟩, ⟨#[]⟩, ⟨#[]⟩, ⟨#[]⟩, ⟨#[]⟩, 0, 0, 0, 0, 0, 0⟩
def rest6 (e : Ev) : Bool := evEq ⟨0, 0, ⟨#[]⟩, e.kind, e.into, e.slot, ⟨#[]⟩, ⟨#[]⟩, e.kl, e.kh, e.cl, e.ch, e.ll, e.lh⟩ ⟨0, 0, ⟨#[]⟩, ⟨#[]⟩, ⟨#[]⟩, ⟨#[]⟩, ⟨#[]⟩, ⟨#[]⟩, 0, 0, 0, 0, 0, 0⟩
def rest4 (e : Ev) : Bool := evEq ⟨0, 0, ⟨#[]⟩, e.kind, e.into, e.slot, e.key, e.value, 0, 0, 0, 0, 0, 0⟩ ⟨0, 0, ⟨#[]⟩, ⟨#[]⟩, ⟨#[]⟩, ⟨#[]⟩, ⟨#[]⟩, ⟨#[]⟩, 0, 0, 0, 0, 0, 0⟩
def rest0 (e : Ev) : Bool := evEq ⟨0, 0, ⟨#[]⟩, e.kind, e.into, e.slot, e.key, e.value, e.kl, e.kh, e.cl, e.ch, e.ll, e.lh⟩ ⟨0, 0, ⟨#[]⟩, ⟨#[]⟩, ⟨#[]⟩, ⟨#[]⟩, ⟨#[]⟩, ⟨#[]⟩, 0, 0, 0, 0, 0, 0⟩
/-- What an event must be beside its day and its part. -/
def evRest (e : Ev) : Bool :=
  if e.op = 1 then rest1 e && [e.kind].all nameB
  else if e.op = 2 then !(e.into.toList == e.part.toList) && (rest2 e && [e.into, e.slot].all nameB)
  else if e.op = 6 then (!e.value.toList.isEmpty && decide ((e.value.size : Int) ≤ 200)) && (rest6 e && [e.key].all nameB)
  else if e.op = 4 then useOk e && rest4 e
  else rest0 e
/-- Is the event valid? -/
def evOk (e : Ev) : Bool := decide (1 ≤ e.op ∧ e.op ≤ 7) && (decide (0 ≤ e.day ∧ e.day ≤ 40000) && (nameB e.part && evRest e))
/-- All its strings are strings that lie in memory. -/
def Ev.short (e : Ev) : Prop := e.part.size ≤ maxLen ∧ e.kind.size ≤ maxLen ∧ e.into.size ≤ maxLen ∧ e.slot.size ≤ maxLen ∧ e.key.size ≤ maxLen ∧ e.value.size ≤ maxLen
theorem has_new2 (w : World) (A B : Obj) (t : Nat) (cs : Array Value) : Has (((w.alloc A).alloc B).alloc (.cells cs t)) (w.heap.size + 2) t cs := by
  have h := Has.new ((w.alloc A).alloc B) t cs
  have e : ((w.alloc A).alloc B).heap.size = w.heap.size + 2 := by simp
  rwa [e] at h
theorem wordS_some {op : Int} (h : 1 ≤ op ∧ op ≤ 7) : (wordS op).toList.isEmpty = false := by
  have hc : op = 1 ∨ op = 2 ∨ op = 3 ∨ op = 4 ∨ op = 5 ∨ op = 6 ∨ op = 7 := by omega
  rcases hc with rfl | rfl | rfl | rfl | rfl | rfl | rfl <;> (rw [isEmpty_size]; rfl)
theorem wordS_some' {op : Int} (h : 1 ≤ op ∧ op ≤ 7) : ¬ (wordS op).toList = [] := by
  have := wordS_some h
  intro e; rw [e] at this; cases this
end Go.Proofs.YtccnocgmikmonaaGreatDoor
namespace Go.Proofs.YtccnocgmikmonaaGreatDoor
open Go Go.RowKit
def eS : ByteArray := ⟨#[]⟩
/-- The order of strings, in the model's words. -/
def ltS (a b : ByteArray) : Bool := Op.bytesLess a.toList b.toList
theorem ltS_iff (a b : ByteArray) : ltS a b = true ↔ a.data.toList < b.data.toList := by
  unfold ltS; rw [Proofs.bytesLess_eq, Lib.toList_data, Lib.toList_data, decide_eq_true_iff]
theorem ltS_irr (a : ByteArray) : ltS a a = false := by
  rw [Bool.eq_false_iff]; intro h; rw [ltS_iff] at h; exact List.lt_irrefl _ h
theorem ltS_trans {a b c : ByteArray} (h1 : ltS a b = true) (h2 : ltS b c = true) : ltS a c = true := by
  rw [ltS_iff] at *; exact List.lt_trans h1 h2
theorem ltS_asymm {a b : ByteArray} (h1 : ltS a b = true) : ltS b a = false := by
  rw [Bool.eq_false_iff]; intro h2
  have := ltS_trans h1 h2
  rw [ltS_irr] at this; cases this
theorem ltS_conn {a b : ByteArray} (h1 : ltS a b = false) (h2 : ltS b a = false) : a = b := by
  rw [Bool.eq_false_iff, ne_eq, ltS_iff] at h1 h2
  have := List.le_antisymm (List.not_lt.1 h2) (List.not_lt.1 h1)
  cases a; cases b; simpa using this
/-- Are keys strictly increasing? -/
def sortTo (l : List ByteArray) (n : Nat) : Bool := (List.range n).all fun i => ltS (l.getD i eS) (l.getD (i + 1) eS)
def sortedB (l : List ByteArray) : Bool := sortTo l (l.length - 1)
def propOk (x : Pr) : Bool := nameB x.key && (!x.val.toList.isEmpty && decide ((x.val.size : Int) ≤ 200))
def amountB (a b : Int) : Bool := decide (0 ≤ a) && (decide (a ≤ b) && decide (b ≤ 1000000000000))
/-- Are the fields of a part right by themselves? -/
def rightB (c : List Kd) (p : Pa) : Bool :=
  ((kfind c p.kind).isSome && nameB p.name && (decide (0 ≤ p.made) && (decide (p.made ≤ p.since) && decide (p.since ≤ 40000))) && decide (p.props.length ≤ 60)) &&
  (p.props.all propOk && (sortedB (p.props.map Pr.key) && (amountB p.kl p.kh && (amountB p.cl p.ch && amountB p.dl p.dh))))
def seatOf (p : Pa) : ByteArray × ByteArray := (p.into, p.slot)
def seats (l : List Pa) : List (ByteArray × ByteArray) := (l.filter fun p => !decide (p.into = eS)).map seatOf
def placeOk (c : List Kd) (l : List Pa) (p : Pa) : Bool :=
  match pfind l p.into with
  | none => false
  | some h => !p.gone && (!h.gone && takesB c h.kind p.slot p.kind)
def partOk (c : List Kd) (l : List Pa) (p : Pa) : Bool :=
  rightB c p && ((decide (p.into = eS) == decide (p.slot = eS)) && (decide (p.into = eS) || placeOk c l p))
def okTo (c : List Kd) (l : List Pa) (n : Nat) : Bool := (l.take n).all (partOk c l) && decide (seats (l.take n)).Nodup
/-- Is a state valid? -/
def validB (c : List Kd) (l : List Pa) : Bool := (catB c && (decide (l.length ≤ 20000) && sortedB (l.map Pa.name))) && okTo c l l.length
/-- How many keys stand ahead of one; a thing laid into a list by its key. -/
def lowG {α : Type} (key : α → ByteArray) (l : List α) (k : ByteArray) : Nat := (l.takeWhile fun y => ltS (key y) k).length
def putG {α : Type} (key : α → ByteArray) (l : List α) (x : α) : List α :=
  if (l[lowG key l (key x)]?).map key = some (key x) then l.set (lowG key l (key x)) x else l.take (lowG key l (key x)) ++ x :: l.drop (lowG key l (key x))
def putP (l : List Pa) (p : Pa) : List Pa := putG Pa.name l p
def putX (l : List Pr) (x : Pr) : List Pr := putG Pr.key l x
def newPa (e : Ev) : Pa := ⟨e.part, e.kind, ⟨#[]⟩, ⟨#[]⟩, e.day, e.day, false, [], 0, 0, 0, 0, 0, 0⟩
def heldAt (l : List Pa) (into slot : ByteArray) : Bool := l.any fun q => decide (q.into = into) && decide (q.slot = slot)
def heldIn (l : List Pa) (into : ByteArray) : Bool := l.any fun q => decide (q.into = into)
/-- What an event makes of a part that is there, with its host; otherwise an error. -/
def turnL (c : List Kd) (l : List Pa) (e : Ev) (p h : Pa) : Pa × Int :=
  if p.gone || h.gone then (p, 5)
  else if e.op = 2 then
    if ((kfind c p.kind).getD noKd).veh || !takesB c h.kind e.slot p.kind then (p, 4)
    else if p.into ≠ eS then (p, 5)
    else if heldAt l e.into e.slot then (p, 6)
    else ({ p with into := e.into, slot := e.slot }, 0)
  else if e.op = 3 then if p.into = eS then (p, 5) else ({ p with into := eS, slot := eS }, 0)
  else if e.op = 4 then if ((kfind c p.kind).getD noKd).veh then (p, 0) else (p, 4)
  else if e.op = 5 then ({ p with since := max p.since e.day, kl := 0, kh := 0, cl := 0, ch := 0, dl := 0, dh := 0 }, 0)
  else if e.op = 6 then if (putX p.props ⟨e.key, e.value⟩).length > 60 then (p, 7) else ({ p with props := putX p.props ⟨e.key, e.value⟩ }, 0)
  else if e.op = 7 then if p.into ≠ eS || heldIn l p.name then (p, 5) else ({ p with gone := true }, 0)
  else (p, 0)
def stepL (c : List Kd) (l : List Pa) (e : Ev) : List Pa × Int :=
  if e.op = 1 then
    if (pfind l e.part).isSome then ([], 3) else if (kfind c e.kind).isNone then ([], 4) else if l.length = 20000 then ([], 7) else (putP l (newPa e), 0)
  else match pfind l e.part, (if e.op = 2 then pfind l e.into else pfind l e.part) with
    | some p, some h => if (turnL c l e p h).2 = 0 then (putP l (turnL c l e p h).1, 0) else ([], (turnL c l e p h).2)
    | _, _ => ([], 2)
/-- The state behind an event, and its error. -/
def applyL (c : List Kd) (l : List Pa) (e : Ev) : List Pa × Int := if validB c l && evOk e then stepL c l e else ([], 1)
/-- The outermost part in which a part is. -/
def rootGo (l : List Pa) : Nat → ByteArray → ByteArray
  | 0, _ => eS
  | n + 1, a => match pfind l a with
    | none => eS
    | some p => if p.into = eS then a else rootGo l n p.into
def rootL (l : List Pa) (a : ByteArray) : ByteArray := rootGo l l.length a
end Go.Proofs.YtccnocgmikmonaaGreatDoor
namespace Go.Proofs.YtccnocgmikmonaaGreatDoor
open Go Go.RowKit
/-- The first place of a text in a list; -1 if it is not there. -/
def ixL (l : List ByteArray) (x : ByteArray) : Int := match l.findIdx? (fun y => decide (y = x)) with | some i => i | none => -1
theorem ixL_hit {l : List ByteArray} {x : ByteArray} {k : Nat} (hk : k < l.length) (h : ∀ j, j < k → l.getD j eS ≠ x) (he : l.getD k eS = x) : ixL l x = k := by
  have : l.findIdx? (fun y => decide (y = x)) = some k := by
    rw [List.findIdx?_eq_some_iff_getElem]
    refine ⟨hk, ?_, fun j hj => ?_⟩
    · rw [List.getD_eq_getElem?_getD, List.getElem?_eq_getElem hk] at he
      simpa using he
    · have := h j hj
      rw [List.getD_eq_getElem?_getD, List.getElem?_eq_getElem (by omega)] at this
      simpa using this
  unfold ixL; rw [this]
theorem ixL_miss {l : List ByteArray} {x : ByteArray} (h : ∀ j, j < l.length → l.getD j eS ≠ x) : ixL l x = -1 := by
  have : l.findIdx? (fun y => decide (y = x)) = none := by
    rw [List.findIdx?_eq_none_iff]
    intro y hy
    obtain ⟨j, hj, rfl⟩ := List.getElem_of_mem hy
    have := h j hj
    rw [List.getD_eq_getElem?_getD, List.getElem?_eq_getElem hj] at this
    simpa using this
  unfold ixL; rw [this]
/-- The first thing with a name, by its place. -/
theorem ixL_find {α : Type} (key : α → ByteArray) (l : List α) (x : ByteArray) (d : α) :
    (ixL (l.map key) x = -1 ∧ l.find? (fun a => decide (key a = x)) = none) ∨
    ∃ k : Nat, ixL (l.map key) x = k ∧ k < l.length ∧ l.find? (fun a => decide (key a = x)) = some (l.getD k d) := by
  unfold ixL
  rw [List.findIdx?_map]
  cases h : l.findIdx? ((fun y => decide (y = x)) ∘ key) with
  | none =>
    left
    rw [List.findIdx?_eq_none_iff] at h
    exact ⟨rfl, List.find?_eq_none.2 fun a ha => by have := h a ha; simpa using this⟩
  | some k =>
    right
    rw [List.findIdx?_eq_some_iff_getElem] at h
    obtain ⟨hk, h1, h2⟩ := h
    refine ⟨k, rfl, hk, ?_⟩
    rw [List.find?_eq_some_iff_getElem]
    refine ⟨?_, k, hk, ?_, fun j hj => ?_⟩
    · rw [List.getD_eq_getElem?_getD, List.getElem?_eq_getElem hk]; simpa using h1
    · rw [List.getD_eq_getElem?_getD, List.getElem?_eq_getElem hk]; rfl
    · have := h2 j hj; simpa using this

theorem kindName_any (s : ByteArray) (b : Bool) (A : Option Addr) (n c : Nat) (w : World) :
    Calls Tryz.prog 94 #[.agg #[.string s, .bool b, .slice A n c]] w fun e w' => e = .returned (.string s) ∧ Below w.heap.size w w' := by
  go_enter Tryz.func94, Tryz.ntmps94
  go_wp2
  go_ret
  exact ⟨rfl, (Below.refl _ _).alloc (Nat.le_refl _) _⟩

set_option maxRecDepth 100000 in
set_option maxHeartbeats 1000000 in
theorem kindIs_any (s x : ByteArray) (b : Bool) (A : Option Addr) (n c g1 g2 : Nat) (w : World) (h1 : Has w g1 150 #[.func (.func 94) #[] #[]]) (h2 : Has w g2 9 #[.string x]) :
    Calls Tryz.prog 129 #[.agg #[.string s, .bool b, .slice A n c], .pointer (some ⟨g1, 0, none⟩), .pointer (some ⟨g2, 0, none⟩)] w fun e w' => e = .returned (.bool (s.toList == x.toList)) ∧ Below w.heap.size w w' := by
  have c1 := (h1.alloc (.cells #[.string s, .bool b, .slice A n c] 98)).cell 0
  have c2 := (h2.alloc (.cells #[.string s, .bool b, .slice A n c] 98)).cell 0
  have H2 := Lib.hid (h2.alloc (.cells #[.string s, .bool b, .slice A n c] 98))
  have hl := h2.lt
  go_enter Tryz.func129, Tryz.ntmps129
  go_wp2_with fail
  go_region_with (go_at_call 94; refine (kindName_any s b A n c _).mono ?_; rintro e w1 ⟨rfl, hb1⟩; have hb1 : Below (w.alloc (.cells #[.string s, .bool b, .slice A n c] 98)).heap.size (w.alloc (.cells #[.string s, .bool b, .slice A n c] 98)) w1 := ⟨hb1.os, hb1.tape, hb1.output, hb1.size, hb1.block⟩; have c3 := (H2.out.below hb1 (by simp; omega)).cell 0)
  all_goals (try go_wp2_with fail)
  all_goals (go_ret; exact ⟨rfl, by have := ((Below.refl w.heap.size w).alloc (Nat.le_refl _) (.cells #[.string s, .bool b, .slice A n c] 98)).trans (hb1.mono (by simp)); exact ⟨this.os, this.tape, this.output, this.size, this.block⟩⟩)

set_option maxRecDepth 100000 in
set_option maxHeartbeats 1000000 in
theorem kindIdx_any (v : Value) (l : List Kd) (x : ByteArray) (g1 g2 : Nat) (w : World) (hv : Cat w v l) (hl : l.length ≤ 100000) (h1 : Has w g1 150 #[.func (.func 94) #[] #[]]) (h2 : Has w g2 9 #[.string x]) :
    Calls Tryz.prog 128 #[v, .func (.func 129) #[] #[.pointer (some ⟨g1, 0, none⟩), .pointer (some ⟨g2, 0, none⟩)]] w fun e w' => e = .returned (.int .i64 (ixL (l.map Kd.name) x)) ∧ Below w.heap.size w w' := by
  have HV := Lib.hid hv
  have H1 := Lib.hid h1
  have H2 := Lib.hid h2
  have l1 := h1.lt
  have l2 := h2.lt
  obtain ⟨A, c, rfl, hn⟩ := hv.form
  clear hv h1 h2
  go_enter Tryz.func128, Tryz.ntmps128
  go_wp2_with fail
  go_loopw [8] (fun i wr => ∃ k : Nat, k ≤ l.length ∧ i = .int .i64 k ∧ Hid (∀ j, j < k → (l.map Kd.name).getD j eS ≠ x) ∧ Below w.heap.size w wr) (fun i _ => l.length - (intOf i).toNat)
  case atStart => exact ⟨0, Nat.zero_le _, rfl, fun j hj => absurd hj (Nat.not_lt_zero _), Below.refl _ _⟩
  case round =>
    obtain ⟨k, hk, rfl, hrel, hb⟩ := hrel
    by_cases hlt : k < l.length
    · obtain ⟨b, o, c', cs, he, _, ⟨sv, rfl, hsv⟩, _, hrg⟩ := HV.out.get hlt noKd
      injection he with e1 e2 e3
      subst e1; subst e3
      obtain ⟨A2, c2, rfl, hn2⟩ := hsv.form
      have hrg' := range_later hrg hb
      have hg : (l.map Kd.name).getD k eS = (l.getD k noKd).name := by
        rw [List.getD_eq_getElem?_getD, List.getElem?_map, List.getD_eq_getElem?_getD, List.getElem?_eq_getElem hlt]; rfl
      have hit := Lib.hid (fun he => ixL_hit (l := l.map Kd.name) (x := x) (by simpa using hlt) hrel.out he)
      have hno : Hid ((l.map Kd.name).getD k eS ≠ x → ∀ j, j < k + 1 → (l.map Kd.name).getD j eS ≠ x) := fun h j hj => by
        rcases Nat.lt_or_ge j k with h1 | h1
        · exact hrel.out j h1
        · obtain rfl : j = k := by omega
          exact h
      rw [hg] at hit hno
      have HB := Lib.hid hb
      have q1 := H1.out.below hb l1
      have q2 := H2.out.below hb l2
      clear hrg hb hsv hg
      generalize l.getD k noKd = q at *
      obtain ⟨s, vb, ss⟩ := q
      have hbe := bytes_beq s x
      cases hN : (s.toList == x.toList)
      · have HN := Lib.hid hN
        have HE := Lib.hid (show s ≠ x by rw [hN] at hbe; exact of_decide_eq_false hbe.symm)
        clear hbe
        go_wp2_with (first | ((with_reducible show wpList _ _ _ (Oper.mk (some 15) _ _ _ _ _ :: _) _ _); refine wpList_load_mid rfl 98 _ rfl b (o + k * 3) rfl _ _ hrg' Tryz.underlying98 rfl rfl ?_) | (go_at_call 129; refine (kindIs_any s x vb A2 _ c2 g1 g2 _ q1 q2).mono ?_; rintro e w1 ⟨rfl, hb1⟩; rw [HN.out]))
        go_roundw
        case rel => exact ⟨k + 1, by omega, by go_num, hno.out HE.out, HB.out.trans (hb1.mono HB.out.size)⟩
        case measure => simp [intOf]; omega
      · have HN := Lib.hid hN
        have HE := Lib.hid (show s = x by rw [hN] at hbe; exact of_decide_eq_true hbe.symm)
        clear hbe
        go_wp2_with (first | ((with_reducible show wpList _ _ _ (Oper.mk (some 15) _ _ _ _ _ :: _) _ _); refine wpList_load_mid rfl 98 _ rfl b (o + k * 3) rfl _ _ hrg' Tryz.underlying98 rfl rfl ?_) | (go_at_call 129; refine (kindIs_any s x vb A2 _ c2 g1 g2 _ q1 q2).mono ?_; rintro e w1 ⟨rfl, hb1⟩; rw [HN.out]))
        go_ret
        exact ⟨ret_int (hit.out HE.out).symm, HB.out.trans (hb1.mono HB.out.size)⟩
    · obtain rfl : k = l.length := by omega
      have hmiss := Lib.hid (ixL_miss (l := l.map Kd.name) (x := x) (fun j hj => hrel.out j (by simpa using hj)))
      go_wp2_with fail
      go_ret
      exact ⟨ret_int hmiss.out.symm, hb⟩

set_option maxRecDepth 100000 in
theorem kindIndex_any (v : Value) (l : List Kd) (x : ByteArray) (w : World) (hv : Cat w v l) (hl : l.length ≤ 100000) :
    Calls Tryz.prog 93 #[v, .func (.func 94) #[] #[], .string x] w fun e w' => e = .returned (.int .i64 (ixL (l.map Kd.name) x)) ∧ Below w.heap.size w w' := by
  have h1 : Has ((w.alloc (.cells #[.func (.func 94) #[] #[]] 150)).alloc (.cells #[.string x] 9)) w.heap.size 150 #[.func (.func 94) #[] #[]] := (Has.new w _ _).alloc _
  have h2 : Has ((w.alloc (.cells #[.func (.func 94) #[] #[]] 150)).alloc (.cells #[.string x] 9)) (w.heap.size + 1) 9 #[.string x] := by
    have := Has.new (w.alloc (.cells #[.func (.func 94) #[] #[]] 150)) 9 #[.string x]
    simpa using this
  have hb : Below w.heap.size w ((w.alloc (.cells #[.func (.func 94) #[] #[]] 150)).alloc (.cells #[.string x] 9)) := ((Below.refl _ _).alloc (Nat.le_refl _) _).alloc (by simp) _
  have HV := Lib.hid (hv.below hb)
  have H1 := Lib.hid h1
  have H2 := Lib.hid h2
  have HB := Lib.hid hb
  obtain ⟨A, c, rfl, hn⟩ := hv.form
  clear hv h1 h2 hb
  go_enter Tryz.func93, Tryz.ntmps93
  go_wp2_with (go_at_call 128; refine (kindIdx_any _ l x _ _ _ HV.out hl H1.out H2.out).mono ?_; rintro e w1 ⟨rfl, hb1⟩)
  go_ret
  exact ⟨rfl, HB.out.trans (hb1.mono (by simp; omega))⟩
end Go.Proofs.YtccnocgmikmonaaGreatDoor
