/- Events: their fields as a record; the words of operations; what slices.ContainsFunc says of a few strings. More small words on memory: a boxed argument behind a call. No condition. '==' and '!=' on two events, as one Bool. event.Valid at every operation but OpRun. event.Valid: what ends early. -/
import Derived.Laws.CopyOwn
import Derived.RegionTactic
import Derived.Test.YtjlpllnhefafkaaGreatDoorU01
namespace Go.Proofs.YtjlpllnhefafkaaGreatDoor
open Go Go.RowKit
/-- An event, field by field. -/
structure Ev where
  op : Int
  day : Int
  part : ByteArray
  kind : ByteArray
  into : ByteArray
  slot : ByteArray
  key : ByteArray
  value : ByteArray
  kl : Int
  kh : Int
  cl : Int
  ch : Int
  ll : Int
  lh : Int
  deriving DecidableEq
def Ev.cells (e : Ev) : Array Value := #[.int .i64 e.op, .int .i64 e.day, .string e.part, .string e.kind, .string e.into, .string e.slot, .string e.key, .string e.value, .int .i64 e.kl, .int .i64 e.kh, .int .i64 e.cl, .int .i64 e.ch, .int .i64 e.ll, .int .i64 e.lh]

def wordS (op : Int) : ByteArray :=
  if op = 1 then ⟨#[109, 97, 107, 101]⟩ else if op = 2 then ⟨#[102, 105, 116]⟩ else if op = 3 then ⟨#[114, 101, 109, 111, 118, 101]⟩ else if op = 4 then ⟨#[114, 117, 110]⟩
  else if op = 5 then ⟨#[111, 118, 101, 114, 104, 97, 117, 108]⟩ else if op = 6 then ⟨#[110, 111, 116, 101]⟩ else if op = 7 then ⟨#[115, 99, 114, 97, 112]⟩ else ⟨#[]⟩
theorem wordS_none {op : Int} (h : op < 1 ∨ 7 < op) : wordS op = ⟨#[]⟩ := by
  unfold wordS
  rw [if_neg (by omega), if_neg (by omega), if_neg (by omega), if_neg (by omega), if_neg (by omega), if_neg (by omega), if_neg (by omega)]

set_option maxHeartbeats 1000000 in
theorem word_any (op : Int) (w : World) :
    Calls Tryz.prog 43 #[.int .i64 op] w fun e w' => e = .returned (.string (wordS op)) ∧ Below w.heap.size w w' := by
  by_cases h0 : op < 0
  · have HW := Lib.hid (wordS_none (op := op) (by omega))
    go_enter Tryz.func43, Tryz.ntmps43
    go_wp2
    go_ret
    exact ⟨by rw [HW.out]; rfl, (Below.refl _ _).alloc (Nat.le_refl _) _⟩
  · by_cases h8 : 8 ≤ op
    · have HW := Lib.hid (wordS_none (op := op) (by omega))
      go_enter Tryz.func43, Tryz.ntmps43
      go_wp2
      go_ret
      exact ⟨by rw [HW.out]; rfl, (Below.refl _ _).alloc (Nat.le_refl _) _⟩
    · have hc : op = 0 ∨ op = 1 ∨ op = 2 ∨ op = 3 ∨ op = 4 ∨ op = 5 ∨ op = 6 ∨ op = 7 := by omega
      clear h0 h8
      rcases hc with rfl | rfl | rfl | rfl | rfl | rfl | rfl | rfl
      all_goals
        go_enter Tryz.func43, Tryz.ntmps43
        go_wp2
        go_ret
        exact ⟨rfl, (Below.refl _ _).alloc (Nat.le_refl _) _⟩

/-- The three intervals of a use that lies in a block. -/
theorem intervals_any (g o : Nat) (w : World) :
    Calls Tryz.prog 45 #[.pointer (some ⟨g, o, none⟩)] w fun e w' =>
      e = .returned (.agg #[.pointer (some ⟨g, o, none⟩), .pointer (some ⟨g, o + 2, none⟩), .pointer (some ⟨g, o + 4, none⟩)]) ∧ Below w.heap.size w w' := by
  go_enter Tryz.func45, Tryz.ntmps45
  go_wp2
  go_region
  all_goals
    go_wp2
    refine bodyPost_ret (v := .agg #[.pointer (some ⟨g, o, none⟩), .pointer (some ⟨g, o + 2, none⟩), .pointer (some ⟨g, o + 4, none⟩)]) (by simp [results, Tryz.results45, go_sem]) rfl ⟨rfl, ((Below.refl _ _).alloc (Nat.le_refl _) _).drew⟩

theorem notName_any (s : ByteArray) (w : World) (hs : s.size ≤ maxLen) :
    Calls Tryz.prog 55 #[.string s] w fun e w' => e = .returned (.bool (!nameB s)) ∧ Below w.heap.size w w' := by
  go_enter Tryz.func55, Tryz.ntmps55
  go_wp2_with (go_at_call 53; refine (name_any _ _ hs).mono ?_; rintro e w1 ⟨rfl, hb1⟩)
  go_ret
  exact ⟨rfl, hb1⟩

set_option maxHeartbeats 1000000 in
theorem indexBad_any (v : Value) (l : List ByteArray) (w : World) (hv : Sl w v l.length 1 (strF l)) (hl : l.length ≤ 60000) (hs : ∀ s ∈ l, s.size ≤ maxLen) :
    Calls Tryz.prog 75 #[v, .func (.func 55) #[] #[]] w fun e w' => ∃ r : Int, e = .returned (.int .i64 r) ∧ (r = -1 ∧ l.all nameB = true ∨ 0 ≤ r ∧ l.all nameB = false) ∧ Below w.heap.size w w' := by
  obtain ⟨A, c, rfl, hn, hc⟩ := hv
  go_enter Tryz.func75, Tryz.ntmps75
  go_wp2_with fail
  go_loopw [8] (fun i wr => ∃ k : Nat, k ≤ l.length ∧ i = .int .i64 k ∧ Hid (∀ s, s ∈ l.take k → nameB s = true) ∧ Below w.heap.size w wr) (fun i _ => l.length - (intOf i).toNat)
  case atStart => exact ⟨0, Nat.zero_le _, rfl, fun s hs => by simp at hs, Below.refl _ _⟩
  case round =>
    obtain ⟨k, hk, rfl, hrel, hb⟩ := hrel
    by_cases hlt : k < l.length
    · rcases hc with h0 | ⟨b, o, rfl, hc⟩
      · omega
      have hck : wr.cell? ⟨b, o + k, none⟩ = some (.string (l.getD k ByteArray.empty)) := cell_later hb (hc k (by omega))
      have hmem : l.getD k ByteArray.empty ∈ l := by
        rw [List.getD_eq_getElem?_getD, List.getElem?_eq_getElem hlt]; exact List.getElem_mem hlt
      have hsz := hs _ hmem
      have htake : l.take (k + 1) = l.take k ++ [l.getD k ByteArray.empty] := by
        rw [List.take_add_one, List.getElem?_eq_getElem hlt, List.getD_eq_getElem?_getD, List.getElem?_eq_getElem hlt]; rfl
      have yes : nameB (l.getD k ByteArray.empty) = true → Hid (∀ s, s ∈ l.take (k + 1) → nameB s = true) := fun h s hs => by
        rw [htake, List.mem_append, List.mem_singleton] at hs
        rcases hs with hs | rfl
        · exact hrel.out s hs
        · exact h
      have no : nameB (l.getD k ByteArray.empty) = false → l.all nameB = false := fun h => by
        rw [List.all_eq_false]; exact ⟨_, hmem, by rw [h]; decide⟩
      have YES := Lib.hid yes
      have NO := Lib.hid no
      clear yes no htake hmem hc hs
      generalize l.getD k ByteArray.empty = s at *
      cases hN : nameB s
      · have HN := Lib.hid hN
        go_wp2_with (go_at_call 55; refine (notName_any _ _ hsz).mono ?_; rintro e w1 ⟨rfl, hb1⟩)
        go_ret
        exact ⟨_, rfl, .inr ⟨by omega, NO.out HN.out⟩, hb.trans (hb1.mono hb.size)⟩
      · have HN := Lib.hid hN
        go_wp2_with (go_at_call 55; refine (notName_any _ _ hsz).mono ?_; rintro e w1 ⟨rfl, hb1⟩)
        go_roundw
        case rel => exact ⟨k + 1, by omega, by go_num, YES.out HN.out, hb.trans (hb1.mono hb.size)⟩
        case measure => simp [intOf]; omega
    · obtain rfl : k = l.length := by omega
      go_wp2_with fail
      go_ret
      exact ⟨_, rfl, .inl ⟨rfl, by rw [List.all_eq_true]; intro s hs; exact hrel.out s (by rw [List.take_length]; exact hs)⟩, hb⟩

theorem containsBad_any (v : Value) (l : List ByteArray) (w : World) (hv : Sl w v l.length 1 (strF l)) (hl : l.length ≤ 60000) (hs : ∀ s ∈ l, s.size ≤ maxLen) :
    Calls Tryz.prog 54 #[v, .func (.func 55) #[] #[]] w fun e w' => e = .returned (.bool (!l.all nameB)) ∧ Below w.heap.size w w' := by
  have HV := Lib.hid hv
  clear hv
  go_enter Tryz.func54, Tryz.ntmps54
  go_wp2_with (go_at_call 75; refine (indexBad_any _ l _ HV.out hl hs).mono ?_; rintro e w1 ⟨r, rfl, hr, hb1⟩; have HR := Lib.hid hr; clear hr)
  go_ret
  refine ⟨ret_bool ?_, hb1⟩
  rcases HR.out with ⟨rfl, h⟩ | ⟨h0, h⟩
  · rw [h]; rfl
  · rw [h]; simp [h0]
end Go.Proofs.YtjlpllnhefafkaaGreatDoor
namespace Go.Proofs.YtjlpllnhefafkaaGreatDoor
open Go Go.RowKit
theorem Has.facts {w : World} {g t : Nat} {cs : Array Value} (h : Has w g t cs) :
    (∀ o, w.cell? ⟨g, o, none⟩ = cs[o]?) ∧ (∀ o, w.frozen? ⟨g, o, none⟩ = false) := ⟨fun o => h.cell o, fun o => h.free o⟩
/-- A boxed argument behind the first call. -/
theorem boxed {w w1 : World} {t : Nat} {cs : Array Value} (hb : Below (w.alloc (.cells cs t)).heap.size (w.alloc (.cells cs t)) w1) :
    Has w1 w.heap.size t cs ∧ Below w.heap.size w w1 ∧ w.heap.size < w1.heap.size := by
  have hs := hb.size
  rw [World.size_alloc] at hs
  exact ⟨(Has.new w t cs).below hb (by simp), ((Below.refl _ _).alloc (Nat.le_refl _) _).trans (hb.mono (by simp)), by omega⟩
/-- The same behind a further call. -/
theorem Has.next {w w1 w2 : World} {t g B : Nat} {cs : Array Value} (h : Has w1 g t cs) (hB : Below B w w1) (hs : g < w1.heap.size) (hb : Below w1.heap.size w1 w2) (hBs : B ≤ w1.heap.size) :
    Has w2 g t cs ∧ Below B w w2 ∧ g < w2.heap.size :=
  ⟨h.below hb hs, hB.trans (hb.mono hBs), Nat.lt_of_lt_of_le hs hb.size⟩
end Go.Proofs.YtjlpllnhefafkaaGreatDoor
namespace Go.Proofs.YtjlpllnhefafkaaGreatDoor
open Go Go.RowKit
def evEq (e f : Ev) : Bool := decide (e = f)
theorem bytes_beq (a b : ByteArray) : (a.toList == b.toList) = decide (a = b) := by
  rw [Bool.eq_iff_iff, beq_iff_eq, decide_eq_true_iff, _root_.Go.ByteArray.toList_eq, _root_.Go.ByteArray.toList_eq]
  constructor
  · intro h
    cases a; cases b
    simpa using h
  · rintro rfl; rfl
theorem bytes_inj (a b : ByteArray) : (a.toList = b.toList) = (a = b) := by
  have h := bytes_beq a b
  rw [Bool.eq_iff_iff, beq_iff_eq, decide_eq_true_iff] at h
  exact propext h
theorem ite_dec (c : Prop) [Decidable c] (b : Bool) (w : World) :
    (if c then (Result.ok (Value.bool b) w : Result Value) else Result.ok (Value.bool false) w) = Result.ok (Value.bool (decide c && b)) w := by
  split <;> simp [*]
theorem ite_dec' (c : Prop) [Decidable c] (b : Bool) (w : World) :
    (if c then (Result.ok (Value.bool b) w : Result Value) else Result.ok (Value.bool true) w) = Result.ok (Value.bool (!decide c || b)) w := by
  split <;> simp [*]
set_option maxRecDepth 100000 in
set_option maxHeartbeats 2000000 in
theorem run_evEq (w : World) (a0 a1 : Int) (a2 a3 a4 a5 a6 a7 : ByteArray) (a8 a9 a10 a11 a12 a13 : Int) (b0 b1 : Int) (b2 b3 b4 b5 b6 b7 : ByteArray) (b8 b9 b10 b11 b12 b13 : Int) :
    (binOp .eql 49 (.agg #[.int .i64 a0, .int .i64 a1, .string a2, .string a3, .string a4, .string a5, .string a6, .string a7, .int .i64 a8, .int .i64 a9, .int .i64 a10, .int .i64 a11, .int .i64 a12, .int .i64 a13])
      (.agg #[.int .i64 b0, .int .i64 b1, .string b2, .string b3, .string b4, .string b5, .string b6, .string b7, .int .i64 b8, .int .i64 b9, .int .i64 b10, .int .i64 b11, .int .i64 b12, .int .i64 b13])).run Tryz.prog w
      = .ok (.bool (evEq ⟨a0, a1, a2, a3, a4, a5, a6, a7, a8, a9, a10, a11, a12, a13⟩ ⟨b0, b1, b2, b3, b4, b5, b6, b7, b8, b9, b10, b11, b12, b13⟩)) w := by
  go_simp
  simp only [ite_dec]
  refine congrArg (fun b => Result.ok (Value.bool b) w) ?_
  rw [Bool.eq_iff_iff]
  simp [evEq, bytes_inj]

set_option maxRecDepth 100000 in
set_option maxHeartbeats 2000000 in
theorem run_evNe (w : World) (a0 a1 : Int) (a2 a3 a4 a5 a6 a7 : ByteArray) (a8 a9 a10 a11 a12 a13 : Int) (b0 b1 : Int) (b2 b3 b4 b5 b6 b7 : ByteArray) (b8 b9 b10 b11 b12 b13 : Int) :
    (binOp .neq 49 (.agg #[.int .i64 a0, .int .i64 a1, .string a2, .string a3, .string a4, .string a5, .string a6, .string a7, .int .i64 a8, .int .i64 a9, .int .i64 a10, .int .i64 a11, .int .i64 a12, .int .i64 a13])
      (.agg #[.int .i64 b0, .int .i64 b1, .string b2, .string b3, .string b4, .string b5, .string b6, .string b7, .int .i64 b8, .int .i64 b9, .int .i64 b10, .int .i64 b11, .int .i64 b12, .int .i64 b13])).run Tryz.prog w
      = .ok (.bool (!evEq ⟨a0, a1, a2, a3, a4, a5, a6, a7, a8, a9, a10, a11, a12, a13⟩ ⟨b0, b1, b2, b3, b4, b5, b6, b7, b8, b9, b10, b11, b12, b13⟩)) w := by
  go_simp
  simp only [ite_dec']
  refine congrArg (fun b => Result.ok (Value.bool b) w) ?_
  rw [Bool.eq_iff_iff]
  simp [evEq, bytes_inj]
attribute [go_sem ↓] run_evEq run_evNe
end Go.Proofs.YtjlpllnhefafkaaGreatDoor
namespace Go.Proofs.YtjlpllnhefafkaaGreatDoor
open Go Go.RowKit
def noStr : ByteArray := ⟨#[]⟩
def zeroEv : Ev := ⟨0, 0, ⟨#[]⟩, ⟨#[]⟩, ⟨#[]⟩, ⟨#[]⟩, ⟨#[]⟩, ⟨#[]⟩, 0, 0, 0, 0, 0, 0⟩
def useOk (e : Ev) : Bool := decide (0 ≤ e.kl ∧ e.kl ≤ e.kh ∧ e.kh ≤ 1000000 ∧ 0 ≤ e.cl ∧ e.cl ≤ e.ch ∧ e.ch ≤ 1000000 ∧ 0 ≤ e.ll ∧ e.ll ≤ e.lh ∧ e.lh ≤ 1000000)
def rest1 (e : Ev) : Bool := evEq ⟨0, 0, ⟨#[]⟩, ⟨#[]⟩, e.into, e.slot, e.key, e.value, e.kl, e.kh, e.cl, e.ch, e.ll, e.lh⟩ ⟨0, 0, ⟨#[]⟩, ⟨#[]⟩, ⟨#[]⟩, ⟨#[]⟩, ⟨#[]⟩, ⟨#[]⟩, 0, 0, 0, 0, 0, 0⟩
def rest2 (e : Ev) : Bool := evEq ⟨0, 0, ⟨#[]⟩, e.kind, ⟨#[]⟩, ⟨#[]⟩, e.key, e.value, e.kl, e.kh, e.cl, e.ch, e.ll, e.lh⟩ ⟨0, 0, ⟨#[]⟩, ⟨#[]⟩, ⟨#[]⟩, ⟨#[]⟩, ⟨#[]⟩, ⟨#[]⟩, 0, 0, 0, 0, 0, 0⟩
def rest6 (e : Ev) : Bool := evEq ⟨0, 0, ⟨#[]⟩, e.kind, e.into, e.slot, ⟨#[]⟩, ⟨#[]⟩, e.kl, e.kh, e.cl, e.ch, e.ll, e.lh⟩ ⟨0, 0, ⟨#[]⟩, ⟨#[]⟩, ⟨#[]⟩, ⟨#[]⟩, ⟨#[]⟩, ⟨#[]⟩, 0, 0, 0, 0, 0, 0⟩
def rest4 (e : Ev) : Bool := evEq ⟨0, 0, ⟨#[]⟩, e.kind, e.into, e.slot, e.key, e.value, 0, 0, 0, 0, 0, 0⟩ ⟨0, 0, ⟨#[]⟩, ⟨#[]⟩, ⟨#[]⟩, ⟨#[]⟩, ⟨#[]⟩, ⟨#[]⟩, 0, 0, 0, 0, 0, 0⟩
def rest0 (e : Ev) : Bool := evEq ⟨0, 0, ⟨#[]⟩, e.kind, e.into, e.slot, e.key, e.value, e.kl, e.kh, e.cl, e.ch, e.ll, e.lh⟩ ⟨0, 0, ⟨#[]⟩, ⟨#[]⟩, ⟨#[]⟩, ⟨#[]⟩, ⟨#[]⟩, ⟨#[]⟩, 0, 0, 0, 0, 0, 0⟩
/-- What an event must be beside its day and its part. -/
def evRest (e : Ev) : Bool :=
  if e.op = 1 then rest1 e && [e.kind].all nameB
  else if e.op = 2 then !(e.into.toList == e.part.toList) && (rest2 e && [e.into, e.slot].all nameB)
  else if e.op = 6 then (!e.value.toList.isEmpty && decide ((e.value.size : Int) ≤ 200)) && (rest6 e && [e.key].all nameB)
  else if e.op = 4 then useOk e && rest4 e
  else rest0 e
/-- Is the event valid? -/
def evOk (e : Ev) : Bool := decide (1 ≤ e.op ∧ e.op ≤ 7) && (decide (0 ≤ e.day ∧ e.day ≤ 40000) && (nameB e.part && evRest e))
/-- All its strings are strings that lie in memory. -/
def Ev.short (e : Ev) : Prop := e.part.size ≤ maxLen ∧ e.kind.size ≤ maxLen ∧ e.into.size ≤ maxLen ∧ e.slot.size ≤ maxLen ∧ e.key.size ≤ maxLen ∧ e.value.size ≤ maxLen
theorem has_new2 (w : World) (A B : Obj) (t : Nat) (cs : Array Value) : Has (((w.alloc A).alloc B).alloc (.cells cs t)) (w.heap.size + 2) t cs := by
  have h := Has.new ((w.alloc A).alloc B) t cs
  have e : ((w.alloc A).alloc B).heap.size = w.heap.size + 2 := by simp
  rwa [e] at h
theorem wordS_some {op : Int} (h : 1 ≤ op ∧ op ≤ 7) : (wordS op).toList.isEmpty = false := by
  have hc : op = 1 ∨ op = 2 ∨ op = 3 ∨ op = 4 ∨ op = 5 ∨ op = 6 ∨ op = 7 := by omega
  rcases hc with rfl | rfl | rfl | rfl | rfl | rfl | rfl <;> (rw [isEmpty_size]; rfl)
theorem wordS_some' {op : Int} (h : 1 ≤ op ∧ op ≤ 7) : ¬ (wordS op).toList = [] := by
  have := wordS_some h
  intro e; rw [e] at this; cases this
end Go.Proofs.YtjlpllnhefafkaaGreatDoor
namespace Go.Proofs.YtjlpllnhefafkaaGreatDoor
open Go Go.RowKit
set_option maxHeartbeats 1000000 in
theorem valid_e1 (op : Int) (day : Int) (part kind into slot key value : ByteArray) (kl kh cl ch ll lh : Int) (w : World) (ho : op < 1 ∨ 7 < op) :
    Calls Tryz.prog 29 #[.agg #[.int .i64 op, .int .i64 day, .string part, .string kind, .string into, .string slot, .string key, .string value, .int .i64 kl, .int .i64 kh, .int .i64 cl, .int .i64 ch, .int .i64 ll, .int .i64 lh]] w fun e w' => e = .returned (.bool false) ∧ Below w.heap.size w w' := by
  have hW := wordS_none ho
  have HO := Lib.hid ho
  clear ho
  go_enter Tryz.func29, Tryz.ntmps29
  go_wp2_with (first | (go_at_call 43; refine (word_any _ _).mono ?_; rintro e w1 ⟨rfl, hb1⟩; obtain ⟨hE1, hB1, hz1⟩ := boxed hb1; obtain ⟨hc1, hf1⟩ := hE1.facts; have HE1 := Lib.hid hE1; have HB1 := Lib.hid hB1; clear hb1 hE1 hB1))
  go_ret
  exact ⟨rfl, HB1.out⟩
set_option maxHeartbeats 1000000 in
theorem valid_e2 (op : Int) (day : Int) (part kind into slot key value : ByteArray) (kl kh cl ch ll lh : Int) (w : World) (ho : 1 ≤ op ∧ op ≤ 7) (hd : day < 0) :
    Calls Tryz.prog 29 #[.agg #[.int .i64 op, .int .i64 day, .string part, .string kind, .string into, .string slot, .string key, .string value, .int .i64 kl, .int .i64 kh, .int .i64 cl, .int .i64 ch, .int .i64 ll, .int .i64 lh]] w fun e w' => e = .returned (.bool false) ∧ Below w.heap.size w w' := by
  have hW := wordS_some ho
  have hW' := wordS_some' ho
  have HO := Lib.hid ho
  clear ho
  go_enter Tryz.func29, Tryz.ntmps29
  go_wp2_with (first | (go_at_call 43; refine (word_any _ _).mono ?_; rintro e w1 ⟨rfl, hb1⟩; obtain ⟨hE1, hB1, hz1⟩ := boxed hb1; obtain ⟨hc1, hf1⟩ := hE1.facts; have HE1 := Lib.hid hE1; have HB1 := Lib.hid hB1; clear hb1 hE1 hB1))
  go_ret
  exact ⟨rfl, HB1.out⟩
set_option maxHeartbeats 1000000 in
theorem valid_e3 (op : Int) (day : Int) (part kind into slot key value : ByteArray) (kl kh cl ch ll lh : Int) (w : World) (ho : 1 ≤ op ∧ op ≤ 7) (hd0 : 0 ≤ day) (hd : 40000 < day) :
    Calls Tryz.prog 29 #[.agg #[.int .i64 op, .int .i64 day, .string part, .string kind, .string into, .string slot, .string key, .string value, .int .i64 kl, .int .i64 kh, .int .i64 cl, .int .i64 ch, .int .i64 ll, .int .i64 lh]] w fun e w' => e = .returned (.bool false) ∧ Below w.heap.size w w' := by
  have hW := wordS_some ho
  have hW' := wordS_some' ho
  have HO := Lib.hid ho
  clear ho
  go_enter Tryz.func29, Tryz.ntmps29
  go_wp2_with (first | (go_at_call 43; refine (word_any _ _).mono ?_; rintro e w1 ⟨rfl, hb1⟩; obtain ⟨hE1, hB1, hz1⟩ := boxed hb1; obtain ⟨hc1, hf1⟩ := hE1.facts; have HE1 := Lib.hid hE1; have HB1 := Lib.hid hB1; clear hb1 hE1 hB1))
  go_ret
  exact ⟨rfl, HB1.out⟩
set_option maxHeartbeats 1000000 in
theorem valid_e4 (op : Int) (day : Int) (part kind into slot key value : ByteArray) (kl kh cl ch ll lh : Int) (w : World) (ho : 1 ≤ op ∧ op ≤ 7) (hd0 : 0 ≤ day) (hd : day ≤ 40000) (hp : part.size ≤ maxLen) (hn : nameB part = false) :
    Calls Tryz.prog 29 #[.agg #[.int .i64 op, .int .i64 day, .string part, .string kind, .string into, .string slot, .string key, .string value, .int .i64 kl, .int .i64 kh, .int .i64 cl, .int .i64 ch, .int .i64 ll, .int .i64 lh]] w fun e w' => e = .returned (.bool false) ∧ Below w.heap.size w w' := by
  have hW := wordS_some ho
  have hW' := wordS_some' ho
  have HO := Lib.hid ho
  clear ho
  have HN := Lib.hid hn
  clear hn
  go_enter Tryz.func29, Tryz.ntmps29
  go_wp2_with (first | (go_at_call 43; refine (word_any _ _).mono ?_; rintro e w1 ⟨rfl, hb1⟩; obtain ⟨hE1, hB1, hz1⟩ := boxed hb1; obtain ⟨hc1, hf1⟩ := hE1.facts; have HE1 := Lib.hid hE1; have HB1 := Lib.hid hB1; clear hb1 hE1 hB1) | (go_at_call 53; refine (name_any _ _ hp).mono ?_; rintro e w2 ⟨rfl, hb2⟩; rw [HN.out]; obtain ⟨hE2, hB2, hz2⟩ := HE1.out.next HB1.out hz1 hb2 (by omega); obtain ⟨hc2, hf2⟩ := hE2.facts; have HE2 := Lib.hid hE2; have HB2 := Lib.hid hB2; clear hb2 hE2 hB2 hc1 hf1 hz1))
  go_ret
  exact ⟨rfl, HB2.out⟩
end Go.Proofs.YtjlpllnhefafkaaGreatDoor
