/- Arguments opened: rules, with conditions as trees. No condition. rule.walk with whatever visit. Condition: the visit keeps its contract; the condition lies in memory. bogieref20.Nodes: how many nodes a condition has, at most one more than allowed. Condition: the condition lies in memory. bogieref20.FewCond, Few, FewAll; bogielaw20.few. Condition: the rules lie in memory. rule.size: how many nodes a condition has, at most 61. Condition: the condition lies in memory. -/
import Derived.Carry
import Derived.Deep.Slices
import Derived.IntWalk
import Derived.ProofKit
import Derived.RangeFuncBox
import Derived.Test.YtppoeiofdmlpeaaGreatDoorU01
import Derived.Test.YtppoeiofdmlpeaaGreatDoorU02
namespace Go.Proofs.YtppoeiofdmlpeaaGreatDoor
open Go Go.RowKit Go.ChangeShapes Go.WideShapes Go.Deep
theorem addr_plainE {w : World} {a : Addr} {v : Value} (h : w.cell? a = some v) : a = ⟨a.block, a.off, none⟩ := by
  obtain ⟨b, o, sp⟩ := a
  cases sp with
  | none => rfl
  | some s => simp [World.cell?] at h; split at h <;> simp at h
section
variable {H : Type} {enc : TypeId × Value → H} {P : Program} {w : World} {base : Nat} {spare : Nat → Bool} {held : Bool}
/-- A slice whose elements are of C cells, each of which reads as something; the fuel of the elements is less. -/
theorem open_rowsE {α : Type} (d : α) {t e C fuel : Nat} {v : Value} {x : DataW H × List MemPlace} (R : List Value → α → Prop) (ht : P.underlying t = some (.slice e)) (hC : P.cellsOf e = C) (h0 : 0 < C)
    (hR : ∀ n cs y, n < fuel → DataW.trod enc P w base spare held n e cs = some y → cs.length = C → ∃ a, R cs a)
    (h : DataW.trod enc P w base spare held fuel t [v] = some x) :
    ∃ (A : Option Addr) (c : Nat) (l : List α), v = .slice A l.length c ∧ l.length ≤ c ∧ c ≤ maxLen ∧ (l.length = 0 ∨ ∃ b o, A = some ⟨b, o, none⟩ ∧
      ∀ i a, l[i]? = some a → ∃ cs, R cs a ∧ cs.length = C ∧ ∀ j u, cs[j]? = some u → w.cell? ⟨b, o + i * C + j, none⟩ = some u) := by
  subst hC
  rcases DataW.trod_slice ht h with ⟨h1, _⟩ | ⟨a, len, cap, elems, rest, n, hfu, hcs, _, _, hl, hm, hlen, hel, _, _⟩
  · have : v = .slice none 0 0 := by simpa using h1
    exact ⟨none, 0, [], this, Nat.le_refl _, by simp [maxLen], .inl rfl⟩
  · have hv : v = .slice (some a) len cap := by simpa using hcs
    have hex : ∀ i, i < len → ∃ q : List Value × α, R q.1 q.2 ∧ q.1.length = P.cellsOf e ∧ ∀ j u, q.1[j]? = some u → w.cell? ((a.add (i * P.cellsOf e)).add j) = some u := by
      intro i hi'
      have key := hel i hi'
      rw [List.getElem?_eq_getElem (by omega)] at key
      obtain ⟨cs', hc, ht'⟩ := Option.bind_eq_some_iff.1 key
      obtain ⟨_, hcl, hat⟩ := World.cells?_some hc
      obtain ⟨y, hy⟩ := hR _ _ _ (by omega) ht' hcl
      refine ⟨(cs', y), hy, hcl, fun j u hu => ?_⟩
      have hj : j < P.cellsOf e := by
        rcases Nat.lt_or_ge j (P.cellsOf e) with h1 | h1
        · exact h1
        · rw [List.getElem?_eq_none (by show cs'.length ≤ j; omega)] at hu; cases hu
      rw [hat j hj]; exact hu
    let f : Nat → List Value × α := fun i => if h : i < len then Classical.choose (hex i h) else ([], d)
    have hf : ∀ i, i < len → R (f i).1 (f i).2 ∧ (f i).1.length = P.cellsOf e ∧ ∀ j u, (f i).1[j]? = some u → w.cell? ((a.add (i * P.cellsOf e)).add j) = some u := by
      intro i hi'
      have : f i = Classical.choose (hex i hi') := dif_pos hi'
      rw [this]; exact Classical.choose_spec (hex i hi')
    have hll : ((List.range len).map fun i => (f i).2).length = len := by simp
    refine ⟨some a, cap, (List.range len).map fun i => (f i).2, by rw [hll]; exact hv, by omega, hm, ?_⟩
    by_cases hz : len = 0
    · exact .inl (by omega)
    · right
      obtain ⟨_, hl0, hc0⟩ := hf 0 (by omega)
      have hp : a = ⟨a.block, a.off, none⟩ := by
        have h1 := hc0 0 ((f 0).1[0]'(by omega)) (List.getElem?_eq_getElem (by omega))
        have e1 : (a.add (0 * P.cellsOf e)).add 0 = a := by simp [Addr.add]
        rw [e1] at h1
        exact addr_plainE h1
      refine ⟨a.block, a.off, congrArg some hp, fun i y hy => ?_⟩
      have hi' : i < len := by
        rcases Nat.lt_or_ge i len with h1 | h1
        · exact h1
        · rw [List.getElem?_eq_none (by omega)] at hy; cases hy
      have hyi : (f i).2 = y := by simpa [hi'] using hy
      obtain ⟨h1, h2, h3⟩ := hf i hi'
      refine ⟨(f i).1, hyi ▸ h1, h2, fun j u hu => ?_⟩
      have := h3 j u hu
      rw [hp] at this
      rwa [Addr.add_mid, Addr.add_mid] at this
/-- Numbers of a machine word. -/
def In64E (n : Int) : Prop := -9223372036854775808 ≤ n ∧ n ≤ 9223372036854775807
/-- What an argument's tree says of its leaves: strings that fit, numbers of a machine word. -/
inductive FitE : Ex → Prop
  | mk (e : Ex) (h1 : e.name.size ≤ maxLen) (h2 : e.value.size ≤ maxLen) (h3 : In64E e.op) (h4 : In64E e.n) (h5 : In64E e.extra) (h6 : e.kids.length ≤ maxLen) (hk : ∀ k ∈ e.kids, FitE k) : FitE e
theorem open_int64 {t : TypeId} {n : Nat} {c : Value} {z : DataW H × List MemPlace} (ht : P.underlying t = some (.int .i64)) (h : DataW.trod enc P w base spare held n t [c] = some z) : ∃ a : Int, c = .int .i64 a ∧ In64E a := by
  obtain ⟨a, ha, _, hw⟩ := DataW.trod_int ht h
  refine ⟨a, by simpa using ha, ?_⟩
  have e1 : IntKind.i64.min = -9223372036854775808 := (by decide)
  have e2 : IntKind.i64.max = 9223372036854775807 := (by decide)
  simpa [Lit.wf, e1, e2, In64E] using hw
theorem open_strE {t : TypeId} {n : Nat} {c : Value} {z : DataW H × List MemPlace} (ht : P.underlying t = some .string) (h : DataW.trod enc P w base spare held n t [c] = some z) : ∃ a : ByteArray, c = .string a ∧ a.size ≤ maxLen := by
  obtain ⟨a, ha, _, hs⟩ := DataW.trod_string ht h
  exact ⟨a, by simpa using ha, hs⟩
theorem cEx : Tryz.prog.cellsOf 24 = 6 := by kernel_rfl
theorem cSE : Tryz.prog.cellsOf 9 = 1 := by kernel_rfl
theorem cIE : Tryz.prog.cellsOf 3 = 1 := by kernel_rfl
theorem cKE : Tryz.prog.cellsOf 22 = 1 := by kernel_rfl
def exL (e : Ex) (kv : Value) : List Value := [.int .i64 e.op, .string e.name, .string e.value, .int .i64 e.n, .int .i64 e.extra, kv]
theorem exL_get (e : Ex) (kv : Value) (j : Nat) (h : j < 6) : (exL e kv)[j]? = some (exF e kv j) := by
  rcases j with _ | _ | _ | _ | _ | _ | j
  · rfl
  · rfl
  · rfl
  · rfl
  · rfl
  · rfl
  · omega
def exN : Ex := .mk 0 ⟨#[]⟩ ⟨#[]⟩ 0 0 []
set_option maxRecDepth 100000 in
set_option maxHeartbeats 1000000 in
/-- The kids of a condition, of whatever depth. -/
theorem open_ex : ∀ (fuel n : Nat), n < fuel → ∀ (cs : List Value) (y : DataW H × List MemPlace), DataW.trod enc Tryz.prog w base spare held n 24 cs = some y → cs.length = 6 → ∃ e kv, cs = exL e kv ∧ Lay w kv e.kids ∧ FitE e := by
  intro fuel
  induction fuel with
  | zero => intro n hn; omega
  | succ fuel ih =>
    intro n hn cs y h hl
    obtain ⟨xs, m, rfl, _, _, hxl, hf⟩ := DataW.trod_struct Tryz.underlying24 h
    match cs, hl with
    | [c0, c1, c2, c3, c4, c5], _ =>
      have ok : ∀ i, i < 6 → ∃ z, xs[i]? = some z := fun i hi => ⟨_, List.getElem?_eq_getElem (by rw [hxl]; exact hi)⟩
      obtain ⟨z0, e0'⟩ := ok 0 (by omega)
      obtain ⟨z1, e1⟩ := ok 1 (by omega)
      obtain ⟨z2, e2⟩ := ok 2 (by omega)
      obtain ⟨z3, e3⟩ := ok 3 (by omega)
      obtain ⟨z4, e4⟩ := ok 4 (by omega)
      obtain ⟨z5, e5⟩ := ok 5 (by omega)
      have f0 : DataW.trod enc Tryz.prog w base spare held m 3 (([c0, c1, c2, c3, c4, c5].drop 0).take (Tryz.prog.cellsOf 3)) = xs[0]? := hf 0 _ rfl
      have f1 : DataW.trod enc Tryz.prog w base spare held m 9 (([c0, c1, c2, c3, c4, c5].drop 1).take (Tryz.prog.cellsOf 9)) = xs[1]? := hf 1 _ rfl
      have f2 : DataW.trod enc Tryz.prog w base spare held m 9 (([c0, c1, c2, c3, c4, c5].drop 2).take (Tryz.prog.cellsOf 9)) = xs[2]? := hf 2 _ rfl
      have f3 : DataW.trod enc Tryz.prog w base spare held m 3 (([c0, c1, c2, c3, c4, c5].drop 3).take (Tryz.prog.cellsOf 3)) = xs[3]? := hf 3 _ rfl
      have f4 : DataW.trod enc Tryz.prog w base spare held m 3 (([c0, c1, c2, c3, c4, c5].drop 4).take (Tryz.prog.cellsOf 3)) = xs[4]? := hf 4 _ rfl
      have f5 : DataW.trod enc Tryz.prog w base spare held m 22 (([c0, c1, c2, c3, c4, c5].drop 5).take (Tryz.prog.cellsOf 22)) = xs[5]? := hf 5 _ rfl
      rw [cIE, e0'] at f0
      rw [cSE, e1] at f1
      rw [cSE, e2] at f2
      rw [cIE, e3] at f3
      rw [cIE, e4] at f4
      rw [cKE, e5] at f5
      obtain ⟨op, rfl, s0⟩ := open_int64 Tryz.underlying3 f0
      obtain ⟨nm, rfl, s1⟩ := open_strE Tryz.underlying9 f1
      obtain ⟨vl, rfl, s2⟩ := open_strE Tryz.underlying9 f2
      obtain ⟨nn, rfl, s3⟩ := open_int64 Tryz.underlying3 f3
      obtain ⟨xx, rfl, s4⟩ := open_int64 Tryz.underlying3 f4
      have f5' : DataW.trod enc Tryz.prog w base spare held m 22 [c5] = some z5 := f5
      obtain ⟨A, c, l, rfl, hlc, hcm, hl⟩ := open_rowsE (exN, undef) (fun cs (q : Ex × Value) => cs = exL q.1 q.2 ∧ Lay w q.2 q.1.kids ∧ FitE q.1) Tryz.underlying22 cEx (by omega)
        (fun n' cs' y' hn' h' hl' => by
          obtain ⟨e, kv, h1, h2, h3⟩ := ih n' (by omega) cs' y' h' hl'
          exact ⟨(e, kv), h1, h2, h3⟩) f5'
      have hlen : (l.map (·.1)).length = l.length := List.length_map _
      refine ⟨.mk op nm vl nn xx (l.map (·.1)), .slice A l.length c, rfl, ?_, ?_⟩
      · show Lay w (.slice A l.length c) (l.map (·.1))
        rw [← hlen]
        have hel : ∀ i (hi : i < (l.map (·.1)).length), ∃ q, l[i]? = some q ∧ (l.map (·.1))[i] = q.1 := fun i hi => ⟨l[i]'(by rwa [hlen] at hi), List.getElem?_eq_getElem _, by rw [List.getElem_map]⟩
        refine .mk A c _ (fun i => (l.getD i (exN, undef)).2) (by rw [hlen]; exact hlc) ?_ fun i hi => ?_
        · rcases hl with h0 | ⟨b, o, hA, hi⟩
          · exact .inl (by rw [hlen]; exact h0)
          · refine .inr ⟨b, o, hA, trivial, fun i hi' j hj => ?_⟩
            obtain ⟨q, hq, hq1⟩ := hel i hi'
            obtain ⟨cs, ⟨rfl, _, _⟩, _, hc⟩ := hi i q hq
            have := hc j _ (exL_get q.1 q.2 j hj)
            rw [hq1, List.getD_eq_getElem?_getD, hq, ← Nat.add_assoc]
            exact this
        · obtain ⟨q, hq, hq1⟩ := hel i hi
          rcases hl with h0 | ⟨b, o, hA, hi'⟩
          · omega
          · obtain ⟨cs, ⟨_, h2, _⟩, _, _⟩ := hi' i q hq
            rw [hq1, List.getD_eq_getElem?_getD, hq]
            exact h2
      · refine .mk _ s1 s2 s0 s3 s4 (by show (l.map (·.1)).length ≤ _; rw [hlen]; omega) fun k hk => ?_
        obtain ⟨q, hq, rfl⟩ := List.mem_map.1 hk
        obtain ⟨i, hi, rfl⟩ := List.getElem_of_mem hq
        rcases hl with h0 | ⟨b, o, hA, hi'⟩
        · omega
        · obtain ⟨cs, ⟨_, _, h3⟩, _, _⟩ := hi' i l[i] (List.getElem?_eq_getElem hi)
          exact h3
theorem cRu : Tryz.prog.cellsOf 26 = 8 := by kernel_rfl
set_option maxRecDepth 100000 in
set_option maxHeartbeats 1000000 in
/-- A rule. -/
theorem open_ru {n : Nat} {cs : List Value} {y : DataW H × List MemPlace} (h : DataW.trod enc Tryz.prog w base spare held n 26 cs = some y) (hl : cs.length = 8) :
    ∃ (r : Ru) (kv : Value), cs = (ruA r kv).toList ∧ Lay w kv r.cond.kids ∧ FitE r.cond ∧ r.name.size ≤ maxLen ∧ r.kind.size ≤ maxLen := by
  obtain ⟨xs, m, rfl, _, _, hxl, hf⟩ := DataW.trod_struct Tryz.underlying26 h
  match cs, hl with
  | [c0, c1, d0, d1, d2, d3, d4, d5], _ =>
    have ok : ∀ i, i < 3 → ∃ z, xs[i]? = some z := fun i hi => ⟨_, List.getElem?_eq_getElem (by rw [hxl]; exact hi)⟩
    obtain ⟨z0, e0'⟩ := ok 0 (by omega)
    obtain ⟨z1, e1⟩ := ok 1 (by omega)
    obtain ⟨z2, e2⟩ := ok 2 (by omega)
    have f0 : DataW.trod enc Tryz.prog w base spare held m 9 (([c0, c1, d0, d1, d2, d3, d4, d5].drop 0).take (Tryz.prog.cellsOf 9)) = xs[0]? := hf 0 _ rfl
    have f1 : DataW.trod enc Tryz.prog w base spare held m 9 (([c0, c1, d0, d1, d2, d3, d4, d5].drop 1).take (Tryz.prog.cellsOf 9)) = xs[1]? := hf 1 _ rfl
    have f2 : DataW.trod enc Tryz.prog w base spare held m 24 (([c0, c1, d0, d1, d2, d3, d4, d5].drop 2).take (Tryz.prog.cellsOf 24)) = xs[2]? := hf 2 _ rfl
    rw [cSE, e0'] at f0
    rw [cSE, e1] at f1
    rw [cEx, e2] at f2
    obtain ⟨nm, rfl, s0⟩ := open_strE Tryz.underlying9 f0
    obtain ⟨kd, rfl, s1⟩ := open_strE Tryz.underlying9 f1
    obtain ⟨e, kv, h1, h2, h3⟩ := open_ex (m + 1) m (by omega) _ _ f2 rfl
    have h1' : [d0, d1, d2, d3, d4, d5] = exL e kv := h1
    simp only [exL, List.cons.injEq, and_true] at h1'
    obtain ⟨rfl, rfl, rfl, rfl, rfl, rfl⟩ := h1'
    exact ⟨⟨nm, kd, e⟩, _, rfl, h2, h3, s0, s1⟩
end
end Go.Proofs.YtppoeiofdmlpeaaGreatDoor
namespace Go.Proofs.YtppoeiofdmlpeaaGreatDoor
open Go Go.RowKit
section
variable (f : Nat → Ex → Bool) (s : Nat → Ex → Nat)
mutual
/-- A walk with a state: whether no visit was false, and the state behind it. -/
def wkE (n : Nat) : Ex → Bool × Nat
  | .mk o a v m x ks => if f n (.mk o a v m x ks) then wkL (s n (.mk o a v m x ks)) ks else (false, s n (.mk o a v m x ks))
def wkL (n : Nat) : List Ex → Bool × Nat
  | [] => (true, n)
  | k :: ks => if (wkE n k).1 then wkL (wkE n k).2 ks else (false, (wkE n k).2)
end
theorem wkE_eq (n : Nat) (e : Ex) : wkE f s n e = if f n e then wkL f s (s n e) e.kids else (false, s n e) := by cases e; rw [wkE]; rfl
theorem wkL_nil (n : Nat) : wkL f s n [] = (true, n) := by rw [wkL]
theorem wkL_cons (n : Nat) (k : Ex) (ks : List Ex) : wkL f s n (k :: ks) = if (wkE f s n k).1 then wkL f s (wkE f s n k).2 ks else (false, (wkE f s n k).2) := by rw [wkL]
end
theorem LayS.grown {S : Nat → Prop} {w w' : World} {row : Option Nat} {v : Value} {ks : List Ex} (h : LayS S w v ks) (hg : w.grownBy w' row) (hr : ∀ b, row = some b → ∀ o v, 2 ≤ o → w.cell? ⟨b, o, none⟩ = some v → False) : LayS S w' v ks :=
  h.keeps fun b ⟨o, x, ho, hx⟩ j => by
    have hk := cell_size hx
    have h1 : some b ≠ row := fun e => hr b e.symm o x ho hx
    unfold World.cell?
    show (match w'.heap[b]? with | _ => _) = (match w.heap[b]? with | _ => _)
    rw [hg.block b hk h1]
theorem grown_trans {u v w : World} {row : Option Nat} (h : u.grownBy v row) (h' : v.grownBy w row) : u.grownBy w row :=
  ⟨h'.os.trans h.os, h'.tape.trans h.tape, h'.output.trans h.output, Nat.le_trans h.size h'.size, fun k hk hr => (h'.block k (Nat.lt_of_lt_of_le hk h.size) hr).trans (h.block k hk hr)⟩
theorem grown_of_below {u v : World} {row : Option Nat} (h : Below u.heap.size u v) : u.grownBy v row := ⟨h.os, h.tape, h.output, h.size, fun k hk _ => h.block k hk⟩
/-- What a visit must keep. -/
structure Vis (Q : Ex → Prop) (F : Nat) (cap : Array Value) (row : Option Nat) (R : Nat → World → Prop) (good : Nat → Prop) (f : Nat → Ex → Bool) (s : Nat → Ex → Nat) : Prop where
  kids : ∀ e, Q e → ∀ k ∈ e.kids, Q k
  enters : ∀ (args : Array Value) (w : World), (callFunc F args).run Tryz.prog w = .ok (.enter F args) w
  small : ∀ n W, R n W → ∀ b, row = some b → b < W.heap.size ∧ ∀ o v, 2 ≤ o → W.cell? ⟨b, o, none⟩ = some v → False
  later : ∀ n W W', R n W → Below W.heap.size W W' → R n W'
  keep : ∀ n e, good n → f n e = true → good (s n e)
  call : ∀ n e kv W, Q e → good n → R n W → Lay W kv e.kids → Calls Tryz.prog F (#[.agg #[.int .i64 e.op, .string e.name, .string e.value, .int .i64 e.n, .int .i64 e.extra, kv]] ++ cap) W fun r W' => r = .returned (.bool (f n e)) ∧ R (s n e) W' ∧ W.grownBy W' row
section
variable {Q : Ex → Prop} {F : Nat} {cap : Array Value} {row : Option Nat} {R : Nat → World → Prop} {good : Nat → Prop} {f : Nat → Ex → Bool} {s : Nat → Ex → Nat}
mutual
theorem good_E (hg : ∀ n e, good n → f n e = true → good (s n e)) (n : Nat) : ∀ e : Ex, good n → (wkE f s n e).1 = true → good (wkE f s n e).2
  | .mk o a v m x ks => fun h0 h1 => by
    rw [wkE_eq] at h1 ⊢
    split at h1
    · rename_i hf
      rw [if_pos hf]
      exact good_L hg _ ks (hg _ _ h0 hf) h1
    · cases h1
theorem good_L (hg : ∀ n e, good n → f n e = true → good (s n e)) (n : Nat) : ∀ ks : List Ex, good n → (wkL f s n ks).1 = true → good (wkL f s n ks).2
  | [] => fun h0 _ => by rw [wkL_nil]; exact h0
  | k :: ks => fun h0 h1 => by
    rw [wkL_cons] at h1 ⊢
    split at h1
    · rename_i hf
      rw [if_pos hf]
      exact good_L hg _ ks (good_E hg n k h0 hf) h1
    · cases h1
end
set_option maxRecDepth 100000 in
set_option maxHeartbeats 8000000 in
theorem idx_any (hV : Vis Q F cap row R good f s) (vb : Nat) (ks : List Ex) (sv : Value) (n : Nat) (w : World) (hl : Lay w sv ks) (hR : R n w) (hg : good n) (hlen : ks.length ≤ 1000000)
    (hk : ∀ (k : Ex), k ∈ ks → ∀ (n' : Nat) (kv : Value) (W : World), good n' → R n' W → w.grownBy W row → Lay W kv k.kids → Calls Tryz.prog 54 #[.agg #[.int .i64 k.op, .string k.name, .string k.value, .int .i64 k.n, .int .i64 k.extra, kv], .pointer (some ⟨vb, 0, none⟩)] W fun r W' => r = .returned (.bool (!(wkE f s n' k).1)) ∧ R (wkE f s n' k).2 W' ∧ W.grownBy W' row) :
    Calls Tryz.prog 81 #[sv, .func (.func 54) #[] #[.pointer (some ⟨vb, 0, none⟩)]] w fun r W' => ∃ j : Int, r = .returned (.int .i64 j) ∧ decide (0 ≤ j) = !(wkL f s n ks).1 ∧ R (wkL f s n ks).2 W' ∧ w.grownBy W' row := by
  have hsl := hl
  obtain ⟨A, c, rfl, hc⟩ := hl.slice
  have HL := Lib.hid hsl
  have HR := Lib.hid hR
  clear hl hsl hR
  go_enter Tryz.func81, Tryz.ntmps81
  go_wp2_with fail
  go_loopw [8] (fun v wr => ∃ k n' : Nat, k ≤ ks.length ∧ v = .int .i64 k ∧ Hid (wkL f s n ks = wkL f s n' (ks.drop k)) ∧ Hid (good n') ∧ Hid (R n' wr) ∧ Hid (w.grownBy wr row)) (fun v _ => ks.length - (intOf v).toNat)
  case atStart => exact ⟨0, n, Nat.zero_le _, rfl, rfl, hg, HR.out, World.grownBy.refl _ _⟩
  case round =>
    obtain ⟨k, n', hkl, rfl, HE, HG, HRn, HW⟩ := hrel
    have hLr := HL.out.grown HW.out (fun b e => (hV.small _ _ HR.out b e).2)
    by_cases hlt : k < ks.length
    · obtain ⟨_, _, hkid⟩ := hLr.kid
      obtain ⟨b, o, kv, rfl, hcell, hkk⟩ := hkid k hlt
      have hc0 := hcell 0 (by decide)
      have hc1 := hcell 1 (by decide)
      have hc2 := hcell 2 (by decide)
      have hc3 := hcell 3 (by decide)
      have hc4 := hcell 4 (by decide)
      have hc5 := hcell 5 (by decide)
      simp only [exF, if_true, if_false, Nat.reduceEqDiff, Nat.add_one_ne_zero, ← Nat.add_assoc, Nat.add_zero] at hc0 hc1 hc2 hc3 hc4 hc5
      have HC := Lib.hid (hk ks[k] (List.getElem_mem hlt) n' kv _ HG.out HRn.out HW.out hkk)
      have hdrop : ks.drop k = ks[k] :: ks.drop (k + 1) := List.drop_eq_getElem_cons hlt
      have HE2 := Lib.hid (show wkL f s n ks = if (wkE f s n' ks[k]).1 then wkL f s (wkE f s n' ks[k]).2 (ks.drop (k + 1)) else (false, (wkE f s n' ks[k]).2) by rw [HE.out, hdrop, wkL_cons])
      have HGE := Lib.hid (good_E hV.keep n' ks[k] HG.out)
      obtain ⟨Ak, ck, rfl, _⟩ := hkk.slice
      clear hkid hcell hkk hdrop hLr
      generalize ks[k] = e at *
      cases hb : (wkE f s n' e).1 with
      | true =>
        rw [hb] at HC HE2 HGE
        have HE3 := Lib.hid (HE2.out.trans (if_pos rfl))
        have HG3 := Lib.hid (HGE.out rfl)
        clear HE2 HGE
        go_wp2_with (go_at_call 54; refine HC.out.mono ?_; rintro r w2 ⟨rfl, hr2, hg2⟩; have HR2 := Lib.hid hr2; have HW2 := Lib.hid (grown_trans HW.out hg2); clear hr2 hg2)
        go_roundw
        case rel => exact ⟨k + 1, _, hlt, by go_num, HE3, HG3, HR2, HW2⟩
        case measure => simp [intOf]; omega
      | false =>
        rw [hb] at HC HE2
        have HE3 := Lib.hid (HE2.out.trans (if_neg Bool.false_ne_true))
        clear HE2 HGE
        go_wp2_with (go_at_call 54; refine HC.out.mono ?_; rintro r w2 ⟨rfl, hr2, hg2⟩; have HR2 := Lib.hid hr2; have HW2 := Lib.hid (grown_trans HW.out hg2); clear hr2 hg2)
        go_ret
        refine ⟨k, rfl, ?_, ?_, HW2.out⟩
        · rw [HE3.out]; simp
        · rw [HE3.out]; exact HR2.out
    · obtain rfl : k = ks.length := by omega
      have HE2 := Lib.hid (show wkL f s n ks = (true, n') by rw [HE.out, List.drop_length, wkL_nil])
      go_wp2_with fail
      go_ret
      exact ⟨-1, rfl, by rw [HE2.out]; rfl, by rw [HE2.out]; exact HRn.out, HW.out⟩
set_option maxRecDepth 100000 in
set_option maxHeartbeats 8000000 in
theorem contains_any (hV : Vis Q F cap row R good f s) (vb : Nat) (ks : List Ex) (sv : Value) (n : Nat) (w : World) (hl : Lay w sv ks) (hR : R n w) (hg : good n) (hlen : ks.length ≤ 1000000)
    (hk : ∀ (k : Ex), k ∈ ks → ∀ (n' : Nat) (kv : Value) (W : World), good n' → R n' W → w.grownBy W row → Lay W kv k.kids → Calls Tryz.prog 54 #[.agg #[.int .i64 k.op, .string k.name, .string k.value, .int .i64 k.n, .int .i64 k.extra, kv], .pointer (some ⟨vb, 0, none⟩)] W fun r W' => r = .returned (.bool (!(wkE f s n' k).1)) ∧ R (wkE f s n' k).2 W' ∧ W.grownBy W' row) :
    Calls Tryz.prog 53 #[sv, .func (.func 54) #[] #[.pointer (some ⟨vb, 0, none⟩)]] w fun r W' => r = .returned (.bool (!(wkL f s n ks).1)) ∧ R (wkL f s n ks).2 W' ∧ w.grownBy W' row := by
  have HI := Lib.hid (idx_any hV vb ks sv n w hl hR hg hlen hk)
  obtain ⟨A, c, rfl, hc⟩ := hl.slice
  clear hl hR hg hk
  go_enter Tryz.func53, Tryz.ntmps53
  go_wp2_with (go_at_call 81; refine HI.out.mono ?_; rintro r w1 ⟨j, rfl, hj, hr, hg⟩; have HJ := Lib.hid hj; have HF := Lib.hid (⟨hr, hg⟩ : _ ∧ _); clear hj hr hg)
  go_ret
  exact ⟨ret_bool HJ.out, HF.out.1, HF.out.2⟩
set_option maxRecDepth 100000 in
set_option maxHeartbeats 8000000 in
theorem wk1_any (hV : Vis Q F cap row R good f s) (vb : Nat) (k : Ex) (n : Nat) (kv : Value) (W : World) (hvb : Has W vb 63 #[.func (.func F) #[] cap]) (hR : R n W) (hl : Lay W kv k.kids)
    (hc : ∀ W, R n W → Lay W kv k.kids → Calls Tryz.prog 31 #[.agg #[.int .i64 k.op, .string k.name, .string k.value, .int .i64 k.n, .int .i64 k.extra, kv], .func (.func F) #[] cap] W fun r W' => r = .returned (.bool (wkE f s n k).1) ∧ R (wkE f s n k).2 W' ∧ W.grownBy W' row) :
    Calls Tryz.prog 54 #[.agg #[.int .i64 k.op, .string k.name, .string k.value, .int .i64 k.n, .int .i64 k.extra, kv], .pointer (some ⟨vb, 0, none⟩)] W fun r W' => r = .returned (.bool (!(wkE f s n k).1)) ∧ R (wkE f s n k).2 W' ∧ W.grownBy W' row := by
  have hb : Below W.heap.size W (W.alloc (.cells #[.int .i64 k.op, .string k.name, .string k.value, .int .i64 k.n, .int .i64 k.extra, kv] 24)) := (Below.refl _ _).alloc (Nat.le_refl _) _
  have HC := Lib.hid (hc _ (hV.later _ _ _ hR hb) (hl.later hb))
  have HB := Lib.hid (grown_of_below (row := row) hb)
  have hx := Has.new W 24 #[.int .i64 k.op, .string k.name, .string k.value, .int .i64 k.n, .int .i64 k.extra, kv]
  obtain ⟨d, g⟩ := (hvb.alloc (.cells #[.int .i64 k.op, .string k.name, .string k.value, .int .i64 k.n, .int .i64 k.extra, kv] 24)).facts
  obtain ⟨A, c, rfl, _⟩ := hl.slice
  obtain ⟨d2, g2⟩ := hvb.facts
  have hlt := hvb.lt
  clear hc hV hR hl hb hx
  go_enter Tryz.func54, Tryz.ntmps54
  go_wp2_with (go_at_call 31; refine HC.out.mono ?_; rintro r w2 ⟨rfl, hr2, hg2⟩; have HR2 := Lib.hid hr2; have HW2 := Lib.hid (grown_trans HB.out hg2); clear hr2 hg2)
  go_ret
  exact ⟨rfl, HR2.out, HW2.out⟩
set_option maxRecDepth 100000 in
set_option maxHeartbeats 8000000 in
/-- walk of a condition of at most m nodes. -/
theorem walk_rec (hV : Vis Q F cap row R good f s) : ∀ (m : Nat) (e : Ex) (n : Nat) (kv : Value) (w : World), cnt e ≤ m → m ≤ 1000000 → Q e → good n → R n w → Lay w kv e.kids →
    Calls Tryz.prog 31 #[.agg #[.int .i64 e.op, .string e.name, .string e.value, .int .i64 e.n, .int .i64 e.extra, kv], .func (.func F) #[] cap] w fun r W' => r = .returned (.bool (wkE f s n e).1) ∧ R (wkE f s n e).2 W' ∧ w.grownBy W' row := by
  intro m
  induction m with
  | zero => intro e n kv w hc; have := cnt_pos e; omega
  | succ m ih =>
    intro e n kv w hc hm hq hg hR hl
    have hF := hV.enters
    have hb1 : Below w.heap.size w ((w.alloc (.cells #[.int .i64 e.op, .string e.name, .string e.value, .int .i64 e.n, .int .i64 e.extra, kv] 24)).alloc (.cells #[.func (.func F) #[] cap] 63)) := ((Below.refl _ _).alloc (Nat.le_refl _) _).alloc (by simp) _
    have HC := Lib.hid (hV.call n e kv _ hq hg (hV.later _ _ _ hR hb1) (hl.later hb1))
    have hE := wkE_eq f s n e
    obtain ⟨A, c, rfl, _⟩ := hl.slice
    have hx1 := (Has.new w 24 #[.int .i64 e.op, .string e.name, .string e.value, .int .i64 e.n, .int .i64 e.extra, .slice A e.kids.length c]).alloc (.cells #[.func (.func F) #[] cap] 63)
    have hv1 : Has ((w.alloc (.cells #[.int .i64 e.op, .string e.name, .string e.value, .int .i64 e.n, .int .i64 e.extra, .slice A e.kids.length c] 24)).alloc (.cells #[.func (.func F) #[] cap] 63)) (w.heap.size + 1) 63 #[.func (.func F) #[] cap] := by
      rw [show w.heap.size + 1 = (w.alloc (.cells #[.int .i64 e.op, .string e.name, .string e.value, .int .i64 e.n, .int .i64 e.extra, .slice A e.kids.length c] 24)).heap.size from (World.size_alloc _ _).symm]
      exact Has.new _ _ _
    have hne : ∀ b, row = some b → b < w.heap.size := fun b hb => (hV.small n w hR b hb).1
    have HB1 := Lib.hid (grown_of_below (row := row) hb1)
    have HRb := Lib.hid hR
    have HBb := Lib.hid hb1
    have hkids : ∀ (k : Ex), k ∈ e.kids → cnt k ≤ m := fun k hk => by have := cnt_kid hk; omega
    have hlen : e.kids.length ≤ 1000000 := by
      have := len_cnts e.kids
      have := cnt_eq e
      omega
    have HX1 := Lib.hid hx1
    have HV1 := Lib.hid hv1
    have HL1 := Lib.hid (hl.later hb1)
    clear hx1 hv1 hb1 hl
    obtain ⟨dx, gx⟩ := HX1.out.facts
    obtain ⟨dv, gv⟩ := HV1.out.facts
    cases hf : f n e with
    | true =>
      have HE := Lib.hid (show wkE f s n e = wkL f s (s n e) e.kids by rw [hE, if_pos hf])
      have HG := Lib.hid (hV.keep n e hg hf)
      rw [hf] at HC
      clear hE hR hf
      go_enter Tryz.func31, Tryz.ntmps31
      go_wp2_with (first
        | ((with_reducible refine HC.out.mono ?_); clear HC dx gx dv gv; rintro r w2 ⟨rfl, hr2, hg2⟩; have HX2 := Lib.hid (HX1.out.grown hg2 (fun e => by have := hne _ e.symm; omega)); have HV2 := Lib.hid (HV1.out.grown hg2 (fun e => by have := hne _ e.symm; omega)); have HL2 := Lib.hid (HL1.out.grown hg2 (fun b e => by have h5 := hne b e; intro o v ho hv; exact (hV.small _ _ (hV.later _ _ _ HRb.out HBb.out) b e).2 o v ho hv)); have HR2 := Lib.hid hr2; have HW2 := Lib.hid (grown_trans HB1.out hg2); obtain ⟨dx, gx⟩ := HX2.out.facts; clear hr2 hg2)
        | (go_at_call 53; refine (contains_any hV (w.heap.size + 1) e.kids _ (s n e) _ HL2.out HR2.out HG.out hlen (fun k hk n' kv' W a1 a2 a3 a4 => wk1_any hV (w.heap.size + 1) k n' kv' W (HV2.out.grown a3 (fun e => by have := hne _ e.symm; omega)) a2 a4 (fun W2 b1 b2 => ih k n' kv' W2 (hkids k hk) (by omega) (hV.kids e hq k hk) a1 b1 b2))).mono ?_; rintro r w3 ⟨rfl, hr3, hg3⟩; have HR3 := Lib.hid hr3; have HW3 := Lib.hid (grown_trans HW2.out hg3); clear hr3 hg3))
      go_ret
      exact ⟨ret_bool (by rw [HE.out]), by rw [HE.out]; exact HR3.out, HW3.out⟩
    | false =>
      have HE := Lib.hid (show wkE f s n e = (false, s n e) by rw [hE, if_neg (by rw [hf]; exact Bool.false_ne_true)])
      rw [hf] at HC
      clear hE hR hf
      go_enter Tryz.func31, Tryz.ntmps31
      go_wp2_with ((with_reducible refine HC.out.mono ?_); clear HC; rintro r w2 ⟨rfl, hr2, hg2⟩; have HR2 := Lib.hid hr2; have HW2 := Lib.hid (grown_trans HB1.out hg2); clear hr2 hg2)
      go_ret
      exact ⟨ret_bool (by rw [HE.out]), by rw [HE.out]; exact HR2.out, HW2.out⟩
end
end Go.Proofs.YtppoeiofdmlpeaaGreatDoor
namespace Go.Proofs.YtppoeiofdmlpeaaGreatDoor
open Go Go.RowKit
def ndN (e : Ex) (most : Nat) : Nat := min (cnt e) (most + 1)
set_option maxRecDepth 100000 in
set_option maxHeartbeats 8000000 in
theorem nodes_rec : ∀ (M : Nat) (e : Ex) (most : Nat) (kv : Value) (w : World), cnt e ≤ M → most ≤ 1000 → Lay w kv e.kids →
    Calls Tryz.prog 16 #[.agg #[.int .i64 e.op, .string e.name, .string e.value, .int .i64 e.n, .int .i64 e.extra, kv], .int .i64 most] w fun r w' => r = .returned (.int .i64 (ndN e most)) ∧ Below w.heap.size w w' := by
  intro M
  induction M with
  | zero => intro e most kv w hc; have := cnt_pos e; omega
  | succ M ih =>
    intro e most kv w hc hm hl
    have hE : ndN e most = min (1 + cnts e.kids) (most + 1) := by unfold ndN; rw [cnt_eq]; omega
    have hkid : ∀ k, k ∈ e.kids → cnt k ≤ M := fun k hk => by have := cnt_kid hk; omega
    rw [hE]
    obtain ⟨A, c, rfl, _⟩ := hl.slice
    have HL := Lib.hid hl
    have HK := Lib.hid hkid
    generalize e.kids = ks at *
    clear hE hl hkid hc
    go_enter Tryz.func16, Tryz.ntmps16
    go_wp2_with fail
    have HX := Lib.hid (Has.new w 24 #[.int .i64 e.op, .string e.name, .string e.value, .int .i64 e.n, .int .i64 e.extra, .slice A ks.length c])
    have HB := Lib.hid (show Below w.heap.size w (w.alloc (.cells #[.int .i64 e.op, .string e.name, .string e.value, .int .i64 e.n, .int .i64 e.extra, .slice A ks.length c] 24)) from (Below.refl _ _).alloc (Nat.le_refl _) _)
    have hz0 : w.heap.size < (w.alloc (.cells #[.int .i64 e.op, .string e.name, .string e.value, .int .i64 e.n, .int .i64 e.extra, .slice A ks.length c] 24)).heap.size := HX.out.lt
    generalize (w.alloc (.cells #[.int .i64 e.op, .string e.name, .string e.value, .int .i64 e.n, .int .i64 e.extra, .slice A ks.length c] 24)) = w0 at *
    go_loopw [5, 6] (fun n i wr => ∃ k m : Nat, i = .int .i64 k ∧ n = .int .i64 m ∧ k ≤ ks.length ∧ k + 1 ≤ m ∧ m ≤ most + 1 ∧ Hid (m = min (1 + cnts (ks.take k)) (most + 1)) ∧ Hid (Below w0.heap.size w0 wr)) (fun n _ _ => most + 2 - (intOf n).toNat)
    case atStart => exact ⟨0, 1, rfl, rfl, Nat.zero_le _, Nat.le_refl _, by omega, by show 1 = min (1 + cnts (ks.take 0)) (most + 1); rw [List.take_zero, cnts_nil]; omega, Below.refl _ _⟩
    case round =>
      obtain ⟨k, m, rfl, rfl, hk, hkm, hmm, HM, HW⟩ := hrel
      have hXr := HX.out.below HW.out hz0
      obtain ⟨d, f⟩ := hXr.facts
      by_cases hlt : k < ks.length
      · have hki : (k : Int) < (ks.length : Int) := by omega
        by_cases hle : m ≤ most
        · have hmi : (m : Int) ≤ (most : Int) := by omega
          have hLr := (HL.out.later HB.out).later HW.out
          obtain ⟨_, _, hkid⟩ := hLr.kid
          obtain ⟨b, o, kv, rfl, hcell, hkk⟩ := hkid k hlt
          have hc0 := hcell 0 (by decide)
          have hc1 := hcell 1 (by decide)
          have hc2 := hcell 2 (by decide)
          have hc3 := hcell 3 (by decide)
          have hc4 := hcell 4 (by decide)
          have hc5 := hcell 5 (by decide)
          simp only [exF, if_true, if_false, Nat.reduceEqDiff, Nat.add_one_ne_zero, ← Nat.add_assoc, Nat.add_zero] at hc0 hc1 hc2 hc3 hc4 hc5
          have HC := Lib.hid (ih ks[k] (most - m) kv _ (HK.out _ (List.getElem_mem hlt)) (by omega) hkk)
          have hsub : ((most - m : Nat) : Int) = (most : Int) - (m : Int) := by omega
          rw [hsub] at HC
          have htake : cnts (ks.take (k + 1)) = cnts (ks.take k) + cnt ks[k] := by
            rw [List.take_add_one, List.getElem?_eq_getElem hlt, cnts_app]
            show _ + cnts [ks[k]] = _
            rw [cnts_cons, cnts_nil]; omega
          have hpos := cnt_pos ks[k]
          have HN := Lib.hid (show m + ndN ks[k] (most - m) = min (1 + cnts (ks.take (k + 1))) (most + 1) ∧ k + 2 ≤ m + ndN ks[k] (most - m) ∧ m + ndN ks[k] (most - m) ≤ most + 1 ∧ 1 ≤ ndN ks[k] (most - m) by
            have h1 := HM.out
            unfold ndN
            rw [htake]
            omega)
          obtain ⟨Ak, ck, rfl, _⟩ := hkk.slice
          clear hkid hcell hkk htake hLr hsub hpos
          generalize ndN ks[k] (most - m) = z at *
          generalize ks[k] = ek at *
          have hzb : z ≤ 2000 := by have := HN.out; omega
          have hs1 : IntKind.i64.wrap ((most : Int) - (m : Int)) = (most : Int) - (m : Int) := IntWalk.i64_in _ (by omega)
          have hs2 : IntKind.i64.wrap ((m : Int) + (z : Int)) = (m : Int) + (z : Int) := IntWalk.i64_in _ (by omega)
          have hs3 : IntKind.i64.wrap ((k : Int) + 1) = (k : Int) + 1 := IntWalk.i64_in _ (by omega)
          go_wp2_with (go_at_call 16; refine HC.out.mono ?_; rintro r w2 ⟨rfl, hb2⟩; have HW2 := Lib.hid (HW.out.trans (hb2.mono HW.out.size)); clear hb2)
          go_roundw
          case rel => exact ⟨k + 1, m + z, by go_num, by go_num, hlt, by have := HN.out; omega, HN.out.2.2.1, HN.out.1, HW2⟩
          case measure => have := HN.out; simp [intOf]; omega
        · have hmi : ¬ (m : Int) ≤ (most : Int) := by omega
          have HF := Lib.hid (show (m : Int) = ((min (1 + cnts ks) (most + 1) : Nat) : Int) by
            have h1 := HM.out
            have h2 : cnts ks = cnts (ks.take k) + cnts (ks.drop k) := by rw [← cnts_app, List.take_append_drop]
            omega)
          go_wp2_with fail
          go_ret
          exact ⟨ret_int HF.out, HB.out.trans (HW.out.mono HB.out.size)⟩
      · have hki : ¬ (k : Int) < (ks.length : Int) := by omega
        have HF := Lib.hid (show (m : Int) = ((min (1 + cnts ks) (most + 1) : Nat) : Int) by
          have h1 := HM.out
          rw [List.take_of_length_le (by omega)] at h1
          omega)
        go_wp2_with fail
        go_ret
        exact ⟨ret_int HF.out, HB.out.trans (HW.out.mono HB.out.size)⟩
theorem nodes_any (e : Ex) (most : Nat) (kv : Value) (w : World) (hm : most ≤ 1000) (hl : Lay w kv e.kids) :
    Calls Tryz.prog 16 #[.agg #[.int .i64 e.op, .string e.name, .string e.value, .int .i64 e.n, .int .i64 e.extra, kv], .int .i64 most] w fun r w' => r = .returned (.int .i64 (ndN e most)) ∧ Below w.heap.size w w' := nodes_rec (cnt e) e most kv w (Nat.le_refl _) hm hl
mutual
/-- All strings of a condition have at most 300 bytes. -/
def shB : Ex → Bool
  | .mk _ a v _ _ ks => decide (a.size ≤ 300 ∧ v.size ≤ 300) && shsB ks
def shsB : List Ex → Bool
  | [] => true
  | k :: ks => shB k && shsB ks
end
theorem shB_eq (e : Ex) : shB e = (decide (e.name.size ≤ 300 ∧ e.value.size ≤ 300) && shsB e.kids) := by cases e; rw [shB]; rfl
theorem shsB_cons (k : Ex) (ks : List Ex) : shsB (k :: ks) = (shB k && shsB ks) := by rw [shsB]
theorem shsB_nil : shsB [] = true := by rw [shsB]
set_option maxRecDepth 100000 in
set_option maxHeartbeats 8000000 in
theorem short_rec : ∀ (M : Nat) (e : Ex) (kv : Value) (w : World), cnt e ≤ M → M ≤ 100000 → Lay w kv e.kids →
    Calls Tryz.prog 85 #[.agg #[.int .i64 e.op, .string e.name, .string e.value, .int .i64 e.n, .int .i64 e.extra, kv]] w fun r w' => r = .returned (.bool (shB e)) ∧ Below w.heap.size w w' := by
  intro M
  induction M with
  | zero => intro e kv w hc; have := cnt_pos e; omega
  | succ M ih =>
    intro e kv w hc hM hl
    have hE := shB_eq e
    have hkid : ∀ k, k ∈ e.kids → cnt k ≤ M := fun k hk => by have := cnt_kid hk; omega
    have hlen : e.kids.length ≤ 100000 := by
      have := len_cnts e.kids
      have := cnt_eq e
      omega
    rw [hE]
    obtain ⟨A, c, rfl, _⟩ := hl.slice
    have HL := Lib.hid hl
    have HK := Lib.hid hkid
    generalize e.kids = ks at *
    clear hE hl hkid hc
    have HX := Lib.hid (Has.new w 24 #[.int .i64 e.op, .string e.name, .string e.value, .int .i64 e.n, .int .i64 e.extra, .slice A ks.length c])
    have HB := Lib.hid (show Below w.heap.size w (w.alloc (.cells #[.int .i64 e.op, .string e.name, .string e.value, .int .i64 e.n, .int .i64 e.extra, .slice A ks.length c] 24)) from (Below.refl _ _).alloc (Nat.le_refl _) _)
    by_cases h1 : e.name.size ≤ 300
    · have h1i : ¬ (300 : Int) < (e.name.size : Int) := by omega
      by_cases h2 : e.value.size ≤ 300
      · have h2i : ¬ (300 : Int) < (e.value.size : Int) := by omega
        rw [decide_eq_true ⟨h1, h2⟩, Bool.true_and]
        go_enter Tryz.func85, Tryz.ntmps85
        go_wp2_with fail
        have hz0 : w.heap.size < (w.alloc (.cells #[.int .i64 e.op, .string e.name, .string e.value, .int .i64 e.n, .int .i64 e.extra, .slice A ks.length c] 24)).heap.size := HX.out.lt
        generalize (w.alloc (.cells #[.int .i64 e.op, .string e.name, .string e.value, .int .i64 e.n, .int .i64 e.extra, .slice A ks.length c] 24)) = w0 at *
        go_loopw [3] (fun i wr => ∃ k : Nat, i = .int .i64 k ∧ k ≤ ks.length ∧ Hid (shsB ks = shsB (ks.drop k)) ∧ Hid (Below w0.heap.size w0 wr)) (fun i _ => ks.length - (intOf i).toNat)
        case atStart => exact ⟨0, rfl, Nat.zero_le _, rfl, Below.refl _ _⟩
        case round =>
          obtain ⟨k, rfl, hk, HE, HW⟩ := hrel
          have hXr := HX.out.below HW.out hz0
          obtain ⟨d, f⟩ := hXr.facts
          by_cases hlt : k < ks.length
          · have hki : (k : Int) < (ks.length : Int) := by omega
            have hLr := (HL.out.later HB.out).later HW.out
            obtain ⟨_, _, hkid⟩ := hLr.kid
            obtain ⟨b, o, kv, rfl, hcell, hkk⟩ := hkid k hlt
            have hc0 := hcell 0 (by decide)
            have hc1 := hcell 1 (by decide)
            have hc2 := hcell 2 (by decide)
            have hc3 := hcell 3 (by decide)
            have hc4 := hcell 4 (by decide)
            have hc5 := hcell 5 (by decide)
            simp only [exF, if_true, if_false, Nat.reduceEqDiff, Nat.add_one_ne_zero, ← Nat.add_assoc, Nat.add_zero] at hc0 hc1 hc2 hc3 hc4 hc5
            have HC := Lib.hid (ih ks[k] kv _ (HK.out _ (List.getElem_mem hlt)) (by omega) hkk)
            have HE2 := Lib.hid (show shsB ks = (shB ks[k] && shsB (ks.drop (k + 1))) by rw [HE.out, List.drop_eq_getElem_cons hlt, shsB_cons])
            obtain ⟨Ak, ck, rfl, _⟩ := hkk.slice
            clear hkid hcell hkk hLr
            generalize ks[k] = ek at *
            cases hb : shB ek with
            | true =>
              rw [hb] at HC HE2
              have HE3 := Lib.hid (HE2.out.trans (Bool.true_and _))
              clear HE2
              go_wp2_with (go_at_call 85; refine HC.out.mono ?_; rintro r w2 ⟨rfl, hb2⟩; have HW2 := Lib.hid (HW.out.trans (hb2.mono HW.out.size)); clear hb2)
              go_roundw
              case rel => exact ⟨k + 1, by go_num, hlt, HE3, HW2⟩
              case measure => simp [intOf]; omega
            | false =>
              rw [hb] at HC HE2
              have HE3 := Lib.hid (HE2.out.trans (Bool.false_and _))
              clear HE2
              go_wp2_with (go_at_call 85; refine HC.out.mono ?_; rintro r w2 ⟨rfl, hb2⟩; have HW2 := Lib.hid (HW.out.trans (hb2.mono HW.out.size)); clear hb2)
              go_ret
              exact ⟨ret_bool HE3.out.symm, HB.out.trans (HW2.out.mono HB.out.size)⟩
          · have hki : ¬ (k : Int) < (ks.length : Int) := by omega
            have HE3 := Lib.hid (show shsB ks = true by rw [HE.out, List.drop_of_length_le (by omega), shsB_nil])
            go_wp2_with fail
            go_ret
            exact ⟨ret_bool HE3.out.symm, HB.out.trans (HW.out.mono HB.out.size)⟩
      · have h2i : (300 : Int) < (e.value.size : Int) := by omega
        rw [decide_eq_false (fun h => h2 h.2), Bool.false_and]
        go_enter Tryz.func85, Tryz.ntmps85
        go_wp2_with fail
        go_ret
        exact ⟨rfl, HB.out⟩
    · have h1i : (300 : Int) < (e.name.size : Int) := by omega
      rw [decide_eq_false (fun h => h1 h.1), Bool.false_and]
      go_enter Tryz.func85, Tryz.ntmps85
      go_wp2_with fail
      go_ret
      exact ⟨rfl, HB.out⟩
end Go.Proofs.YtppoeiofdmlpeaaGreatDoor
namespace Go.Proofs.YtppoeiofdmlpeaaGreatDoor
open Go Go.RowKit
def fewE (e : Ex) : Bool := decide (cnt e ≤ 80) && shB e
set_option maxRecDepth 100000 in
set_option maxHeartbeats 4000000 in
theorem fewCond_any (e : Ex) (kv : Value) (w : World) (hl : Lay w kv e.kids) :
    Calls Tryz.prog 61 #[.agg #[.int .i64 e.op, .string e.name, .string e.value, .int .i64 e.n, .int .i64 e.extra, kv]] w fun r w' => r = .returned (.bool (fewE e)) ∧ Below w.heap.size w w' := by
  have hb : Below w.heap.size w (w.alloc (.cells #[.int .i64 e.op, .string e.name, .string e.value, .int .i64 e.n, .int .i64 e.extra, kv] 24)) := (Below.refl _ _).alloc (Nat.le_refl _) _
  have HN := Lib.hid (nodes_any e 80 kv _ (by decide) (hl.later hb))
  have HS := Lib.hid (fun (hc : cnt e ≤ 80) (W : World) (h : Lay W kv e.kids) => short_rec 80 e kv W hc (by decide) h)
  have HL := Lib.hid (hl.later hb)
  have HB := Lib.hid hb
  have HX := Lib.hid (Has.new w 24 #[.int .i64 e.op, .string e.name, .string e.value, .int .i64 e.n, .int .i64 e.extra, kv])
  obtain ⟨A, c, rfl, _⟩ := hl.slice
  clear hb hl
  by_cases hc : cnt e ≤ 80
  · have hle : ((ndN e 80 : Nat) : Int) ≤ 80 := by unfold ndN; omega
    have HE := Lib.hid (show fewE e = shB e by unfold fewE; rw [decide_eq_true hc, Bool.true_and])
    have HSS := Lib.hid (HS.out hc)
    clear HS hc
    generalize ndN e 80 = z at *
    go_enter Tryz.func61, Tryz.ntmps61
    go_wp2_with (first
      | (go_at_call 16; refine HN.out.mono ?_; clear HN; rintro r w2 ⟨rfl, hb2⟩; have HW2 := Lib.hid (HB.out.trans (hb2.mono HB.out.size)); have HL2 := Lib.hid (HL.out.later hb2); obtain ⟨d, f⟩ := (HX.out.below hb2 HX.out.lt).facts; clear hb2)
      | (go_at_call 85; refine (HSS.out _ HL2.out).mono ?_; rintro r w3 ⟨rfl, hb3⟩; have HW3 := Lib.hid (HW2.out.trans (hb3.mono HW2.out.size)); clear hb3))
    go_ret
    exact ⟨ret_bool HE.out.symm, HW3.out⟩
  · have hle : ¬ ((ndN e 80 : Nat) : Int) ≤ 80 := by unfold ndN; omega
    have HE := Lib.hid (show fewE e = false by unfold fewE; rw [decide_eq_false hc, Bool.false_and])
    clear HS hc
    generalize ndN e 80 = z at *
    go_enter Tryz.func61, Tryz.ntmps61
    go_wp2_with (go_at_call 16; refine HN.out.mono ?_; clear HN; rintro r w2 ⟨rfl, hb2⟩; have HW2 := Lib.hid (HB.out.trans (hb2.mono HB.out.size)); clear hb2)
    go_ret
    exact ⟨ret_bool HE.out.symm, HW2.out⟩
def fewU (r : Ru) : Bool := decide (IntKind.i64.wrap ((r.name.size : Int) + (r.kind.size : Int)) ≤ 300) && fewE r.cond
set_option maxRecDepth 100000 in
set_option maxHeartbeats 4000000 in
theorem few1_any (r : Ru) (kv : Value) (w : World) (hl : Lay w kv r.cond.kids) :
    Calls Tryz.prog 36 #[.agg (ruA r kv)] w fun e w' => e = .returned (.bool (fewU r)) ∧ Below w.heap.size w w' := by
  have hb : Below w.heap.size w (w.alloc (.cells (ruA r kv) 26)) := (Below.refl _ _).alloc (Nat.le_refl _) _
  have HN := Lib.hid (fewCond_any r.cond kv _ (hl.later hb))
  have HB := Lib.hid hb
  have HE := Lib.hid (show fewU r = (decide (IntKind.i64.wrap ((r.name.size : Int) + (r.kind.size : Int)) ≤ 300) && fewE r.cond) from rfl)
  obtain ⟨z, hz⟩ : ∃ z, IntKind.i64.wrap ((r.name.size : Int) + (r.kind.size : Int)) = z := ⟨_, rfl⟩
  rw [hz] at HE
  obtain ⟨A, c, rfl, _⟩ := hl.slice
  dsimp only [ruA] at *
  clear hb hl
  by_cases hc : z ≤ 300
  · have HE2 := Lib.hid (show fewU r = fewE r.cond by rw [HE.out, decide_eq_true hc, Bool.true_and])
    clear HE
    go_enter Tryz.func36, Tryz.ntmps36
    go_wp2_with (go_at_call 61; refine HN.out.mono ?_; rintro e w2 ⟨rfl, hb2⟩; have HW2 := Lib.hid (HB.out.trans (hb2.mono HB.out.size)); clear hb2)
    go_ret
    exact ⟨ret_bool HE2.out.symm, HW2.out⟩
  · have HE2 := Lib.hid (show fewU r = false by rw [HE.out, decide_eq_false hc, Bool.false_and])
    clear HE
    go_enter Tryz.func36, Tryz.ntmps36
    go_wp2_with fail
    go_ret
    exact ⟨ret_bool HE2.out.symm, HB.out⟩
/-- A slice that reads as rules. -/
def RuL (w : World) (v : Value) (rs : List Ru) : Prop :=
  ∃ A c, v = .slice A rs.length c ∧ rs.length ≤ c ∧ (rs.length = 0 ∨ ∃ b o, A = some ⟨b, o, none⟩ ∧ ∀ i (hi : i < rs.length), ∃ kv, (∀ j, j < 8 → w.cell? ⟨b, o + (i * 8 + j), none⟩ = some (ruF rs[i] kv j)) ∧ Lay w kv (rs[i]).cond.kids)
theorem RuL.later {w w' : World} {v : Value} {rs : List Ru} (h : RuL w v rs) (hb : Below w.heap.size w w') : RuL w' v rs := by
  obtain ⟨A, c, e, h1, h2⟩ := h
  refine ⟨A, c, e, h1, h2.imp id fun ⟨b, o, ea, hh⟩ => ⟨b, o, ea, fun i hi => ?_⟩⟩
  obtain ⟨kv, hc, hl⟩ := hh i hi
  exact ⟨kv, fun j hj => cell_later hb (hc j hj), hl.later hb⟩
def fewsU (rs : List Ru) : Bool := decide (rs.length ≤ 5) && rs.all fewU
set_option maxRecDepth 100000 in
set_option maxHeartbeats 8000000 in
theorem fewAll_any (v : Value) (rs : List Ru) (w : World) (h : RuL w v rs) (hn : rs.length ≤ 5) :
    Calls Tryz.prog 18 #[v, .int .i64 5] w fun e w' => e = .returned (.bool (fewsU rs)) ∧ Below w.heap.size w w' := by
  have HH := Lib.hid h
  obtain ⟨A, c, rfl, hc, _⟩ := h
  have hn5 : (rs.length : Int) ≤ 5 := by omega
  have HE := Lib.hid (show fewsU rs = rs.all fewU by unfold fewsU; rw [decide_eq_true hn, Bool.true_and])
  go_enter Tryz.func18, Tryz.ntmps18
  go_wp2_with fail
  go_loopw [5] (fun i wr => ∃ k : Nat, i = .int .i64 k ∧ k ≤ rs.length ∧ Hid (rs.all fewU = (rs.drop k).all fewU) ∧ Hid (Below w.heap.size w wr)) (fun i _ => rs.length - (intOf i).toNat)
  case atStart => exact ⟨0, rfl, Nat.zero_le _, rfl, Below.refl _ _⟩
  case round =>
    obtain ⟨k, rfl, hk, HK, HW⟩ := hrel
    by_cases hlt : k < rs.length
    · have hki : (k : Int) < (rs.length : Int) := by omega
      obtain ⟨A2, c2, e2, _, h3⟩ := HH.out.later HW.out
      injection e2 with e2 _ e3
      subst e2
      subst e3
      rcases h3 with h3 | ⟨b, o, rfl, h3⟩
      · omega
      obtain ⟨kv, hcell, hkk⟩ := h3 k hlt
      have hc0 := hcell 0 (by decide)
      have hc1 := hcell 1 (by decide)
      have hc2 := hcell 2 (by decide)
      have hc3 := hcell 3 (by decide)
      have hc4 := hcell 4 (by decide)
      have hc5 := hcell 5 (by decide)
      have hc6 := hcell 6 (by decide)
      have hc7 := hcell 7 (by decide)
      simp only [ruF, exF, if_true, if_false, Nat.reduceEqDiff, Nat.reduceSub, Nat.add_one_ne_zero, ← Nat.add_assoc, Nat.add_zero] at hc0 hc1 hc2 hc3 hc4 hc5 hc6 hc7
      have HC := Lib.hid (few1_any rs[k] kv _ hkk)
      have HK2 := Lib.hid (show rs.all fewU = (fewU rs[k] && (rs.drop (k + 1)).all fewU) by rw [HK.out, List.drop_eq_getElem_cons hlt, List.all_cons])
      obtain ⟨Ak, ck, rfl, _⟩ := hkk.slice
      dsimp only [ruA] at HC
      clear h3 hcell hkk
      generalize rs[k] = rk at *
      cases hb : fewU rk with
      | true =>
        rw [hb] at HC HK2
        have HK3 := Lib.hid (HK2.out.trans (Bool.true_and _))
        clear HK2
        go_wp2_with (go_at_call 36; refine HC.out.mono ?_; rintro r w2 ⟨rfl, hb2⟩; have HW2 := Lib.hid (HW.out.trans (hb2.mono HW.out.size)); clear hb2)
        go_roundw
        case rel => exact ⟨k + 1, by go_num, hlt, HK3, HW2⟩
        case measure => simp [intOf]; omega
      | false =>
        rw [hb] at HC HK2
        have HK3 := Lib.hid (HK2.out.trans (Bool.false_and _))
        clear HK2
        go_wp2_with (go_at_call 36; refine HC.out.mono ?_; rintro r w2 ⟨rfl, hb2⟩; have HW2 := Lib.hid (HW.out.trans (hb2.mono HW.out.size)); clear hb2)
        go_ret
        exact ⟨ret_bool (by rw [HE.out, HK3.out]), HW2.out⟩
    · have hki : ¬ (k : Int) < (rs.length : Int) := by omega
      have HK3 := Lib.hid (show rs.all fewU = true by rw [HK.out, List.drop_of_length_le (by omega)]; rfl)
      go_wp2_with fail
      go_ret
      exact ⟨ret_bool (by rw [HE.out, HK3.out]), HW.out⟩
set_option maxRecDepth 100000 in
set_option maxHeartbeats 4000000 in
theorem few_any (v : Value) (rs : List Ru) (w : World) (h : RuL w v rs) (hn : rs.length ≤ 5) :
    Calls Tryz.prog 8 #[v] w fun e w' => e = .returned (.bool (fewsU rs)) ∧ Below w.heap.size w w' := by
  have HF := Lib.hid (fewAll_any v rs w h hn)
  obtain ⟨A, c, rfl, hc, _⟩ := h
  go_enter Tryz.func8, Tryz.ntmps8
  go_wp2_with (go_at_call 18; refine HF.out.mono ?_; rintro r w2 ⟨rfl, hb2⟩; have HB := Lib.hid hb2; clear hb2)
  go_ret
  exact ⟨rfl, HB.out⟩
end Go.Proofs.YtppoeiofdmlpeaaGreatDoor
namespace Go.Proofs.YtppoeiofdmlpeaaGreatDoor
open Go Go.RowKit
def szF (n : Nat) (_ : Ex) : Bool := decide (n + 1 ≤ 60)
def szS (n : Nat) (_ : Ex) : Nat := n + 1
mutual
theorem sz_E (n : Nat) : ∀ e : Ex, n ≤ 60 → wkE szF szS n e = (decide (n + cnt e ≤ 60), min (n + cnt e) 61)
  | .mk o a v m x ks => fun h => by
    rw [wkE_eq]
    have hc : cnt (.mk o a v m x ks) = cnts ks + 1 := cnt_eq _
    unfold szF szS
    split
    · rename_i h1
      have h1 := of_decide_eq_true h1
      show wkL szF szS (n + 1) ks = _
      rw [sz_L (n + 1) ks h1, hc, show n + 1 + cnts ks = n + (cnts ks + 1) by omega]
    · rename_i h1
      have h1 : ¬ n + 1 ≤ 60 := fun h => h1 (decide_eq_true h)
      rw [hc]
      refine Prod.ext (decide_eq_false (by omega)).symm ?_
      show n + 1 = min (n + (cnts ks + 1)) 61
      omega
theorem sz_L (n : Nat) : ∀ ks : List Ex, n ≤ 60 → wkL szF szS n ks = (decide (n + cnts ks ≤ 60), min (n + cnts ks) 61)
  | [] => fun h => by
    rw [wkL_nil, cnts_nil]
    refine Prod.ext (decide_eq_true (by omega)).symm ?_
    show n = min (n + 0) 61
    omega
  | k :: ks => fun h => by
    rw [wkL_cons, sz_E n k h, cnts_cons]
    have := cnt_pos k
    by_cases h1 : n + cnt k ≤ 60
    · rw [if_pos (decide_eq_true h1)]
      show wkL szF szS (min (n + cnt k) 61) ks = _
      rw [show min (n + cnt k) 61 = n + cnt k by omega, sz_L (n + cnt k) ks h1, show n + cnt k + cnts ks = n + (cnt k + cnts ks) by omega]
    · rw [if_neg (by simpa using h1)]
      refine Prod.ext (decide_eq_false (by omega)).symm ?_
      show min (n + cnt k) 61 = min (n + (cnt k + cnts ks)) 61
      omega
end
set_option maxRecDepth 100000 in
set_option maxHeartbeats 4000000 in
theorem sz1_any (b n : Nat) (e : Ex) (kv : Value) (w : World) (hn : n ≤ 60) (h : Has w b 3 #[.int .i64 n]) :
    Calls Tryz.prog 47 #[.agg #[.int .i64 e.op, .string e.name, .string e.value, .int .i64 e.n, .int .i64 e.extra, kv], .pointer (some ⟨b, 0, none⟩)] w fun r w' => r = .returned (.bool (szF n e)) ∧ Has w' b 3 #[.int .i64 (n + 1 : Nat)] ∧ w.grownBy w' (some b) := by
  have hlt := h.lt
  have HB := Lib.hid (show Below w.heap.size w (w.alloc (.cells #[.int .i64 e.op, .string e.name, .string e.value, .int .i64 e.n, .int .i64 e.extra, kv] 24)) from (Below.refl _ _).alloc (Nat.le_refl _) _)
  have HH := Lib.hid (h.alloc (.cells #[.int .i64 e.op, .string e.name, .string e.value, .int .i64 e.n, .int .i64 e.extra, kv] 24))
  obtain ⟨d, f⟩ := HH.out.facts
  obtain ⟨d0, f0⟩ := h.facts
  have HF := Lib.hid (show szF n e = decide ((n : Int) + 1 ≤ 60) from decide_eq_decide.2 (by omega))
  have hw : IntKind.i64.wrap ((n : Int) + 1) = (n : Int) + 1 := IntWalk.i64_in _ (by omega)
  go_enter Tryz.func47, Tryz.ntmps47
  go_wp2_with fail
  go_ret
  exact ⟨ret_bool HF.out.symm, (h.put 0 (.int .i64 ((n : Int) + 1))).alloc _, grown_trans (grownBy_setCell' w b _) (grown_of_below ((Below.refl _ _).alloc (Nat.le_refl _) _))⟩
theorem size_vis (b : Nat) : Vis (fun _ => True) 47 #[.pointer (some ⟨b, 0, none⟩)] (some b) (fun n W => Has W b 3 #[.int .i64 n]) (fun n => n ≤ 60) szF szS where
  kids _ _ _ _ := trivial
  enters := enters_of Tryz.func47 (by kernel_rfl) rfl
  small n W h b' hb := by
    injection hb with hb
    subst hb
    refine ⟨h.lt, fun o v ho hv => ?_⟩
    rw [h.cell o, Array.getElem?_eq_none (by show 1 ≤ o; omega)] at hv
    cases hv
  later n W W' h hb := h.below hb h.lt
  keep n e _ h := of_decide_eq_true h
  call n e kv W _ hg hR _ := sz1_any b n e kv W hg hR
set_option maxRecDepth 100000 in
set_option maxHeartbeats 4000000 in
theorem size_any (e : Ex) (kv : Value) (w : World) (hc : cnt e ≤ 1000000) (hl : Lay w kv e.kids) :
    Calls Tryz.prog 24 #[.agg #[.int .i64 e.op, .string e.name, .string e.value, .int .i64 e.n, .int .i64 e.extra, kv]] w fun r w' => r = .returned (.int .i64 (min (cnt e) 61 : Nat)) ∧ Below w.heap.size w w' := by
  have hb : Below w.heap.size w ((w.alloc (.cells #[.int .i64 e.op, .string e.name, .string e.value, .int .i64 e.n, .int .i64 e.extra, kv] 24)).alloc (.cells #[.int .i64 0] 3)) := ((Below.refl _ _).alloc (Nat.le_refl _) _).alloc (by simp) _
  have hn : Has ((w.alloc (.cells #[.int .i64 e.op, .string e.name, .string e.value, .int .i64 e.n, .int .i64 e.extra, kv] 24)).alloc (.cells #[.int .i64 0] 3)) (w.heap.size + 1) 3 #[.int .i64 0] := by
    rw [show w.heap.size + 1 = (w.alloc (.cells #[.int .i64 e.op, .string e.name, .string e.value, .int .i64 e.n, .int .i64 e.extra, kv] 24)).heap.size from (World.size_alloc _ _).symm]
    exact Has.new _ _ _
  have HW := Lib.hid (walk_rec (size_vis (w.heap.size + 1)) (cnt e) e 0 kv _ (Nat.le_refl _) hc trivial (Nat.zero_le _) hn (hl.later hb))
  have HE := Lib.hid (sz_E 0 e (Nat.zero_le _))
  have HB := Lib.hid hb
  obtain ⟨A, c, rfl, _⟩ := hl.slice
  clear hb hn hl
  go_enter Tryz.func24, Tryz.ntmps24
  go_wp2_with (go_at_call 31; refine HW.out.mono ?_; clear HW; rintro r w2 ⟨rfl, hr, hg⟩; rw [HE.out] at hr; have HR := Lib.hid hr; have HG := Lib.hid (show Below w.heap.size w w2 from HB.out.grown hg HB.out.size (fun k e => by injection e with e; omega)); obtain ⟨d2, f2⟩ := hr.facts; clear hr hg)
  go_ret
  exact ⟨rfl, HG.out⟩
end Go.Proofs.YtppoeiofdmlpeaaGreatDoor
