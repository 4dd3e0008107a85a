/- append onto a row of the call's own, whatever the source; also in a guarded operation. What such rows read as. No condition. rule.walk with whatever visit. Condition: the visit keeps its contract; the condition lies in memory. TypingCurrencies in plain words. No condition. Pairs of strings as keys of a map. No condition. catalog.Find: the first kind with a name. catalog.index at slots. catalog.Find, catalog.Takes; slices.Contains at strings. catalog.Valid. catalog.Valid: the walk. strings.Builder at this program: WriteString (and copyCheck, whose panic the translation leaves out). No condition but that the bytes fit a machine. strings.Builder.WriteByte at this program. No condition but that the bytes fit a machine. lexer.unquoted: what the string at the beginning of a text stands for, and its length. Condition: the text is not too long. lexer.tokens' functions: the class at an offset; what tokens hands back. Condition: the text is a string that lies in memory. A region that draws its order, walked by a plan: the operations that only read, or whose guard is false, are taken first, in the order of a list. No condition. -/
import Derived.BigFrame
import Derived.ChangeKeysEq
import Derived.Deep.Cut
import Derived.Deep.RegionHeld3
import Derived.Handy
import Derived.Laws.AppendOwn
import Derived.Laws.AppendOwnNone
import Derived.Laws.EntriesVeiled
import Derived.Lib.AppendStr
import Derived.Lib.Builder
import Derived.RegionTactic
import Derived.Test.YtcpakaiblelmlaaGreatDoorProg
import Derived.Test.YtcpakaiblelmlaaGreatDoorU01
namespace Go.Proofs.YtcpakaiblelmlaaGreatDoor
open Go Go.RowKit
section
variable {P : Program} {w : World}
/-- A source without an address adds nothing. -/
theorem append_nil_run (base : Nat) (t ty e : TypeId) (i : TypeInfo) (size : Nat) (ht : P.underlying t = some (.slice e)) (hi : P.info? e = some i) (v : Value) (n : Nat) (xs : List Value) (hown : w.ownsRow base e size v n xs) (c : Nat) :
    (Builtin.append_ #[t, t] ty #[v, .slice none 0 c]).run P w = .ok v w := by
  rcases hown.2 with ⟨rfl, rfl⟩ | ⟨g, cap, cur, rfl, _, _, hnc, _⟩
  · simp [Builtin.append_, run_underlying ht, sizeOf, typeInfo, hi, Builtin.lenOf, Builtin.firstCells]
  · simp [Builtin.append_, run_underlying ht, sizeOf, typeInfo, hi, Builtin.lenOf, Builtin.firstCells, hnc, storeCells]
/-- The law at the operation: the source has an address, or no element. -/
theorem wpList_app {ops : Array Oper} {rest : List Oper} {o : Oper} {a : Act} {Q : Exit → Act → World → Prop} (hw : Region.wanted o (yielded ops a.tmps) = true) (s x : Operand) (t : TypeId)
    (ho : o.op = .call { callee := .builtin .append, args := #[s, x], argTypes := #[t, t] })
    (base : Nat) (e : TypeId) (i : TypeInfo) (z : Value) (size bytes : Nat) (ht : P.underlying t = some (.slice e)) (hi : P.info? e = some i) (hz : i.zero = some z)
    (hsize : i.size = size) (hby : i.bytes = bytes) (hzs : z.cells.size = size) (hsz : 0 < size)
    (v : Value) (n : Nat) (xs : List Value) (hs : a.eval s = v) (hown : w.ownsRow base e size v n xs)
    (A : Option Addr) (m c : Nat) (news : List Value) (hx : a.eval x = .slice A m c) (hl : news.length = m * size) (hA : m = 0 ∨ ∃ ad, A = some ad ∧ ∀ j u, news[j]? = some u → w.cell? (ad.add j) = some u)
    (h1 : ∀ u ∈ news, u.oneCell' = true) (h63 : n + m ≤ maxLen) (hbytes : (n + m) * bytes ≤ 140737488355328) (hbase : base ≤ w.heap.size)
    (h : ∀ v' w', w'.ownsRow base e size v' (n + m) (xs ++ news) → w.grownBy w' v.ownBlock → wpList P ops Q rest (a.put o.dst v') w') : wpList P ops Q (o :: rest) a w := by
  refine BigFrame.wpList_want hw fun K hK => ?_
  rcases A with _ | ad
  · have hm : m = 0 := by
      rcases hA with h0 | ⟨_, h0, _⟩
      · exact h0
      · cases h0
    subst hm
    obtain rfl : news = [] := List.eq_nil_of_length_eq_zero (by simpa using hl)
    have hr := append_nil_run (P := P) base t o.type e i size ht hi v n xs hown c
    unfold Oper.wp execOp
    simp only [ho, resolve, invoke, builtin, Sem.run_bind, Sem.run_pure, Result.andThen_ok, List.map_toArray, List.map_cons, List.map_nil, hs, hx, hr]
    exact hK _ _ (h v w (by simpa using hown) (World.grownBy.refl w _))
  · refine wp_append_own w s x t ho base e i z size bytes ht hi hz hsize hby hzs hsz v n xs hs hown ad m c news hx hl ?_ h1 h63 hbytes hbase fun v' w' h2 h3 _ => hK _ _ (h v' w' h2 h3)
    rcases hA with rfl | ⟨ad', h0, hc⟩
    · obtain rfl : news = [] := List.eq_nil_of_length_eq_zero (by simpa using hl)
      intro j u hu; cases hu
    · cases h0; exact hc
end
/-- The cells that a slice reads, as a list. -/
def slCells (k : Nat) (f : Nat → Value) : List Value := (List.range k).map f
theorem slCells_len (k : Nat) (f : Nat → Value) : (slCells k f).length = k := by simp [slCells]
theorem slCells_get (k : Nat) (f : Nat → Value) (j : Nat) (h : j < k) : (slCells k f)[j]? = some (f j) := by simp [slCells, h]
theorem sl_src {w : World} {A : Option Addr} {n m c sz : Nat} {f : Nat → Value} (h : Sl w (.slice A n c) m sz f) : n = m ∧ (m = 0 ∨ ∃ ad, A = some ad ∧ ∀ j u, (slCells (m * sz) f)[j]? = some u → w.cell? (ad.add j) = some u) := by
  obtain ⟨A', c', he, _, h0 | ⟨b, o, hA, hc⟩⟩ := h
  · injection he with e1 e2 e3; exact ⟨e2, .inl h0⟩
  · injection he with e1 e2 e3
    refine ⟨e2, .inr ⟨_, e1.trans hA, fun j u hu => ?_⟩⟩
    have hj : j < m * sz := by
      rcases Nat.lt_or_ge j (m * sz) with h1 | h1
      · exact h1
      · rw [List.getElem?_eq_none (by rw [slCells_len]; exact h1)] at hu; cases hu
    rw [slCells_get _ _ _ hj] at hu
    rw [Addr.add_mid, hc j hj, hu]
/-- An owned row reads as a slice. -/
theorem sl_row {w : World} {base t sz n : Nat} {v : Value} {xs : List Value} (h : w.ownsRow base t sz v n xs) : Sl w v n sz (fun j => (xs[j]?).getD undef) := by
  rcases h.2 with ⟨rfl, h0⟩ | ⟨g, cap, cur, rfl, hg, hh, hn, hc, hs, ht⟩
  · subst h0; exact ⟨_, _, rfl, Nat.le_refl _, .inl rfl⟩
  · refine ⟨_, cap, rfl, hn, .inr ⟨g, 0, rfl, fun j hj => ?_⟩⟩
    have hx : xs.length = n * sz := h.1
    rw [Nat.zero_add, cell_of_row w g j cur t (0, 0) hh]
    obtain ⟨x, h1⟩ : ∃ x, xs[j]? = some x := ⟨_, List.getElem?_eq_getElem (by omega)⟩
    show _ = some ((xs[j]?).getD undef)
    rw [h1, Option.getD_some]
    rw [← ht, List.getElem?_take, if_pos hj] at h1
    simpa using h1
end Go.Proofs.YtcpakaiblelmlaaGreatDoor
namespace Go.Proofs.YtcpakaiblelmlaaGreatDoor
open Go Go.RowKit
section
variable (f : Nat → Ex → Bool) (s : Nat → Ex → Nat)
mutual
/-- A walk with a state: whether no visit was false, and the state behind it. -/
def wkE (n : Nat) : Ex → Bool × Nat
  | .mk o a v m x ks => if f n (.mk o a v m x ks) then wkL (s n (.mk o a v m x ks)) ks else (false, s n (.mk o a v m x ks))
def wkL (n : Nat) : List Ex → Bool × Nat
  | [] => (true, n)
  | k :: ks => if (wkE n k).1 then wkL (wkE n k).2 ks else (false, (wkE n k).2)
end
theorem wkE_eq (n : Nat) (e : Ex) : wkE f s n e = if f n e then wkL f s (s n e) e.kids else (false, s n e) := by cases e; rw [wkE]; rfl
theorem wkL_nil (n : Nat) : wkL f s n [] = (true, n) := by rw [wkL]
theorem wkL_cons (n : Nat) (k : Ex) (ks : List Ex) : wkL f s n (k :: ks) = if (wkE f s n k).1 then wkL f s (wkE f s n k).2 ks else (false, (wkE f s n k).2) := by rw [wkL]
end
theorem LayS.grown {S : Nat → Prop} {w w' : World} {row : Option Nat} {v : Value} {ks : List Ex} (h : LayS S w v ks) (hg : w.grownBy w' row) (hr : ∀ b, row = some b → ∀ o v, 2 ≤ o → w.cell? ⟨b, o, none⟩ = some v → False) : LayS S w' v ks :=
  h.keeps fun b ⟨o, x, ho, hx⟩ j => by
    have hk := cell_size hx
    have h1 : some b ≠ row := fun e => hr b e.symm o x ho hx
    unfold World.cell?
    show (match w'.heap[b]? with | _ => _) = (match w.heap[b]? with | _ => _)
    rw [hg.block b hk h1]
theorem grown_trans {u v w : World} {row : Option Nat} (h : u.grownBy v row) (h' : v.grownBy w row) : u.grownBy w row :=
  ⟨h'.os.trans h.os, h'.tape.trans h.tape, h'.output.trans h.output, Nat.le_trans h.size h'.size, fun k hk hr => (h'.block k (Nat.lt_of_lt_of_le hk h.size) hr).trans (h.block k hk hr)⟩
theorem grown_of_below {u v : World} {row : Option Nat} (h : Below u.heap.size u v) : u.grownBy v row := ⟨h.os, h.tape, h.output, h.size, fun k hk _ => h.block k hk⟩
/-- What a visit must keep. -/
structure Vis (Q : Ex → Prop) (F : Nat) (cap : Array Value) (row : Option Nat) (R : Nat → World → Prop) (good : Nat → Prop) (f : Nat → Ex → Bool) (s : Nat → Ex → Nat) : Prop where
  kids : ∀ e, Q e → ∀ k ∈ e.kids, Q k
  enters : ∀ (args : Array Value) (w : World), (callFunc F args).run Tryz.prog w = .ok (.enter F args) w
  small : ∀ n W, R n W → ∀ b, row = some b → b < W.heap.size ∧ ∀ o v, 2 ≤ o → W.cell? ⟨b, o, none⟩ = some v → False
  later : ∀ n W W', R n W → Below W.heap.size W W' → R n W'
  keep : ∀ n e, good n → f n e = true → good (s n e)
  call : ∀ n e kv W, Q e → good n → R n W → Lay W kv e.kids → Calls Tryz.prog F (#[.agg #[.int .i64 e.op, .string e.name, .string e.value, .int .i64 e.n, .int .i64 e.extra, kv]] ++ cap) W fun r W' => r = .returned (.bool (f n e)) ∧ R (s n e) W' ∧ W.grownBy W' row
section
variable {Q : Ex → Prop} {F : Nat} {cap : Array Value} {row : Option Nat} {R : Nat → World → Prop} {good : Nat → Prop} {f : Nat → Ex → Bool} {s : Nat → Ex → Nat}
mutual
theorem good_E (hg : ∀ n e, good n → f n e = true → good (s n e)) (n : Nat) : ∀ e : Ex, good n → (wkE f s n e).1 = true → good (wkE f s n e).2
  | .mk o a v m x ks => fun h0 h1 => by
    rw [wkE_eq] at h1 ⊢
    split at h1
    · rename_i hf
      rw [if_pos hf]
      exact good_L hg _ ks (hg _ _ h0 hf) h1
    · cases h1
theorem good_L (hg : ∀ n e, good n → f n e = true → good (s n e)) (n : Nat) : ∀ ks : List Ex, good n → (wkL f s n ks).1 = true → good (wkL f s n ks).2
  | [] => fun h0 _ => by rw [wkL_nil]; exact h0
  | k :: ks => fun h0 h1 => by
    rw [wkL_cons] at h1 ⊢
    split at h1
    · rename_i hf
      rw [if_pos hf]
      exact good_L hg _ ks (good_E hg n k h0 hf) h1
    · cases h1
end
set_option maxRecDepth 100000 in
set_option maxHeartbeats 8000000 in
theorem idx_any (hV : Vis Q F cap row R good f s) (vb : Nat) (ks : List Ex) (sv : Value) (n : Nat) (w : World) (hl : Lay w sv ks) (hR : R n w) (hg : good n) (hlen : ks.length ≤ 1000000)
    (hk : ∀ (k : Ex), k ∈ ks → ∀ (n' : Nat) (kv : Value) (W : World), good n' → R n' W → w.grownBy W row → Lay W kv k.kids → Calls Tryz.prog 56 #[.agg #[.int .i64 k.op, .string k.name, .string k.value, .int .i64 k.n, .int .i64 k.extra, kv], .pointer (some ⟨vb, 0, none⟩)] W fun r W' => r = .returned (.bool (!(wkE f s n' k).1)) ∧ R (wkE f s n' k).2 W' ∧ W.grownBy W' row) :
    Calls Tryz.prog 88 #[sv, .func (.func 56) #[] #[.pointer (some ⟨vb, 0, none⟩)]] w fun r W' => ∃ j : Int, r = .returned (.int .i64 j) ∧ decide (0 ≤ j) = !(wkL f s n ks).1 ∧ R (wkL f s n ks).2 W' ∧ w.grownBy W' row := by
  have hsl := hl
  obtain ⟨A, c, rfl, hc⟩ := hl.slice
  have HL := Lib.hid hsl
  have HR := Lib.hid hR
  clear hl hsl hR
  go_enter Tryz.func88, Tryz.ntmps88
  go_wp2_with fail
  go_loopw [8] (fun v wr => ∃ k n' : Nat, k ≤ ks.length ∧ v = .int .i64 k ∧ Hid (wkL f s n ks = wkL f s n' (ks.drop k)) ∧ Hid (good n') ∧ Hid (R n' wr) ∧ Hid (w.grownBy wr row)) (fun v _ => ks.length - (intOf v).toNat)
  case atStart => exact ⟨0, n, Nat.zero_le _, rfl, rfl, hg, HR.out, World.grownBy.refl _ _⟩
  case round =>
    obtain ⟨k, n', hkl, rfl, HE, HG, HRn, HW⟩ := hrel
    have hLr := HL.out.grown HW.out (fun b e => (hV.small _ _ HR.out b e).2)
    by_cases hlt : k < ks.length
    · obtain ⟨_, _, hkid⟩ := hLr.kid
      obtain ⟨b, o, kv, rfl, hcell, hkk⟩ := hkid k hlt
      have hc0 := hcell 0 (by decide)
      have hc1 := hcell 1 (by decide)
      have hc2 := hcell 2 (by decide)
      have hc3 := hcell 3 (by decide)
      have hc4 := hcell 4 (by decide)
      have hc5 := hcell 5 (by decide)
      simp only [exF, if_true, if_false, Nat.reduceEqDiff, Nat.add_one_ne_zero, ← Nat.add_assoc, Nat.add_zero] at hc0 hc1 hc2 hc3 hc4 hc5
      have HC := Lib.hid (hk ks[k] (List.getElem_mem hlt) n' kv _ HG.out HRn.out HW.out hkk)
      have hdrop : ks.drop k = ks[k] :: ks.drop (k + 1) := List.drop_eq_getElem_cons hlt
      have HE2 := Lib.hid (show wkL f s n ks = if (wkE f s n' ks[k]).1 then wkL f s (wkE f s n' ks[k]).2 (ks.drop (k + 1)) else (false, (wkE f s n' ks[k]).2) by rw [HE.out, hdrop, wkL_cons])
      have HGE := Lib.hid (good_E hV.keep n' ks[k] HG.out)
      obtain ⟨Ak, ck, rfl, _⟩ := hkk.slice
      clear hkid hcell hkk hdrop hLr
      generalize ks[k] = e at *
      cases hb : (wkE f s n' e).1 with
      | true =>
        rw [hb] at HC HE2 HGE
        have HE3 := Lib.hid (HE2.out.trans (if_pos rfl))
        have HG3 := Lib.hid (HGE.out rfl)
        clear HE2 HGE
        go_wp2_with (go_at_call 56; refine HC.out.mono ?_; rintro r w2 ⟨rfl, hr2, hg2⟩; have HR2 := Lib.hid hr2; have HW2 := Lib.hid (grown_trans HW.out hg2); clear hr2 hg2)
        go_roundw
        case rel => exact ⟨k + 1, _, hlt, by go_num, HE3, HG3, HR2, HW2⟩
        case measure => simp [intOf]; omega
      | false =>
        rw [hb] at HC HE2
        have HE3 := Lib.hid (HE2.out.trans (if_neg Bool.false_ne_true))
        clear HE2 HGE
        go_wp2_with (go_at_call 56; refine HC.out.mono ?_; rintro r w2 ⟨rfl, hr2, hg2⟩; have HR2 := Lib.hid hr2; have HW2 := Lib.hid (grown_trans HW.out hg2); clear hr2 hg2)
        go_ret
        refine ⟨k, rfl, ?_, ?_, HW2.out⟩
        · rw [HE3.out]; simp
        · rw [HE3.out]; exact HR2.out
    · obtain rfl : k = ks.length := by omega
      have HE2 := Lib.hid (show wkL f s n ks = (true, n') by rw [HE.out, List.drop_length, wkL_nil])
      go_wp2_with fail
      go_ret
      exact ⟨-1, rfl, by rw [HE2.out]; rfl, by rw [HE2.out]; exact HRn.out, HW.out⟩
set_option maxRecDepth 100000 in
set_option maxHeartbeats 8000000 in
theorem contains_any (hV : Vis Q F cap row R good f s) (vb : Nat) (ks : List Ex) (sv : Value) (n : Nat) (w : World) (hl : Lay w sv ks) (hR : R n w) (hg : good n) (hlen : ks.length ≤ 1000000)
    (hk : ∀ (k : Ex), k ∈ ks → ∀ (n' : Nat) (kv : Value) (W : World), good n' → R n' W → w.grownBy W row → Lay W kv k.kids → Calls Tryz.prog 56 #[.agg #[.int .i64 k.op, .string k.name, .string k.value, .int .i64 k.n, .int .i64 k.extra, kv], .pointer (some ⟨vb, 0, none⟩)] W fun r W' => r = .returned (.bool (!(wkE f s n' k).1)) ∧ R (wkE f s n' k).2 W' ∧ W.grownBy W' row) :
    Calls Tryz.prog 55 #[sv, .func (.func 56) #[] #[.pointer (some ⟨vb, 0, none⟩)]] w fun r W' => r = .returned (.bool (!(wkL f s n ks).1)) ∧ R (wkL f s n ks).2 W' ∧ w.grownBy W' row := by
  have HI := Lib.hid (idx_any hV vb ks sv n w hl hR hg hlen hk)
  obtain ⟨A, c, rfl, hc⟩ := hl.slice
  clear hl hR hg hk
  go_enter Tryz.func55, Tryz.ntmps55
  go_wp2_with (go_at_call 88; refine HI.out.mono ?_; rintro r w1 ⟨j, rfl, hj, hr, hg⟩; have HJ := Lib.hid hj; have HF := Lib.hid (⟨hr, hg⟩ : _ ∧ _); clear hj hr hg)
  go_ret
  exact ⟨ret_bool HJ.out, HF.out.1, HF.out.2⟩
set_option maxRecDepth 100000 in
set_option maxHeartbeats 8000000 in
theorem wk1_any (hV : Vis Q F cap row R good f s) (vb : Nat) (k : Ex) (n : Nat) (kv : Value) (W : World) (hvb : Has W vb 63 #[.func (.func F) #[] cap]) (hR : R n W) (hl : Lay W kv k.kids)
    (hc : ∀ W, R n W → Lay W kv k.kids → Calls Tryz.prog 29 #[.agg #[.int .i64 k.op, .string k.name, .string k.value, .int .i64 k.n, .int .i64 k.extra, kv], .func (.func F) #[] cap] W fun r W' => r = .returned (.bool (wkE f s n k).1) ∧ R (wkE f s n k).2 W' ∧ W.grownBy W' row) :
    Calls Tryz.prog 56 #[.agg #[.int .i64 k.op, .string k.name, .string k.value, .int .i64 k.n, .int .i64 k.extra, kv], .pointer (some ⟨vb, 0, none⟩)] W fun r W' => r = .returned (.bool (!(wkE f s n k).1)) ∧ R (wkE f s n k).2 W' ∧ W.grownBy W' row := by
  have hb : Below W.heap.size W (W.alloc (.cells #[.int .i64 k.op, .string k.name, .string k.value, .int .i64 k.n, .int .i64 k.extra, kv] 27)) := (Below.refl _ _).alloc (Nat.le_refl _) _
  have HC := Lib.hid (hc _ (hV.later _ _ _ hR hb) (hl.later hb))
  have HB := Lib.hid (grown_of_below (row := row) hb)
  have hx := Has.new W 27 #[.int .i64 k.op, .string k.name, .string k.value, .int .i64 k.n, .int .i64 k.extra, kv]
  obtain ⟨d, g⟩ := (hvb.alloc (.cells #[.int .i64 k.op, .string k.name, .string k.value, .int .i64 k.n, .int .i64 k.extra, kv] 27)).facts
  obtain ⟨A, c, rfl, _⟩ := hl.slice
  obtain ⟨d2, g2⟩ := hvb.facts
  have hlt := hvb.lt
  clear hc hV hR hl hb hx
  go_enter Tryz.func56, Tryz.ntmps56
  go_wp2_with (go_at_call 29; refine HC.out.mono ?_; rintro r w2 ⟨rfl, hr2, hg2⟩; have HR2 := Lib.hid hr2; have HW2 := Lib.hid (grown_trans HB.out hg2); clear hr2 hg2)
  go_ret
  exact ⟨rfl, HR2.out, HW2.out⟩
set_option maxRecDepth 100000 in
set_option maxHeartbeats 8000000 in
/-- walk of a condition of at most m nodes. -/
theorem walk_rec (hV : Vis Q F cap row R good f s) : ∀ (m : Nat) (e : Ex) (n : Nat) (kv : Value) (w : World), cnt e ≤ m → m ≤ 1000000 → Q e → good n → R n w → Lay w kv e.kids →
    Calls Tryz.prog 29 #[.agg #[.int .i64 e.op, .string e.name, .string e.value, .int .i64 e.n, .int .i64 e.extra, kv], .func (.func F) #[] cap] w fun r W' => r = .returned (.bool (wkE f s n e).1) ∧ R (wkE f s n e).2 W' ∧ w.grownBy W' row := by
  intro m
  induction m with
  | zero => intro e n kv w hc; have := cnt_pos e; omega
  | succ m ih =>
    intro e n kv w hc hm hq hg hR hl
    have hF := hV.enters
    have hb1 : Below w.heap.size w ((w.alloc (.cells #[.int .i64 e.op, .string e.name, .string e.value, .int .i64 e.n, .int .i64 e.extra, kv] 27)).alloc (.cells #[.func (.func F) #[] cap] 63)) := ((Below.refl _ _).alloc (Nat.le_refl _) _).alloc (by simp) _
    have HC := Lib.hid (hV.call n e kv _ hq hg (hV.later _ _ _ hR hb1) (hl.later hb1))
    have hE := wkE_eq f s n e
    obtain ⟨A, c, rfl, _⟩ := hl.slice
    have hx1 := (Has.new w 27 #[.int .i64 e.op, .string e.name, .string e.value, .int .i64 e.n, .int .i64 e.extra, .slice A e.kids.length c]).alloc (.cells #[.func (.func F) #[] cap] 63)
    have hv1 : Has ((w.alloc (.cells #[.int .i64 e.op, .string e.name, .string e.value, .int .i64 e.n, .int .i64 e.extra, .slice A e.kids.length c] 27)).alloc (.cells #[.func (.func F) #[] cap] 63)) (w.heap.size + 1) 63 #[.func (.func F) #[] cap] := by
      rw [show w.heap.size + 1 = (w.alloc (.cells #[.int .i64 e.op, .string e.name, .string e.value, .int .i64 e.n, .int .i64 e.extra, .slice A e.kids.length c] 27)).heap.size from (World.size_alloc _ _).symm]
      exact Has.new _ _ _
    have hne : ∀ b, row = some b → b < w.heap.size := fun b hb => (hV.small n w hR b hb).1
    have HB1 := Lib.hid (grown_of_below (row := row) hb1)
    have HRb := Lib.hid hR
    have HBb := Lib.hid hb1
    have hkids : ∀ (k : Ex), k ∈ e.kids → cnt k ≤ m := fun k hk => by have := cnt_kid hk; omega
    have hlen : e.kids.length ≤ 1000000 := by
      have := len_cnts e.kids
      have := cnt_eq e
      omega
    have HX1 := Lib.hid hx1
    have HV1 := Lib.hid hv1
    have HL1 := Lib.hid (hl.later hb1)
    clear hx1 hv1 hb1 hl
    obtain ⟨dx, gx⟩ := HX1.out.facts
    obtain ⟨dv, gv⟩ := HV1.out.facts
    cases hf : f n e with
    | true =>
      have HE := Lib.hid (show wkE f s n e = wkL f s (s n e) e.kids by rw [hE, if_pos hf])
      have HG := Lib.hid (hV.keep n e hg hf)
      rw [hf] at HC
      clear hE hR hf
      go_enter Tryz.func29, Tryz.ntmps29
      go_wp2_with (first
        | ((with_reducible refine HC.out.mono ?_); clear HC dx gx dv gv; rintro r w2 ⟨rfl, hr2, hg2⟩; have HX2 := Lib.hid (HX1.out.grown hg2 (fun e => by have := hne _ e.symm; omega)); have HV2 := Lib.hid (HV1.out.grown hg2 (fun e => by have := hne _ e.symm; omega)); have HL2 := Lib.hid (HL1.out.grown hg2 (fun b e => by have h5 := hne b e; intro o v ho hv; exact (hV.small _ _ (hV.later _ _ _ HRb.out HBb.out) b e).2 o v ho hv)); have HR2 := Lib.hid hr2; have HW2 := Lib.hid (grown_trans HB1.out hg2); obtain ⟨dx, gx⟩ := HX2.out.facts; clear hr2 hg2)
        | (go_at_call 55; refine (contains_any hV (w.heap.size + 1) e.kids _ (s n e) _ HL2.out HR2.out HG.out hlen (fun k hk n' kv' W a1 a2 a3 a4 => wk1_any hV (w.heap.size + 1) k n' kv' W (HV2.out.grown a3 (fun e => by have := hne _ e.symm; omega)) a2 a4 (fun W2 b1 b2 => ih k n' kv' W2 (hkids k hk) (by omega) (hV.kids e hq k hk) a1 b1 b2))).mono ?_; rintro r w3 ⟨rfl, hr3, hg3⟩; have HR3 := Lib.hid hr3; have HW3 := Lib.hid (grown_trans HW2.out hg3); clear hr3 hg3))
      go_ret
      exact ⟨ret_bool (by rw [HE.out]), by rw [HE.out]; exact HR3.out, HW3.out⟩
    | false =>
      have HE := Lib.hid (show wkE f s n e = (false, s n e) by rw [hE, if_neg (by rw [hf]; exact Bool.false_ne_true)])
      rw [hf] at HC
      clear hE hR hf
      go_enter Tryz.func29, Tryz.ntmps29
      go_wp2_with ((with_reducible refine HC.out.mono ?_); clear HC; rintro r w2 ⟨rfl, hr2, hg2⟩; have HR2 := Lib.hid hr2; have HW2 := Lib.hid (grown_trans HB1.out hg2); clear hr2 hg2)
      go_ret
      exact ⟨ret_bool (by rw [HE.out]), by rw [HE.out]; exact HR2.out, HW2.out⟩
end
end Go.Proofs.YtcpakaiblelmlaaGreatDoor
namespace Go.Proofs.YtcpakaiblelmlaaGreatDoor
open Go Go.RowKit
theorem trule_iff (a b : ByteArray) (c : Ex) : ruleB ⟨a, b, c⟩ = true ↔ nameB a = true ∧ nameB b = true ∧ cnt c ≤ 60 ∧ allB c = true := by
  unfold ruleB condB
  simp only [Bool.and_eq_true, decide_eq_true_eq]
theorem trule_kid {r : Ru} (h : ruleB r = true) {k : Ex} (hk : k ∈ r.cond.kids) : ruleB ⟨r.name, r.kind, k⟩ = true := by
  obtain ⟨a, b, c⟩ := r
  rw [trule_iff] at *
  obtain ⟨h1, h2, h3, h4⟩ := h
  have := cnt_kid hk
  rw [allB_eq, Bool.and_eq_true, allsB_all] at h4
  exact ⟨h1, h2, by dsimp only at this; omega, List.all_eq_true.1 h4.2 k hk⟩
theorem sortD_nil : sortD [] = [] := by unfold sortD nubL; simp
theorem sortD_one (x : ByteArray) : sortD [x] = [x] :=
  inc_unique (sortD_inc _) (List.pairwise_singleton ..) fun _y => mem_sortD
theorem sortD_len (l : List ByteArray) : (sortD l).length = (nubL l).length := by
  unfold sortD
  rw [List.length_map, List.length_mergeSort, List.length_map]
/-- A valid condition's currencies: of a node without kids its own name, or none. -/
theorem cur_leaf {e : Ex} (h0 : e.kids = []) : limL e = if e.op = 5 ∨ e.op = 6 then [e.name] else [] := by
  rw [limL_eq, h0, limsL_nil, List.append_nil]
theorem cur_node {e : Ex} (h : ruleB ⟨⟨#[114]⟩, ⟨#[107]⟩, e⟩ = true) (h0 : e.kids ≠ []) : limL e = limsL e.kids := by
  rw [limL_eq, if_neg, List.nil_append]
  intro ho
  rw [trule_iff] at h
  have h4 := h.2.2.2
  rw [allB_eq, Bool.and_eq_true] at h4
  have h5 : NodeOk e.op e.name e.value e.n e.extra e.kids.length := of_decide_eq_true h4.1
  have h6 := h5.2.1
  rw [if_neg (by omega), if_neg (by omega)] at h6
  exact h0 (List.eq_nil_of_length_eq_zero h6)
/-- The names seen behind some kids, in the order of the first time. -/
def seenL (ks : List Ex) (i : Nat) : List ByteArray := nubL (limsL (ks.take i))
theorem limsL_app : ∀ (a b : List Ex), limsL (a ++ b) = limsL a ++ limsL b
  | [], b => by rw [List.nil_append, limsL_nil, List.nil_append]
  | e :: a, b => by rw [List.cons_append, limsL_cons, limsL_cons, limsL_app a b, List.append_assoc]
theorem nubL_foldl (l k : List ByteArray) : nubL (l ++ k) = k.foldl (fun a x => if inS a x then a else a ++ [x]) (nubL l) := by
  unfold nubL
  rw [List.foldl_append]
/-- Names seen one after the other: whatever their order, as many as the different ones. -/
theorem nub_count {a b : List ByteArray} (h : ∀ x, x ∈ a ↔ x ∈ b) : (nubL a).length = (nubL b).length := by
  obtain ⟨a1, a2⟩ := nubL_all a
  obtain ⟨b1, b2⟩ := nubL_all b
  exact ((List.perm_ext_iff_of_nodup a1 b1).2 fun x => (a2 x).trans ((h x).trans (b2 x).symm)).length_eq
end Go.Proofs.YtcpakaiblelmlaaGreatDoor
namespace Go.Proofs.YtcpakaiblelmlaaGreatDoor
open Go Go.RowKit
def pairEnc (s : ByteArray × ByteArray) : Value := .agg #[.string s.1, .string s.2]
theorem ite_decT {p : Prop} [Decidable p] : (if p then true else false) = decide p := by cases h : decide p <;> simp_all
set_option maxRecDepth 100000 in
theorem pair_equal (w : World) (e f : ByteArray × ByteArray) : (Op.equal 119 (pairEnc e) (pairEnc f)).run Tryz.prog w = .ok (decide (e = f)) w := by
  obtain ⟨a, b⟩ := e
  obtain ⟨c, d⟩ := f
  obtain ⟨i, hi⟩ : ∃ i, Tryz.prog.info? 9 = some i := by
    cases h : Tryz.prog.info? 9 with
    | some i => exact ⟨i, rfl⟩
    | none => exact absurd h (by decide +kernel)
  have hc : Tryz.prog.cellsOf 9 = 1 := by kernel_rfl
  show (Op.equalIn (9999 + 1) 119 (.agg #[.string a, .string b]) (.agg #[.string c, .string d])).run Tryz.prog w = _
  rw [run_equalIn_array w 9999 _ _ Tryz.underlying119 hi, hc]
  show (Op.eqItems (9998 + 1) 9 1 _ _ [0, 1]).run Tryz.prog w = _
  have hs : ∀ (x y : ByteArray), (Op.equalIn (9998 + 1) 9 (.string x) (.string y)).run Tryz.prog w = .ok (decide (x = y)) w := fun x y => by
    rw [run_equalIn_string w 9998 9 x y Tryz.underlying9]
    refine congrArg (fun b => Result.ok b w) ?_
    rw [Bool.eq_iff_iff, decide_eq_true_eq, beq_iff_eq, Lib.toList_data, Lib.toList_data]
    exact ⟨fun h => by cases x; cases y; simpa using h, fun h => by rw [h]⟩
  have p0 : ∀ (x y : ByteArray), (part 9 #[.string x, .string y] (0 * 1)).run Tryz.prog w = .ok (.string x) w := fun x y => by kernel_rfl
  have p1 : ∀ (x y : ByteArray), (part 9 #[.string x, .string y] (1 * 1)).run Tryz.prog w = .ok (.string y) w := fun x y => by kernel_rfl
  simp only [Op.eqItems, Sem.run_bind, p0, hs, Result.andThen_ok]
  by_cases h1 : a = c
  · subst h1
    rw [decide_eq_true rfl]
    by_cases h2 : b = d
    · subst h2
      simp [p1, hs]
    · simp [p1, hs, h2]
  · simp [h1]
set_option maxRecDepth 100000 in
theorem pair_check (w : World) (em : Bool) (e : ByteArray × ByteArray) : (Instr.checkKey em 10000 119 (pairEnc e)).run Tryz.prog w = .ok () w := by
  obtain ⟨a, b⟩ := e
  kernel_rfl
theorem pair_keying : Keying Tryz.prog 119 (ByteArray × ByteArray) pairEnc where
  check := pair_check
  inj a b h := by
    rcases a with ⟨a1, a2⟩
    rcases b with ⟨b1, b2⟩
    simpa [pairEnc] using h
  stays w e := by
    have h : Instr.sameBits 10000 (pairEnc e) (pairEnc e) = true := by simp [pairEnc, Instr.sameBits, beq_toListBytes]
    simp [Instr.keyThatStays, h]
  find w a es m h := by
    have hf := findAsking_run pair_equal w a es m 0 h
    have : (Instr.findKey 119 (pairEnc a) es).run Tryz.prog w = (Instr.findAsking 119 (pairEnc a) es 0).run Tryz.prog w :=
      run_findKey_eq _ (by rw [Tryz.underlying119]) _ _
    rw [this, hf]
    simp
end Go.Proofs.YtcpakaiblelmlaaGreatDoor
namespace Go.Proofs.YtcpakaiblelmlaaGreatDoor
open Go Go.RowKit
theorem kindName_any (s : ByteArray) (b : Bool) (A : Option Addr) (n c : Nat) (w : World) :
    Calls Tryz.prog 34 #[.agg #[.string s, .bool b, .slice A n c]] w fun e w' => e = .returned (.string s) ∧ Below w.heap.size w w' := by
  go_enter Tryz.func34, Tryz.ntmps34
  go_wp2
  go_ret
  exact ⟨rfl, (Below.refl _ _).alloc (Nat.le_refl _) _⟩

set_option maxRecDepth 100000 in
set_option maxHeartbeats 1000000 in
theorem kindIs_any (s x : ByteArray) (b : Bool) (A : Option Addr) (n c g1 g2 : Nat) (w : World) (h1 : Has w g1 69 #[.func (.func 34) #[] #[]]) (h2 : Has w g2 9 #[.string x]) :
    Calls Tryz.prog 63 #[.agg #[.string s, .bool b, .slice A n c], .pointer (some ⟨g1, 0, none⟩), .pointer (some ⟨g2, 0, none⟩)] w fun e w' => e = .returned (.bool (s.toList == x.toList)) ∧ Below w.heap.size w w' := by
  have c1 := (h1.alloc (.cells #[.string s, .bool b, .slice A n c] 38)).cell 0
  have c2 := (h2.alloc (.cells #[.string s, .bool b, .slice A n c] 38)).cell 0
  have H2 := Lib.hid (h2.alloc (.cells #[.string s, .bool b, .slice A n c] 38))
  have hl := h2.lt
  go_enter Tryz.func63, Tryz.ntmps63
  go_wp2_with fail
  go_region_with (go_at_call 34; refine (kindName_any s b A n c _).mono ?_; rintro e w1 ⟨rfl, hb1⟩; have hb1 : Below (w.alloc (.cells #[.string s, .bool b, .slice A n c] 38)).heap.size (w.alloc (.cells #[.string s, .bool b, .slice A n c] 38)) w1 := ⟨hb1.os, hb1.tape, hb1.output, hb1.size, hb1.block⟩; have c3 := (H2.out.below hb1 (by simp; omega)).cell 0)
  all_goals (try go_wp2_with fail)
  all_goals (go_ret; exact ⟨rfl, by have := ((Below.refl w.heap.size w).alloc (Nat.le_refl _) (.cells #[.string s, .bool b, .slice A n c] 38)).trans (hb1.mono (by simp)); exact ⟨this.os, this.tape, this.output, this.size, this.block⟩⟩)

set_option maxRecDepth 100000 in
set_option maxHeartbeats 1000000 in
theorem kindIdx_any (v : Value) (l : List Kd) (x : ByteArray) (g1 g2 : Nat) (w : World) (hv : Cat w v l) (hl : l.length ≤ 100000) (h1 : Has w g1 69 #[.func (.func 34) #[] #[]]) (h2 : Has w g2 9 #[.string x]) :
    Calls Tryz.prog 62 #[v, .func (.func 63) #[] #[.pointer (some ⟨g1, 0, none⟩), .pointer (some ⟨g2, 0, none⟩)]] w fun e w' => e = .returned (.int .i64 (ixL (l.map Kd.name) x)) ∧ Below w.heap.size w w' := by
  have HV := Lib.hid hv
  have H1 := Lib.hid h1
  have H2 := Lib.hid h2
  have l1 := h1.lt
  have l2 := h2.lt
  obtain ⟨A, c, rfl, hn⟩ := hv.form
  clear hv h1 h2
  go_enter Tryz.func62, Tryz.ntmps62
  go_wp2_with fail
  go_loopw [8] (fun i wr => ∃ k : Nat, k ≤ l.length ∧ i = .int .i64 k ∧ Hid (∀ j, j < k → (l.map Kd.name).getD j eS ≠ x) ∧ Below w.heap.size w wr) (fun i _ => l.length - (intOf i).toNat)
  case atStart => exact ⟨0, Nat.zero_le _, rfl, fun j hj => absurd hj (Nat.not_lt_zero _), Below.refl _ _⟩
  case round =>
    obtain ⟨k, hk, rfl, hrel, hb⟩ := hrel
    by_cases hlt : k < l.length
    · obtain ⟨b, o, c', cs, he, _, ⟨sv, rfl, hsv⟩, _, hrg⟩ := HV.out.get hlt noKd
      injection he with e1 e2 e3
      subst e1; subst e3
      obtain ⟨A2, c2, rfl, hn2⟩ := hsv.form
      have hrg' := range_later hrg hb
      have hg : (l.map Kd.name).getD k eS = (l.getD k noKd).name := by
        rw [List.getD_eq_getElem?_getD, List.getElem?_map, List.getD_eq_getElem?_getD, List.getElem?_eq_getElem hlt]; rfl
      have hit := Lib.hid (fun he => ixL_hit (l := l.map Kd.name) (x := x) (by simpa using hlt) hrel.out he)
      have hno : Hid ((l.map Kd.name).getD k eS ≠ x → ∀ j, j < k + 1 → (l.map Kd.name).getD j eS ≠ x) := fun h j hj => by
        rcases Nat.lt_or_ge j k with h1 | h1
        · exact hrel.out j h1
        · obtain rfl : j = k := by omega
          exact h
      rw [hg] at hit hno
      have HB := Lib.hid hb
      have q1 := H1.out.below hb l1
      have q2 := H2.out.below hb l2
      clear hrg hb hsv hg
      generalize l.getD k noKd = q at *
      obtain ⟨s, vb, ss⟩ := q
      have hbe := bytes_beq s x
      cases hN : (s.toList == x.toList)
      · have HN := Lib.hid hN
        have HE := Lib.hid (show s ≠ x by rw [hN] at hbe; exact of_decide_eq_false hbe.symm)
        clear hbe
        go_wp2_with (first | ((with_reducible show wpList _ _ _ (Oper.mk (some 15) _ _ _ _ _ :: _) _ _); refine wpList_load_mid rfl 38 _ rfl b (o + k * 3) rfl _ _ hrg' Tryz.underlying38 rfl rfl ?_) | (go_at_call 63; refine (kindIs_any s x vb A2 _ c2 g1 g2 _ q1 q2).mono ?_; rintro e w1 ⟨rfl, hb1⟩; rw [HN.out]))
        go_roundw
        case rel => exact ⟨k + 1, by omega, by go_num, hno.out HE.out, HB.out.trans (hb1.mono HB.out.size)⟩
        case measure => simp [intOf]; omega
      · have HN := Lib.hid hN
        have HE := Lib.hid (show s = x by rw [hN] at hbe; exact of_decide_eq_true hbe.symm)
        clear hbe
        go_wp2_with (first | ((with_reducible show wpList _ _ _ (Oper.mk (some 15) _ _ _ _ _ :: _) _ _); refine wpList_load_mid rfl 38 _ rfl b (o + k * 3) rfl _ _ hrg' Tryz.underlying38 rfl rfl ?_) | (go_at_call 63; refine (kindIs_any s x vb A2 _ c2 g1 g2 _ q1 q2).mono ?_; rintro e w1 ⟨rfl, hb1⟩; rw [HN.out]))
        go_ret
        exact ⟨ret_int (hit.out HE.out).symm, HB.out.trans (hb1.mono HB.out.size)⟩
    · obtain rfl : k = l.length := by omega
      have hmiss := Lib.hid (ixL_miss (l := l.map Kd.name) (x := x) (fun j hj => hrel.out j (by simpa using hj)))
      go_wp2_with fail
      go_ret
      exact ⟨ret_int hmiss.out.symm, hb⟩

set_option maxRecDepth 100000 in
theorem kindIndex_any (v : Value) (l : List Kd) (x : ByteArray) (w : World) (hv : Cat w v l) (hl : l.length ≤ 100000) :
    Calls Tryz.prog 33 #[v, .func (.func 34) #[] #[], .string x] w fun e w' => e = .returned (.int .i64 (ixL (l.map Kd.name) x)) ∧ Below w.heap.size w w' := by
  have h1 : Has ((w.alloc (.cells #[.func (.func 34) #[] #[]] 69)).alloc (.cells #[.string x] 9)) w.heap.size 69 #[.func (.func 34) #[] #[]] := (Has.new w _ _).alloc _
  have h2 : Has ((w.alloc (.cells #[.func (.func 34) #[] #[]] 69)).alloc (.cells #[.string x] 9)) (w.heap.size + 1) 9 #[.string x] := by
    have := Has.new (w.alloc (.cells #[.func (.func 34) #[] #[]] 69)) 9 #[.string x]
    simpa using this
  have hb : Below w.heap.size w ((w.alloc (.cells #[.func (.func 34) #[] #[]] 69)).alloc (.cells #[.string x] 9)) := ((Below.refl _ _).alloc (Nat.le_refl _) _).alloc (by simp) _
  have HV := Lib.hid (hv.below hb)
  have H1 := Lib.hid h1
  have H2 := Lib.hid h2
  have HB := Lib.hid hb
  obtain ⟨A, c, rfl, hn⟩ := hv.form
  clear hv h1 h2 hb
  go_enter Tryz.func33, Tryz.ntmps33
  go_wp2_with (go_at_call 62; refine (kindIdx_any _ l x _ _ _ HV.out hl H1.out H2.out).mono ?_; rintro e w1 ⟨rfl, hb1⟩)
  go_ret
  exact ⟨rfl, HB.out.trans (hb1.mono (by simp; omega))⟩
end Go.Proofs.YtcpakaiblelmlaaGreatDoor
namespace Go.Proofs.YtcpakaiblelmlaaGreatDoor
open Go Go.RowKit
theorem slotName_any (s : ByteArray) (m : Int) (A : Option Addr) (n c : Nat) (w : World) :
    Calls Tryz.prog 102 #[.agg #[.string s, .slice A n c, .int .i64 m]] w fun e w' => e = .returned (.string s) ∧ Below w.heap.size w w' := by
  go_enter Tryz.func102, Tryz.ntmps102
  go_wp2
  go_ret
  exact ⟨rfl, (Below.refl _ _).alloc (Nat.le_refl _) _⟩

set_option maxRecDepth 100000 in
set_option maxHeartbeats 1000000 in
theorem slotIs_any (s x : ByteArray) (m : Int) (A : Option Addr) (n c g1 g2 : Nat) (w : World) (h1 : Has w g1 141 #[.func (.func 102) #[] #[]]) (h2 : Has w g2 9 #[.string x]) :
    Calls Tryz.prog 127 #[.agg #[.string s, .slice A n c, .int .i64 m], .pointer (some ⟨g1, 0, none⟩), .pointer (some ⟨g2, 0, none⟩)] w fun e w' => e = .returned (.bool (s.toList == x.toList)) ∧ Below w.heap.size w w' := by
  have c1 := (h1.alloc (.cells #[.string s, .slice A n c, .int .i64 m] 60)).cell 0
  have c2 := (h2.alloc (.cells #[.string s, .slice A n c, .int .i64 m] 60)).cell 0
  have H2 := Lib.hid (h2.alloc (.cells #[.string s, .slice A n c, .int .i64 m] 60))
  have hl := h2.lt
  go_enter Tryz.func127, Tryz.ntmps127
  go_wp2_with fail
  go_region_with (go_at_call 102; refine (slotName_any s m A n c _).mono ?_; rintro e w1 ⟨rfl, hb1⟩; have hb1 : Below (w.alloc (.cells #[.string s, .slice A n c, .int .i64 m] 60)).heap.size (w.alloc (.cells #[.string s, .slice A n c, .int .i64 m] 60)) w1 := ⟨hb1.os, hb1.tape, hb1.output, hb1.size, hb1.block⟩; have c3 := (H2.out.below hb1 (by simp; omega)).cell 0)
  all_goals (try go_wp2_with fail)
  all_goals (go_ret; exact ⟨rfl, by have := ((Below.refl w.heap.size w).alloc (Nat.le_refl _) (.cells #[.string s, .slice A n c, .int .i64 m] 60)).trans (hb1.mono (by simp)); exact ⟨this.os, this.tape, this.output, this.size, this.block⟩⟩)

set_option maxRecDepth 100000 in
set_option maxHeartbeats 1000000 in
theorem slotIdx_any (v : Value) (l : List Sk) (x : ByteArray) (g1 g2 : Nat) (w : World) (hv : RdL 3 SkR w v l) (hl : l.length ≤ 100000) (h1 : Has w g1 141 #[.func (.func 102) #[] #[]]) (h2 : Has w g2 9 #[.string x]) :
    Calls Tryz.prog 84 #[v, .func (.func 127) #[] #[.pointer (some ⟨g1, 0, none⟩), .pointer (some ⟨g2, 0, none⟩)]] w fun e w' => e = .returned (.int .i64 (ixL (l.map Sk.name) x)) ∧ Below w.heap.size w w' := by
  have HV := Lib.hid hv
  have H1 := Lib.hid h1
  have H2 := Lib.hid h2
  have l1 := h1.lt
  have l2 := h2.lt
  obtain ⟨A, c, rfl, hn⟩ := hv.form
  clear hv h1 h2
  go_enter Tryz.func84, Tryz.ntmps84
  go_wp2_with fail
  go_loopw [8] (fun i wr => ∃ k : Nat, k ≤ l.length ∧ i = .int .i64 k ∧ Hid (∀ j, j < k → (l.map Sk.name).getD j eS ≠ x) ∧ Below w.heap.size w wr) (fun i _ => l.length - (intOf i).toNat)
  case atStart => exact ⟨0, Nat.zero_le _, rfl, fun j hj => absurd hj (Nat.not_lt_zero _), Below.refl _ _⟩
  case round =>
    obtain ⟨k, hk, rfl, hrel, hb⟩ := hrel
    by_cases hlt : k < l.length
    · obtain ⟨b, o, c', cs, he, _, ⟨sv, rfl, hsv⟩, _, hrg⟩ := HV.out.get hlt noSk
      injection he with e1 e2 e3
      subst e1; subst e3
      have hsv2 := hsv; obtain ⟨A2, c2, rfl, hn2, _⟩ := hsv2
      have hrg' := range_later hrg hb
      have hg : (l.map Sk.name).getD k eS = (l.getD k noSk).name := by
        rw [List.getD_eq_getElem?_getD, List.getElem?_map, List.getD_eq_getElem?_getD, List.getElem?_eq_getElem hlt]; rfl
      have hit := Lib.hid (fun he => ixL_hit (l := l.map Sk.name) (x := x) (by simpa using hlt) hrel.out he)
      have hno : Hid ((l.map Sk.name).getD k eS ≠ x → ∀ j, j < k + 1 → (l.map Sk.name).getD j eS ≠ x) := fun h j hj => by
        rcases Nat.lt_or_ge j k with h1 | h1
        · exact hrel.out j h1
        · obtain rfl : j = k := by omega
          exact h
      rw [hg] at hit hno
      have HB := Lib.hid hb
      have q1 := H1.out.below hb l1
      have q2 := H2.out.below hb l2
      clear hrg hb hsv hg
      generalize l.getD k noSk = q at *
      obtain ⟨s, ss, vb⟩ := q
      have hbe := bytes_beq s x
      cases hN : (s.toList == x.toList)
      · have HN := Lib.hid hN
        have HE := Lib.hid (show s ≠ x by rw [hN] at hbe; exact of_decide_eq_false hbe.symm)
        clear hbe
        go_wp2_with (first | ((with_reducible show wpList _ _ _ (Oper.mk (some 15) _ _ _ _ _ :: _) _ _); refine wpList_load_mid rfl 60 _ rfl b (o + k * 3) rfl _ _ hrg' Tryz.underlying60 rfl rfl ?_) | (go_at_call 127; refine (slotIs_any s x vb A2 _ c2 g1 g2 _ q1 q2).mono ?_; rintro e w1 ⟨rfl, hb1⟩; rw [HN.out]))
        go_roundw
        case rel => exact ⟨k + 1, by omega, by go_num, hno.out HE.out, HB.out.trans (hb1.mono HB.out.size)⟩
        case measure => simp [intOf]; omega
      · have HN := Lib.hid hN
        have HE := Lib.hid (show s = x by rw [hN] at hbe; exact of_decide_eq_true hbe.symm)
        clear hbe
        go_wp2_with (first | ((with_reducible show wpList _ _ _ (Oper.mk (some 15) _ _ _ _ _ :: _) _ _); refine wpList_load_mid rfl 60 _ rfl b (o + k * 3) rfl _ _ hrg' Tryz.underlying60 rfl rfl ?_) | (go_at_call 127; refine (slotIs_any s x vb A2 _ c2 g1 g2 _ q1 q2).mono ?_; rintro e w1 ⟨rfl, hb1⟩; rw [HN.out]))
        go_ret
        exact ⟨ret_int (hit.out HE.out).symm, HB.out.trans (hb1.mono HB.out.size)⟩
    · obtain rfl : k = l.length := by omega
      have hmiss := Lib.hid (ixL_miss (l := l.map Sk.name) (x := x) (fun j hj => hrel.out j (by simpa using hj)))
      go_wp2_with fail
      go_ret
      exact ⟨ret_int hmiss.out.symm, hb⟩

set_option maxRecDepth 100000 in
theorem slotIndex_any (v : Value) (l : List Sk) (x : ByteArray) (w : World) (hv : RdL 3 SkR w v l) (hl : l.length ≤ 100000) :
    Calls Tryz.prog 101 #[v, .func (.func 102) #[] #[], .string x] w fun e w' => e = .returned (.int .i64 (ixL (l.map Sk.name) x)) ∧ Below w.heap.size w w' := by
  have h1 : Has ((w.alloc (.cells #[.func (.func 102) #[] #[]] 141)).alloc (.cells #[.string x] 9)) w.heap.size 141 #[.func (.func 102) #[] #[]] := (Has.new w _ _).alloc _
  have h2 : Has ((w.alloc (.cells #[.func (.func 102) #[] #[]] 141)).alloc (.cells #[.string x] 9)) (w.heap.size + 1) 9 #[.string x] := by
    have := Has.new (w.alloc (.cells #[.func (.func 102) #[] #[]] 141)) 9 #[.string x]
    simpa using this
  have hb : Below w.heap.size w ((w.alloc (.cells #[.func (.func 102) #[] #[]] 141)).alloc (.cells #[.string x] 9)) := ((Below.refl _ _).alloc (Nat.le_refl _) _).alloc (by simp) _
  have HV := Lib.hid (hv.below SkR.stays hb)
  have H1 := Lib.hid h1
  have H2 := Lib.hid h2
  have HB := Lib.hid hb
  obtain ⟨A, c, rfl, hn⟩ := hv.form
  clear hv h1 h2 hb
  go_enter Tryz.func101, Tryz.ntmps101
  go_wp2_with (go_at_call 84; refine (slotIdx_any _ l x _ _ _ HV.out hl H1.out H2.out).mono ?_; rintro e w1 ⟨rfl, hb1⟩)
  go_ret
  exact ⟨rfl, HB.out.trans (hb1.mono (by simp; omega))⟩
end Go.Proofs.YtcpakaiblelmlaaGreatDoor
namespace Go.Proofs.YtcpakaiblelmlaaGreatDoor
open Go Go.RowKit
/-- The values that a kind's, a slot's cells make. -/
def kdV (k : Kd) (v : Value) : Value := .agg #[.string k.name, .bool k.veh, v]
def skV (s : Sk) (v : Value) : Value := .agg #[.string s.name, v, .int .i64 s.norm]
set_option maxRecDepth 100000 in
set_option maxHeartbeats 1000000 in
theorem find_any (w0 : World) (v : Value) (c : List Kd) (x : ByteArray) (w : World) (hb0 : Below w0.heap.size w0 w) (hv : Cat w0 v c) (hl : c.length ≤ 100000) :
    Calls Tryz.prog 14 #[.agg #[v], .string x] w fun e w' => ∃ A m, e = .returned (.tuple #[.agg #[.string ((kfind c x).getD noKd).name, .bool ((kfind c x).getD noKd).veh, .slice A ((kfind c x).getD noKd).slots.length m], .bool (kfind c x).isSome]) ∧ RdL 3 SkR w0 (.slice A ((kfind c x).getD noKd).slots.length m) ((kfind c x).getD noKd).slots ∧ Below w.heap.size w w' := by
  obtain ⟨A, cc, rfl, hn⟩ := hv.form
  have hb : Below w.heap.size w ((w.alloc (.cells #[.slice A c.length cc] 24)).alloc (.cells #[.string ⟨#[]⟩, .bool false, .slice none 0 0] 38)) := ((Below.refl _ _).alloc (Nat.le_refl _) _).alloc (by simp) _
  have HV0 := Lib.hid hv
  have HV := Lib.hid (hv.below (hb0.trans (hb.mono hb0.size)))
  have HB := Lib.hid hb
  have HB0 := Lib.hid hb0
  have h1 : Has ((w.alloc (.cells #[.slice A c.length cc] 24)).alloc (.cells #[.string ⟨#[]⟩, .bool false, .slice none 0 0] 38)) w.heap.size 24 #[.slice A c.length cc] := (Has.new w _ _).alloc _
  have h2 : Has ((w.alloc (.cells #[.slice A c.length cc] 24)).alloc (.cells #[.string ⟨#[]⟩, .bool false, .slice none 0 0] 38)) (w.heap.size + 1) 38 #[.string ⟨#[]⟩, .bool false, .slice none 0 0] := by
    have := Has.new (w.alloc (.cells #[.slice A c.length cc] 24)) 38 #[.string ⟨#[]⟩, .bool false, .slice none 0 0]
    simpa using this
  have H1 := Lib.hid h1
  have H2 := Lib.hid h2
  clear hv hb h1 h2 hb0
  have hf := ixL_find Kd.name c x noKd
  generalize hi : ixL (c.map Kd.name) x = ix at hf
  have HI := Lib.hid hi
  clear hi
  rcases hf with ⟨rfl, hf⟩ | ⟨k, rfl, hk, hf⟩
  · have hf' : kfind c x = none := hf
    rw [hf']
    clear hf hf'
    go_enter Tryz.func14, Tryz.ntmps14
    go_wp2_with (go_at_call 33; refine (kindIndex_any _ c x _ HV.out hl).mono ?_; rintro e w1 ⟨rfl, hb1⟩; rw [HI.out]; have q1 := H1.out.below hb1 (by simp; omega); have q2 := H2.out.below hb1 (by simp); obtain ⟨p1, _⟩ := q1.facts; obtain ⟨p2, p3⟩ := q2.facts; have HB1 := Lib.hid hb1; clear hb1 q1 q2)
    refine bodyPost_ret (v := .tuple #[.agg #[.string ⟨#[]⟩, .bool false, .slice none 0 0], .bool false]) (by simp [results, Tryz.results14, go_sem, p2]) rfl ?_
    have hB := HB.out.trans (HB1.out.mono (by simp; omega))
    exact ⟨none, 0, rfl, RdL.nil _ _, by go_grown⟩
  · have hf' : kfind c x = some (c.getD k noKd) := hf
    rw [hf']
    obtain ⟨b, o, c', cs, he, _, ⟨sv, rfl, hsv⟩, _, hrg⟩ := HV0.out.get hk noKd
    injection he with e1 e2 e3
    subst e1; subst e3
    obtain ⟨A2, c2, rfl, hn2⟩ := hsv.form
    have HSV := Lib.hid hsv
    have HRG := Lib.hid hrg
    clear hf hf' hsv hrg
    show Calls _ _ _ _ fun e w' => ∃ A m, e = .returned (.tuple #[.agg #[.string (c.getD k noKd).name, .bool (c.getD k noKd).veh, .slice A (c.getD k noKd).slots.length m], .bool true]) ∧ RdL 3 SkR w0 (.slice A (c.getD k noKd).slots.length m) (c.getD k noKd).slots ∧ Below w.heap.size w w'
    generalize c.getD k noKd = q at *
    obtain ⟨s, vb, ss⟩ := q
    go_enter Tryz.func14, Tryz.ntmps14
    go_wp2_with (first | (go_at_call 33; refine (kindIndex_any _ c x _ HV.out hl).mono ?_; rintro e w1 ⟨rfl, hb1⟩; rw [HI.out]; have q1 := H1.out.below hb1 (by simp; omega); have q2 := H2.out.below hb1 (by simp); obtain ⟨p1, _⟩ := q1.facts; obtain ⟨p2, p3⟩ := q2.facts; have hrg1 := range_later HRG.out (HB0.out.trans ((HB.out.trans (hb1.mono (by simp; omega))).mono HB0.out.size)); have HB1 := Lib.hid hb1; clear hb1 q1 q2) | ((with_reducible show wpList _ _ _ (Oper.mk (some 18) _ _ _ _ _ :: _) _ _); refine wpList_load_mid rfl 38 _ rfl b (o + k * 3) rfl _ _ hrg1 Tryz.underlying38 rfl rfl ?_))
    refine bodyPost_ret (v := .tuple #[.agg #[.string s, .bool vb, .slice A2 ss.length c2], .bool true]) (by simp [results, Tryz.results14, go_sem, p2]) rfl ?_
    have hB := HB.out.trans (HB1.out.mono (by simp; omega))
    exact ⟨A2, c2, rfl, HSV.out, by go_grown⟩
theorem kfind_short {c : List Kd} (hs : ∀ k ∈ c, k.short) (x : ByteArray) : ((kfind c x).getD noKd).short := by
  cases h : kfind c x with
  | none => exact ⟨by decide, by decide, fun s hs => by cases hs⟩
  | some k => exact hs k (List.mem_of_find?_eq_some h)
theorem sfind_short {l : List Sk} (hs : ∀ s ∈ l, s.short) (x : ByteArray) : ((sfind l x).getD noSk).short := by
  cases h : sfind l x with
  | none => exact ⟨by decide, by decide, fun s hs => by cases hs⟩
  | some k => exact hs k (List.mem_of_find?_eq_some h)
set_option maxRecDepth 100000 in
set_option maxHeartbeats 1000000 in
theorem kslot_any (w0 : World) (v : Value) (c : List Kd) (x y : ByteArray) (w : World) (hb0 : Below w0.heap.size w0 w) (hv : Cat w0 v c) (hl : c.length ≤ 100000) (hs : ∀ k ∈ c, k.short) :
    Calls Tryz.prog 85 #[.agg #[v], .string x, .string y] w fun e w' => ∃ A m, e = .returned (.tuple #[.agg #[.string ((sfind ((kfind c x).getD noKd).slots y).getD noSk).name, .slice A ((sfind ((kfind c x).getD noKd).slots y).getD noSk).kinds.length m, .int .i64 ((sfind ((kfind c x).getD noKd).slots y).getD noSk).norm], .bool (sfind ((kfind c x).getD noKd).slots y).isSome]) ∧ Sl w0 (.slice A ((sfind ((kfind c x).getD noKd).slots y).getD noSk).kinds.length m) ((sfind ((kfind c x).getD noKd).slots y).getD noSk).kinds.length 1 (strF ((sfind ((kfind c x).getD noKd).slots y).getD noSk).kinds) ∧ Below w.heap.size w w' := by
  obtain ⟨A, cc, rfl, hn⟩ := hv.form
  have hb : Below w.heap.size w ((w.alloc (.cells #[.slice A c.length cc] 24)).alloc (.cells #[.string ⟨#[]⟩, .slice none 0 0, .int .i64 0] 60)) := ((Below.refl _ _).alloc (Nat.le_refl _) _).alloc (by simp) _
  have h2 : Has ((w.alloc (.cells #[.slice A c.length cc] 24)).alloc (.cells #[.string ⟨#[]⟩, .slice none 0 0, .int .i64 0] 60)) (w.heap.size + 1) 60 #[.string ⟨#[]⟩, .slice none 0 0, .int .i64 0] := by
    have := Has.new (w.alloc (.cells #[.slice A c.length cc] 24)) 60 #[.string ⟨#[]⟩, .slice none 0 0, .int .i64 0]
    simpa using this
  have HB := Lib.hid hb
  have HB0 := Lib.hid hb0
  have H2 := Lib.hid h2
  have hks := kfind_short hs x
  have HF := Lib.hid (fun W (h : Below w0.heap.size w0 W) => find_any w0 _ c x W h hv hl)
  clear hv hb h2 hb0
  generalize (kfind c x).getD noKd = q at *
  generalize (kfind c x).isSome = qb at *
  obtain ⟨s, vb, ss⟩ := q
  obtain ⟨_, hsl, hss⟩ := hks
  have hsh := sfind_short hss y
  have hf := ixL_find Sk.name ss y noSk
  generalize hi : ixL (ss.map Sk.name) y = ix at hf
  have HI := Lib.hid hi
  clear hi
  rcases hf with ⟨rfl, hf⟩ | ⟨k, rfl, hk, hf⟩
  · have hf' : sfind ss y = none := hf
    simp only [hf']
    clear hf hf' hsh hss
    go_enter Tryz.func85, Tryz.ntmps85
    go_wp2_with (first | (go_at_call 14; refine (HF.out _ (HB0.out.trans (HB.out.mono HB0.out.size))).mono ?_; rintro e w1 ⟨A1, m1, rfl, hr1, hb1⟩; have q2 := H2.out.below hb1 (by simp); have HB1 := Lib.hid (HB.out.trans (hb1.mono (by simp; omega))); have R1 := Lib.hid hr1; have Q2 := Lib.hid q2; have z1 := q2.lt; clear hb1 q2 hr1) | (go_at_call 101; refine (slotIndex_any _ ss y _ (R1.out.below SkR.stays (HB0.out.trans ((HB1.out.alloc (by omega) _).mono HB0.out.size))) hsl).mono ?_; rintro e w2 ⟨rfl, hb2⟩; rw [HI.out]; have HB2 := Lib.hid ((HB1.out.alloc (by omega) _).trans (hb2.mono (by simp; omega))); obtain ⟨p2, p3⟩ := ((Q2.out.alloc _).below hb2 (by simp; omega)).facts; clear hb2))
    refine bodyPost_ret (v := .tuple #[.agg #[.string ⟨#[]⟩, .slice none 0 0, .int .i64 0], .bool false]) (by simp [results, Tryz.results85, go_sem, p2]) rfl ?_
    have hB := HB2.out
    exact ⟨none, 0, rfl, ⟨_, _, rfl, by decide, .inl rfl⟩, by go_grown⟩
  · have hf' : sfind ss y = some (ss.getD k noSk) := hf
    simp only [hf'] at hsh ⊢
    show Calls _ _ _ _ fun e w' => ∃ A m, e = .returned (.tuple #[.agg #[.string (ss.getD k noSk).name, .slice A (ss.getD k noSk).kinds.length m, .int .i64 (ss.getD k noSk).norm], .bool true]) ∧ Sl w0 (.slice A (ss.getD k noSk).kinds.length m) (ss.getD k noSk).kinds.length 1 (strF (ss.getD k noSk).kinds) ∧ Below w.heap.size w w'
    clear hf hf' hsh hss
    have HG := Lib.hid (fun (v : Value) (h : RdL 3 SkR w0 v ss) => h.get hk noSk)
    generalize ss.getD k noSk = q at *
    obtain ⟨s2, ks, nm⟩ := q
    go_enter Tryz.func85, Tryz.ntmps85
    go_wp2_with (first | (go_at_call 14; refine (HF.out _ (HB0.out.trans (HB.out.mono HB0.out.size))).mono ?_; rintro e w1 ⟨A1, m1, rfl, hr1, hb1⟩; obtain ⟨b, o, c', cs, he, _, ⟨sv, rfl, hsv⟩, _, hrg⟩ := HG.out _ hr1; injection he with e1 e2 e3; subst e1; subst e3; obtain ⟨A2, c2, hsv2, hn2, hsv3⟩ := id hsv; subst hsv2; have q2 := H2.out.below hb1 (by simp); have HB1 := Lib.hid (HB.out.trans (hb1.mono (by simp; omega))); have R1 := Lib.hid hr1; have HRG := Lib.hid hrg; have HSV := Lib.hid hsv; have Q2 := Lib.hid q2; have z1 := q2.lt; clear hb1 q2 hr1 hrg hsv hsv3) | (go_at_call 101; refine (slotIndex_any _ ss y _ (R1.out.below SkR.stays (HB0.out.trans ((HB1.out.alloc (by omega) _).mono HB0.out.size))) hsl).mono ?_; rintro e w2 ⟨rfl, hb2⟩; rw [HI.out]; have h3 := (HB1.out.alloc (by omega) _).trans (hb2.mono (by simp; omega)); have hrg2 := range_later HRG.out (HB0.out.trans (h3.mono HB0.out.size)); have HB2 := Lib.hid h3; obtain ⟨p2, p3⟩ := ((Q2.out.alloc _).below hb2 (by simp; omega)).facts; obtain ⟨p4, p5⟩ := ((Has.new w1 _ _).below hb2 (by simp)).facts; clear hb2 h3) | ((with_reducible show wpList _ _ _ (Oper.mk (some 28) _ _ _ _ _ :: _) _ _); refine wpList_load_mid rfl 60 _ rfl b (o + k * 3) rfl _ _ hrg2 Tryz.underlying60 rfl rfl ?_))
    refine bodyPost_ret (v := .tuple #[.agg #[.string s2, .slice A2 ks.length c2, .int .i64 nm], .bool true]) (by simp [results, Tryz.results85, go_sem, p2]) rfl ?_
    have hB := HB2.out
    exact ⟨A2, c2, rfl, HSV.out, by go_grown⟩
set_option maxRecDepth 100000 in
set_option maxHeartbeats 1000000 in
theorem takes_any (w0 : World) (v : Value) (c : List Kd) (x y z : ByteArray) (w : World) (hb0 : Below w0.heap.size w0 w) (hv : Cat w0 v c) (hl : c.length ≤ 100000) (hs : ∀ k ∈ c, k.short) :
    Calls Tryz.prog 51 #[.agg #[v], .string x, .string y, .string z] w fun e w' => e = .returned (.bool (takesB c x y z)) ∧ Below w.heap.size w w' := by
  have hks := kfind_short hs x
  obtain ⟨_, hsl, hss⟩ := hks
  have hsh := sfind_short hss y
  have HF := Lib.hid (fun W (h : Below w0.heap.size w0 W) => kslot_any w0 _ c x y W h hv hl hs)
  obtain ⟨A, cc, rfl, hn⟩ := hv.form
  have hb : Below w.heap.size w (w.alloc (.cells #[.slice A c.length cc] 24)) := (Below.refl _ _).alloc (Nat.le_refl _) _
  have HB := Lib.hid hb
  have HB0 := Lib.hid hb0
  have ht : takesB c x y z = ((sfind ((kfind c x).getD noKd).slots y).isSome && hasB ((sfind ((kfind c x).getD noKd).slots y).getD noSk).kinds z) := by
    unfold takesB
    cases sfind ((kfind c x).getD noKd).slots y <;> rfl
  rw [ht]
  clear ht hv hb hb0 hss
  generalize (sfind ((kfind c x).getD noKd).slots y).isSome = tb at *
  generalize (sfind ((kfind c x).getD noKd).slots y).getD noSk = q at *
  obtain ⟨s2, ks, nm⟩ := q
  obtain ⟨_, hkl, _⟩ := hsh
  cases tb
  · go_enter Tryz.func51, Tryz.ntmps51
    go_wp2_with (first | (go_at_call 85; refine (HF.out _ (HB0.out.trans (HB.out.mono HB0.out.size))).mono ?_; rintro e w1 ⟨A1, m1, rfl, hr1, hb1⟩; have HB1 := Lib.hid (HB.out.trans (hb1.mono (by simp))); have R1 := Lib.hid hr1; clear hb1 hr1))
    go_ret
    have hB := HB1.out
    have hz := hB.size
    exact ⟨rfl, by go_grown⟩
  · go_enter Tryz.func51, Tryz.ntmps51
    go_wp2_with (first | (go_at_call 85; refine (HF.out _ (HB0.out.trans (HB.out.mono HB0.out.size))).mono ?_; rintro e w1 ⟨A1, m1, rfl, hr1, hb1⟩; have HB1 := Lib.hid (HB.out.trans (hb1.mono (by simp))); have R1 := Lib.hid hr1; clear hb1 hr1) | (go_at_call 86; refine (hasStr_any _ ks z _ (R1.out.below (HB0.out.trans ((HB1.out.alloc HB1.out.size _).mono HB0.out.size))) hkl).mono ?_; rintro e w2 ⟨rfl, rfl⟩))
    go_ret
    have hB := HB1.out
    have hz := hB.size
    exact ⟨rfl, by go_grown⟩
end Go.Proofs.YtcpakaiblelmlaaGreatDoor
namespace Go.Proofs.YtcpakaiblelmlaaGreatDoor
open Go Go.RowKit
theorem zero_boolV (w : World) : (zeroValue 4).run Tryz.prog w = .ok (.bool false) w := by kernel_rfl
theorem getD_mem {α : Type} (l : List α) (k : Nat) (d : α) (h : k < l.length) : l.getD k d ∈ l := by
  rw [List.getD_eq_getElem?_getD, List.getElem?_eq_getElem h]; exact List.getElem_mem h
theorem take_getD {α : Type} (l : List α) (k : Nat) (d : α) (h : k < l.length) : l.take (k + 1) = l.take k ++ [l.getD k d] := by
  rw [List.take_add_one, List.getElem?_eq_getElem h, List.getD_eq_getElem?_getD, List.getElem?_eq_getElem h]; rfl
/-- Keys that were seen, each with true. -/
def seenK {κ : Type} (l : List κ) : List (κ × Value) := l.map fun e => (e, .bool true)
def inK {κ : Type} [DecidableEq κ] (l : List κ) (e : κ) : Bool := l.any fun x => decide (x = e)
theorem inK_iff {κ : Type} [DecidableEq κ] (l : List κ) (e : κ) : inK l e = true ↔ e ∈ l := by
  unfold inK; rw [List.any_eq_true]
  exact ⟨fun ⟨x, h1, h2⟩ => by rw [← of_decide_eq_true h2]; exact h1, fun h => ⟨e, h, decide_eq_true rfl⟩⟩
theorem inK_no {κ : Type} [DecidableEq κ] {l : List κ} {e : κ} (h : inK l e = false) : ¬ e ∈ l := fun hm => by rw [(inK_iff l e).2 hm] at h; cases h
theorem seenK_get {κ : Type} [DecidableEq κ] (l : List κ) (e : κ) : (mget (seenK l) e).getD (.bool false) = .bool (inK l e) := by
  unfold mget seenK inK
  induction l with
  | nil => rfl
  | cons a l ih =>
    by_cases h : a = e
    · subst h; simp
    · simp only [List.map_cons, List.find?_cons, h, decide_false, List.any_cons, Bool.false_or]
      exact ih
theorem seenK_put {κ : Type} [DecidableEq κ] (l : List κ) (e : κ) (h : ¬ e ∈ l) : mput (seenK l) e (.bool true) = seenK (l ++ [e]) := by
  unfold mput
  have : (seenK l).findIdx? (fun p => decide (p.1 = e)) = none := by
    rw [List.findIdx?_eq_none_iff]
    intro x hx
    simp only [seenK, List.mem_map] at hx
    obtain ⟨a, ha, rfl⟩ := hx
    simp only [decide_eq_false_iff_not]
    rintro rfl; exact h ha
  rw [this]
  simp [seenK]
/-- The kinds so far, and whether they are no vehicles. -/
def kindsM (l : List Kd) : List (ByteArray × Value) := l.map fun k => (k.name, .bool (!k.veh))
theorem kindsM_has (l : List Kd) (x : ByteArray) : (mget (kindsM l) x).isSome = l.any fun q => decide (q.name = x) := by
  unfold mget kindsM
  induction l with
  | nil => rfl
  | cons a l ih =>
    by_cases h : a.name = x
    · simp [h]
    · simp only [List.map_cons, List.find?_cons, h, decide_false, List.any_cons, Bool.false_or]
      exact ih
theorem kindsM_get (l : List Kd) (hn : (l.map Kd.name).Nodup) (x : ByteArray) : (mget (kindsM l) x).getD (.bool false) = .bool (l.any fun k => decide (k.name = x) && !k.veh) := by
  unfold mget kindsM
  induction l with
  | nil => rfl
  | cons a l ih =>
    rw [List.map_cons, List.nodup_cons] at hn
    by_cases h : a.name = x
    · have h2 : (l.any fun k => decide (k.name = x) && !k.veh) = false := by
        rw [List.any_eq_false]
        intro k hk
        have : k.name ≠ x := fun e => hn.1 (by rw [h, ← e]; exact List.mem_map.2 ⟨k, hk, rfl⟩)
        simp [this]
      simp [h, h2]
    · simp only [List.map_cons, List.find?_cons, h, decide_false, List.any_cons, Bool.false_or, Bool.false_and]
      exact ih hn.2
theorem kindsM_put (l : List Kd) (k : Kd) (h : (l.any fun q => decide (q.name = k.name)) = false) : mput (kindsM l) k.name (.bool (!k.veh)) = kindsM (l ++ [k]) := by
  unfold mput
  have : (kindsM l).findIdx? (fun p => decide (p.1 = k.name)) = none := by
    rw [List.findIdx?_eq_none_iff]
    intro x hx
    simp only [kindsM, List.mem_map] at hx
    obtain ⟨a, ha, rfl⟩ := hx
    have := List.any_eq_false.1 h a ha
    simpa using this
  rw [this]
  simp [kindsM]
/-- The third loop: the kinds of a slot. -/
def kindsOk (pre : List Kd) (l : List ByteArray) (n : Nat) : Prop := (l.take n).Nodup ∧ ∀ x ∈ l.take n, (pre.any fun k => decide (k.name = x) && !k.veh) = true
theorem slotOk_bad {pre : List Kd} {s : Sk} {n : Nat} (h : n < s.kinds.length) (hb : s.kinds.getD n eS ∈ s.kinds.take n ∨ (pre.any fun k => decide (k.name = s.kinds.getD n eS) && !k.veh) = false) : slotOk pre s = false := by
  unfold slotOk
  rcases hb with hb | hb
  · have : ¬ s.kinds.Nodup := fun hn => by
      have h2 : (s.kinds.take (n + 1)).Nodup := hn.sublist (List.take_sublist _ _)
      rw [take_getD s.kinds n eS h, List.nodup_append] at h2
      exact h2.2.2 _ hb _ (by simp) rfl
    simp [this]
  · have : (s.kinds.all fun x => pre.any fun k => decide (k.name = x) && !k.veh) = false := by
      rw [List.all_eq_false]
      exact ⟨_, getD_mem s.kinds n eS h, by rw [hb]; decide⟩
    simp only [this, Bool.and_false]
theorem kindsOk_step {pre : List Kd} {l : List ByteArray} {n : Nat} (h : kindsOk pre l n) (hn : n < l.length) (h1 : ¬ l.getD n eS ∈ l.take n) (h2 : (pre.any fun k => decide (k.name = l.getD n eS) && !k.veh) = true) : kindsOk pre l (n + 1) := by
  unfold kindsOk
  rw [take_getD l n eS hn]
  refine ⟨?_, fun x hx => ?_⟩
  · rw [List.nodup_append]
    exact ⟨h.1, by simp, fun a ha b hb => by simp at hb; subst hb; intro e; subst e; exact h1 ha⟩
  · rw [List.mem_append, List.mem_singleton] at hx
    rcases hx with hx | rfl
    · exact h.2 x hx
    · exact h2
theorem slotOk_good {pre : List Kd} {s : Sk} (h0 : nameB s.name = true) (h1 : 1 ≤ s.norm) (h2 : s.norm ≤ s.kinds.length) (h : kindsOk pre s.kinds s.kinds.length) : slotOk pre s = true := by
  unfold kindsOk at h
  rw [List.take_length] at h
  have : (s.kinds.all fun x => pre.any fun k => decide (k.name = x) && !k.veh) = true := by rw [List.all_eq_true]; exact h.2
  unfold slotOk
  rw [this, h0]
  simp [h.1, h1, h2]
/-- The second loop: the slots of a kind. -/
def slotsOk (pre : List Kd) (l : List Sk) (n : Nat) : Prop := (∀ s ∈ l.take n, slotOk pre s = true) ∧ ((l.take n).map Sk.name).Nodup
theorem kindOk_bad {pre : List Kd} {k : Kd} {n : Nat} (h : n < k.slots.length) (hb : slotOk pre (k.slots.getD n noSk) = false ∨ (k.slots.getD n noSk).name ∈ (k.slots.take n).map Sk.name) : kindOk pre k = false := by
  unfold kindOk
  rcases hb with hb | hb
  · have : k.slots.all (slotOk pre) = false := by
      rw [List.all_eq_false]; exact ⟨_, getD_mem k.slots n noSk h, by rw [hb]; decide⟩
    simp only [this, Bool.false_and, Bool.and_false]
  · have : ¬ (k.slots.map Sk.name).Nodup := fun hn => by
      have h2 : ((k.slots.take (n + 1)).map Sk.name).Nodup := hn.sublist ((List.take_sublist _ _).map _)
      rw [take_getD k.slots n noSk h, List.map_append, List.nodup_append] at h2
      exact h2.2.2 _ hb _ (by simp) rfl
    simp [this]
theorem slotsOk_step {pre : List Kd} {l : List Sk} {n : Nat} (h : slotsOk pre l n) (hn : n < l.length) (h1 : slotOk pre (l.getD n noSk) = true) (h2 : ¬ (l.getD n noSk).name ∈ (l.take n).map Sk.name) : slotsOk pre l (n + 1) := by
  unfold slotsOk
  rw [take_getD l n noSk hn, List.map_append]
  refine ⟨fun x hx => ?_, ?_⟩
  · rw [List.mem_append, List.mem_singleton] at hx
    rcases hx with hx | rfl
    · exact h.1 x hx
    · exact h1
  · rw [List.nodup_append]
    exact ⟨h.2, by simp, fun a ha b hb => by simp at hb; subst hb; intro e; subst e; exact h2 ha⟩
theorem kindOk_good {pre : List Kd} {k : Kd} (h0 : (pre.any fun q => decide (q.name = k.name)) = false) (h1 : nameB k.name = true) (h2 : k.slots.length ≤ 12) (h : slotsOk pre k.slots k.slots.length) : kindOk pre k = true := by
  unfold slotsOk at h
  rw [List.take_length] at h
  have : k.slots.all (slotOk pre) = true := by rw [List.all_eq_true]; exact h.1
  unfold kindOk
  rw [this, h0, h1]
  simp [h.2, h2]
theorem catTo_bad {c : List Kd} {n : Nat} (h : n < c.length) (hb : kindOk (c.take n) (c.getD n noKd) = false) : catB c = false := by
  have : catTo c c.length = false := by
    unfold catTo; rw [List.all_eq_false]
    exact ⟨n, List.mem_range.2 h, by rw [hb]; decide⟩
  unfold catB; rw [this]; rfl
theorem catTo_step {c : List Kd} {n : Nat} (h : catTo c n = true) (hb : kindOk (c.take n) (c.getD n noKd) = true) : catTo c (n + 1) = true := by
  unfold catTo at *
  rw [List.range_succ, List.all_append, h]
  simp only [List.all_cons, List.all_nil, hb, Bool.and_true]
theorem catTo_names {c : List Kd} : ∀ {n : Nat}, n ≤ c.length → catTo c n = true → ((c.take n).map Kd.name).Nodup
  | 0, _, _ => by simp
  | n + 1, hn, h => by
    unfold catTo at h
    rw [List.range_succ, List.all_append] at h
    simp only [List.all_cons, List.all_nil, Bool.and_true, Bool.and_eq_true] at h
    have ih := catTo_names (c := c) (n := n) (by omega) (by unfold catTo; exact h.1)
    rw [take_getD c n noKd (by omega), List.map_append, List.nodup_append]
    refine ⟨ih, by simp, fun a ha b hb => ?_⟩
    simp at hb; subst hb
    have h2 := h.2
    unfold kindOk at h2
    simp only [Bool.and_eq_true, Bool.not_eq_true'] at h2
    have h3 := h2.1.1.1
    rw [List.any_eq_false] at h3
    obtain ⟨q, hq, rfl⟩ := List.mem_map.1 ha
    have := h3 q hq
    simpa using this
end Go.Proofs.YtcpakaiblelmlaaGreatDoor
namespace Go.Proofs.YtcpakaiblelmlaaGreatDoor
open Go Go.RowKit
set_option maxRecDepth 100000 in
set_option maxHeartbeats 2000000 in
theorem catValid_any (w0 : World) (v : Value) (c : List Kd) (w : World) (hb0 : Below w0.heap.size w0 w) (hv : Cat w0 v c) (hl : c.length ≤ 100000) (hs : ∀ k ∈ c, k.short) :
    Calls Tryz.prog 10 #[.agg #[v]] w fun e w' => e = .returned (.bool (catB c)) ∧ Below w.heap.size w w' := by
  obtain ⟨A, cc, rfl, hn⟩ := hv.form
  have hmm := @run_makeMap Tryz.prog
  have HV := Lib.hid hv
  have HS := Lib.hid hs
  have HB0 := Lib.hid hb0
  clear hv hs hb0
  go_enter Tryz.func10, Tryz.ntmps10
  go_wp2_with fail
  go_loopw [18] (fun i wr => ∃ k : Nat, k ≤ c.length ∧ i = .int .i64 k ∧ Hid (Mp wr Value.string (w.heap.size + 1) (kindsM (c.take k))) ∧ Hid (catTo c k = true) ∧ Hid (Has wr w.heap.size 24 #[.slice A c.length cc]) ∧ Hid (Below w.heap.size w wr) ∧ w.heap.size + 2 ≤ wr.heap.size) (fun i _ => c.length - (intOf i).toNat)
  case atStart =>
    refine ⟨0, Nat.zero_le _, rfl, ?_, rfl, (Has.new w _ _).alloc _, ((Below.refl _ _).alloc (Nat.le_refl _) _).alloc (by simp) _, by simp⟩
    have h := Mp.new (w.alloc (.cells #[.slice A c.length cc] 24)) Value.string
    have e : (w.alloc (.cells #[.slice A c.length cc] 24)).heap.size = w.heap.size + 1 := by simp
    rw [e] at h
    exact h
  case round =>
    obtain ⟨k, hk, rfl, HM, HT, HR, HB, hZ⟩ := hrel
    by_cases hlt : k < c.length
    · obtain ⟨b, o, c', cs, he, _, ⟨sv, rfl, hsv⟩, _, hrg⟩ := HV.out.get hlt noKd
      injection he with e1 e2 e3
      subst e1; subst e3
      obtain ⟨A2, c2, rfl, hn2⟩ := hsv.form
      have hrg' := range_later hrg (HB0.out.trans (HB.out.mono HB0.out.size))
      have HSV := Lib.hid hsv
      have hsh := HS.out _ (getD_mem c k noKd hlt)
      have hbad := Lib.hid (fun h => catTo_bad hlt h)
      have hstep := Lib.hid (fun h => catTo_step HT.out h)
      have hnod := Lib.hid (catTo_names hk HT.out)
      have htake := Lib.hid (take_getD c k noKd hlt)
      clear hrg hsv
      generalize c.getD k noKd = q at *
      generalize c.take k = pre at *
      obtain ⟨s, vb, ss⟩ := q
      obtain ⟨hs1, hs2, hs3⟩ := hsh
      have HS3 := Lib.hid hs3
      clear hs3
      have hM1 := HM.out.alloc (.cells #[.string s, .bool vb, .slice A2 ss.length c2] 38)
      have hL := run_look str_keying Tryz.underlying49 hM1 s (zero_boolV _) true
      rw [kindsM_has] at hL
      have HK := Lib.hid ((Has.new wr 38 #[.string s, .bool vb, .slice A2 ss.length c2]))
      have HM1 := Lib.hid hM1
      clear hM1
      generalize hvv : (mget (kindsM pre) s).getD (.bool false) = vv at hL
      rw [kindsM_get _ hnod.out] at hvv
      subst hvv
      cases hany : (pre.any fun q => decide (q.name = s))
      · rw [hany] at hL
        have HANY := Lib.hid hany
        clear hany
        cases hnm : nameB s
        · have HNM := Lib.hid hnm
          clear hnm
          go_wp2_with (first | ((with_reducible show wpList _ _ _ (Oper.mk (some 21) _ _ _ _ _ :: _) _ _); refine wpList_load_mid rfl 38 _ rfl b (o + k * 3) rfl _ _ hrg' Tryz.underlying38 rfl rfl ?_) | (go_at_call 27; refine (name_any s _ hs1).mono ?_; rintro e w2 ⟨rfl, hb2⟩; rw [HNM.out]; obtain ⟨hE2, hB2, hz2⟩ := boxed hb2; obtain ⟨hc2, hf2⟩ := hE2.facts))
          go_ret
          exact ⟨ret_bool (hbad.out (by unfold kindOk; rw [HNM.out]; simp)).symm, HB.out.trans (hB2.mono (by omega))⟩
        · have HNM := Lib.hid hnm
          clear hnm
          by_cases h12 : ss.length ≤ 12
          · have h12' : ¬ (12 : Int) < (ss.length : Int) := by omega
            go_wp2_with (first | ((with_reducible show wpList _ _ _ (Oper.mk (some 21) _ _ _ _ _ :: _) _ _); refine wpList_load_mid rfl 38 _ rfl b (o + k * 3) rfl _ _ hrg' Tryz.underlying38 rfl rfl ?_) | (go_at_call 27; refine (name_any s _ hs1).mono ?_; rintro e w2 ⟨rfl, hb2⟩; rw [HNM.out]; obtain ⟨hE2, hB2, hz2⟩ := boxed hb2; obtain ⟨hc2, hf2⟩ := hE2.facts; have HE2 := Lib.hid hE2; have HB2 := Lib.hid hB2; clear hb2 hE2 hB2))
            have hHk : Has (w2.alloc (.map #[] 0)) wr.heap.size 38 #[.string s, .bool vb, .slice A2 ss.length c2] := HE2.out.alloc _
            have hMp : Mp (w2.alloc (.map #[] 0)) Value.string (w.heap.size + 1) (kindsM pre) := (HM.out.below HB2.out (by omega)).alloc _
            have hCa : Has (w2.alloc (.map #[] 0)) w.heap.size 24 #[.slice (some ⟨b, o, none⟩) c.length cc] := (HR.out.below HB2.out (by omega)).alloc _
            have hBb : Below w.heap.size w (w2.alloc (.map #[] 0)) := (HB.out.trans (HB2.out.mono (by omega))).alloc (by omega) _
            obtain ⟨gk, hgk⟩ : ∃ gk, gk = wr.heap.size := ⟨_, rfl⟩
            rw [← hgk] at hHk hz2
            have hgk2 : w.heap.size + 2 ≤ gk := by omega
            go_loopw [46] (fun i ws => ∃ j : Nat, j ≤ ss.length ∧ i = .int .i64 j ∧ Hid (Mp ws Value.string w2.heap.size (seenK ((ss.take j).map Sk.name))) ∧ Hid (Mp ws Value.string (w.heap.size + 1) (kindsM pre)) ∧ Hid (Has ws gk 38 #[.string s, .bool vb, .slice A2 ss.length c2]) ∧ Hid (Has ws w.heap.size 24 #[.slice (some ⟨b, o, none⟩) c.length cc]) ∧ Hid (Below w.heap.size w ws) ∧ w2.heap.size < ws.heap.size ∧ Hid (slotsOk pre ss j)) (fun i _ => ss.length - (intOf i).toNat)
            case atStart => exact ⟨0, Nat.zero_le _, rfl, Mp.new w2 Value.string, hMp, hHk, hCa, hBb, by simp, ⟨fun s h => by simp at h, by simp⟩⟩
            case round =>
              obtain ⟨j, hj, rfl, HSm, HPm, HKd, HCt, HBs, hZs, HSo⟩ := hrel
              clear hHk hMp hCa hBb
              by_cases hjl : j < ss.length
              · obtain ⟨b3, o3, c3, cs3, he3, _, ⟨sv3, rfl, hsv3⟩, _, hrg3⟩ := HSV.out.get hjl noSk
                injection he3 with e4 e5 e6
                subst e4; subst e6
                obtain ⟨A4, c4, hsv4, hn4, hc4⟩ := id hsv3
                subst hsv4
                have hrg3' := range_later hrg3 (HB0.out.trans (HBs.out.mono HB0.out.size))
                have HKS := Lib.hid hsv3
                have hsh3 := HS3.out _ (getD_mem ss j noSk hjl)
                have kbad := Lib.hid (fun h => hbad.out (kindOk_bad (pre := pre) (k := ⟨s, vb, ss⟩) hjl h))
                have sstep := Lib.hid (fun h1 h2 => slotsOk_step (pre := pre) HSo.out hjl h1 h2)
                have stake := Lib.hid (take_getD ss j noSk hjl)
                clear hrg3 hsv3 hc4
                change Hid (slotOk pre (ss.getD j noSk) = false ∨ (ss.getD j noSk).name ∈ (ss.take j).map Sk.name → catB c = false) at kbad
                generalize ss.getD j noSk = q3 at *
                generalize hseen : (ss.take j).map Sk.name = seen at *
                have HSEEN := Lib.hid hseen
                clear hseen
                obtain ⟨t, ks, nm⟩ := q3
                obtain ⟨hs4, hs5, hs6⟩ := hsh3
                have HS6 := Lib.hid hs6
                clear hs6
                have hM3 := HSm.out.alloc (.cells #[.string t, .slice A4 ks.length c4, .int .i64 nm] 60)
                have hL3 := run_look str_keying Tryz.underlying49 hM3 t (zero_boolV _) false
                rw [seenK_get] at hL3
                have HM3 := Lib.hid hM3
                clear hM3
                cases hik : inK seen t
                rotate_left
                · rw [hik] at hL3
                  have hmem := (inK_iff _ _).1 hik
                  clear hik
                  go_wp2_with ((with_reducible show wpList _ _ _ (Oper.mk (some 49) _ _ _ _ _ :: _) _ _); refine wpList_load_mid rfl 60 _ rfl b3 (o3 + j * 3) rfl _ _ hrg3' Tryz.underlying60 rfl rfl ?_)
                  go_ret
                  exact ⟨ret_bool (kbad.out (.inr hmem)).symm, HBs.out.alloc (by have := HBs.out.size; omega) _⟩
                · rw [hik] at hL3
                  have hmem := inK_no hik
                  clear hik
                  cases hn3 : nameB t
                  · have HN3 := Lib.hid hn3
                    clear hn3
                    go_wp2_with (first | ((with_reducible show wpList _ _ _ (Oper.mk (some 49) _ _ _ _ _ :: _) _ _); refine wpList_load_mid rfl 60 _ rfl b3 (o3 + j * 3) rfl _ _ hrg3' Tryz.underlying60 rfl rfl ?_) | (go_at_call 27; refine (name_any t _ hs4).mono ?_; rintro e w4 ⟨rfl, hb4⟩; rw [HN3.out]; obtain ⟨hE4, hB4, hz4⟩ := boxed hb4; obtain ⟨hc4, hf4⟩ := hE4.facts; have HE4 := Lib.hid hE4; have HB4 := Lib.hid hB4; clear hE4 hB4 hb4))
                    go_ret
                    exact ⟨ret_bool (kbad.out (.inl (by unfold slotOk; rw [HN3.out]; rfl))).symm, HBs.out.trans (HB4.out.mono HBs.out.size)⟩
                  · have HN3 := Lib.hid hn3
                    clear hn3
                    by_cases hno1 : nm < 1
                    · go_wp2_with (first | ((with_reducible show wpList _ _ _ (Oper.mk (some 49) _ _ _ _ _ :: _) _ _); refine wpList_load_mid rfl 60 _ rfl b3 (o3 + j * 3) rfl _ _ hrg3' Tryz.underlying60 rfl rfl ?_) | (go_at_call 27; refine (name_any t _ hs4).mono ?_; rintro e w4 ⟨rfl, hb4⟩; rw [HN3.out]; obtain ⟨hE4, hB4, hz4⟩ := boxed hb4; obtain ⟨hc4, hf4⟩ := hE4.facts; have HE4 := Lib.hid hE4; have HB4 := Lib.hid hB4; clear hE4 hB4 hb4))
                      go_ret
                      exact ⟨ret_bool (kbad.out (.inl (by have h : decide (1 ≤ nm) = false := decide_eq_false (by omega); simp [slotOk, h]))).symm, HBs.out.trans (HB4.out.mono HBs.out.size)⟩
                    · by_cases hno2 : (ks.length : Int) < nm
                      · go_wp2_with (first | ((with_reducible show wpList _ _ _ (Oper.mk (some 49) _ _ _ _ _ :: _) _ _); refine wpList_load_mid rfl 60 _ rfl b3 (o3 + j * 3) rfl _ _ hrg3' Tryz.underlying60 rfl rfl ?_) | (go_at_call 27; refine (name_any t _ hs4).mono ?_; rintro e w4 ⟨rfl, hb4⟩; rw [HN3.out]; obtain ⟨hE4, hB4, hz4⟩ := boxed hb4; obtain ⟨hc4, hf4⟩ := hE4.facts; have HE4 := Lib.hid hE4; have HB4 := Lib.hid hB4; clear hE4 hB4 hb4))
                        go_ret
                        exact ⟨ret_bool (kbad.out (.inl (by have h : decide (nm ≤ (ks.length : Int)) = false := decide_eq_false (by omega); simp [slotOk, h]))).symm, HBs.out.trans (HB4.out.mono HBs.out.size)⟩
                      · go_wp2_with (first | ((with_reducible show wpList _ _ _ (Oper.mk (some 49) _ _ _ _ _ :: _) _ _); refine wpList_load_mid rfl 60 _ rfl b3 (o3 + j * 3) rfl _ _ hrg3' Tryz.underlying60 rfl rfl ?_) | (go_at_call 27; refine (name_any t _ hs4).mono ?_; rintro e w4 ⟨rfl, hb4⟩; rw [HN3.out]; obtain ⟨hE4, hB4, hz4⟩ := boxed hb4; obtain ⟨hc4, hf4⟩ := hE4.facts; have HE4 := Lib.hid hE4; have HB4 := Lib.hid hB4; clear hE4 hB4 hb4; obtain ⟨w5, hp5, hM5, hG5, hS5⟩ := run_put str_keying Tryz.underlying49 (HSm.out.below HB4.out hZs) t (.bool true); rw [seenK_put _ _ hmem] at hM5; have HM5 := Lib.hid hM5; have HG5 := Lib.hid hG5; have HS5 := Lib.hid hS5; have hz5 : wr.heap.size < w5.heap.size := (by omega); obtain ⟨hc5, hf5⟩ := (HE4.out.grown hG5 (fun h => by have := Option.some.inj h; omega)).facts; clear hM5 hG5 hS5))
                        have hP5 := (HPm.out.below HB4.out (by omega)).grown HG5.out (fun h => by have := Option.some.inj h; omega)
                        have hK5 := (HKd.out.below HB4.out (by omega)).grown HG5.out (fun h => by have := Option.some.inj h; omega)
                        have hC5 := (HCt.out.below HB4.out (by omega)).grown HG5.out (fun h => by have := Option.some.inj h; omega)
                        have hB5 := (HBs.out.trans (HB4.out.mono HBs.out.size)).grown HG5.out (by omega) (fun j hj => by cases hj; omega)
                        have h25 : w2.heap.size < w5.heap.size := by omega
                        go_loopw [80] (fun i wt => ∃ m : Nat, m ≤ ks.length ∧ i = .int .i64 m ∧ Hid (Mp wt Value.string w5.heap.size (seenK (ks.take m))) ∧ Hid (Mp wt Value.string w2.heap.size (seenK (seen ++ [t]))) ∧ Hid (Mp wt Value.string (w.heap.size + 1) (kindsM pre)) ∧ Hid (Has wt gk 38 #[.string s, .bool vb, .slice (some ⟨b3, o3, none⟩) ss.length c2]) ∧ Hid (Has wt w.heap.size 24 #[.slice (some ⟨b, o, none⟩) c.length cc]) ∧ Hid (Below w.heap.size w wt) ∧ w5.heap.size < wt.heap.size ∧ Hid (kindsOk pre ks m)) (fun i _ => ks.length - (intOf i).toNat)
                        case atStart => exact ⟨0, Nat.zero_le _, rfl, Mp.new w5 Value.string, HM5.out.alloc _, hP5.alloc _, hK5.alloc _, hC5.alloc _, hB5.alloc (by omega) _, by simp, ⟨by simp, fun s h => by simp at h⟩⟩
                        case round =>
                          obtain ⟨m, hm, rfl, HTk, HSk, HPk, HKk, HCk, HBk, hZk, HKo⟩ := hrel
                          clear hP5 hK5 hC5 hB5
                          by_cases hml : m < ks.length
                          · obtain ⟨A7, c7, he7, hn7, hc7⟩ := HKS.out
                            injection he7 with e7 e8 e9
                            subst e7; subst e9
                            rcases hc7 with h0 | ⟨b4, o4, e7, hc7⟩
                            · omega
                            subst e7
                            have hcell := cell_later (HB0.out.trans (HBk.out.mono HB0.out.size)) (hc7 m (by omega))
                            change wr.cell? ⟨b4, o4 + m, none⟩ = some (.string (ks.getD m eS)) at hcell
                            have xbad := Lib.hid (fun h => kbad.out (.inl (slotOk_bad (pre := pre) (s := ⟨t, ks, nm⟩) hml h)))
                            have xstep := Lib.hid (fun h1 h2 => kindsOk_step (pre := pre) HKo.out hml h1 h2)
                            have xtake := Lib.hid (take_getD ks m eS hml)
                            clear hc7
                            change Hid (ks.getD m eS ∈ ks.take m ∨ (pre.any fun k => decide (k.name = ks.getD m eS) && !k.veh) = false → catB c = false) at xbad
                            generalize ks.getD m eS = x at *
                            generalize ks.take m = xs at *
                            have hL4 := run_look str_keying Tryz.underlying49 HTk.out x (zero_boolV _) false
                            rw [seenK_get] at hL4
                            have hL5 := run_look str_keying Tryz.underlying49 HPk.out x (zero_boolV _) false
                            rw [kindsM_get _ hnod.out] at hL5
                            cases hik : inK xs x
                            · rw [hik] at hL4
                              have hnm4 := inK_no hik
                              clear hik
                              cases hpp : (pre.any fun k => decide (k.name = x) && !k.veh)
                              · rw [hpp] at hL5
                                have HPP := Lib.hid hpp
                                clear hpp
                                go_wp2_with fail
                                go_ret
                                exact ⟨ret_bool (xbad.out (.inr HPP.out)).symm, HBk.out⟩
                              · rw [hpp] at hL5
                                have HPP := Lib.hid hpp
                                clear hpp
                                obtain ⟨w6, hp6, hM6, hG6, hS6⟩ := run_put str_keying Tryz.underlying49 HTk.out x (.bool true)
                                rw [seenK_put _ _ hnm4] at hM6
                                have HM6 := Lib.hid hM6
                                have HG6 := Lib.hid hG6
                                have HS6 := Lib.hid hS6
                                clear hM6 hG6 hS6
                                go_wp2_with fail
                                go_roundw
                                case rel => exact ⟨m + 1, by omega, by go_num, by rw [xtake.out]; exact HM6.out, HSk.out.grown HG6.out (fun h => by have := Option.some.inj h; omega), HPk.out.grown HG6.out (fun h => by have := Option.some.inj h; omega), HKk.out.grown HG6.out (fun h => by have := Option.some.inj h; omega), HCk.out.grown HG6.out (fun h => by have := Option.some.inj h; omega), HBk.out.grown HG6.out (by omega) (fun j hj => by cases hj; omega), by have := HS6.out; omega, xstep.out hnm4 HPP.out⟩
                                case measure => simp [intOf]; omega
                            · rw [hik] at hL4
                              have hmem4 := (inK_iff _ _).1 hik
                              clear hik
                              go_wp2_with fail
                              go_ret
                              exact ⟨ret_bool (xbad.out (.inl hmem4)).symm, HBk.out⟩
                          · obtain rfl : m = ks.length := by omega
                            have hgood := Lib.hid (slotOk_good (s := ⟨t, ks, nm⟩) HN3.out (by omega) (by omega) HKo.out)
                            go_wp2_with fail
                            go_roundw
                            case rel => exact ⟨j + 1, by omega, by go_num, by rw [stake.out, List.map_append, HSEEN.out]; exact HSk.out, HPk.out, HKk.out, HCk.out, HBk.out, by omega, sstep.out hgood.out hmem⟩
                            case measure => simp [intOf]; omega
              · obtain rfl : j = ss.length := by omega
                have hgood := Lib.hid (hstep.out (kindOk_good HANY.out HNM.out h12 HSo.out))
                obtain ⟨w6, hp6, hM6, hG6, hS6⟩ := run_put str_keying Tryz.underlying49 HPm.out s (.bool (!vb))
                rw [kindsM_put pre ⟨s, vb, ss⟩ HANY.out] at hM6
                subst hgk
                obtain ⟨p1, p2⟩ := HKd.out.facts
                have HM6 := Lib.hid hM6
                have HG6 := Lib.hid hG6
                have HS6 := Lib.hid hS6
                clear hM6 hG6 hS6
                go_wp2_with fail
                go_roundw
                case rel => exact ⟨k + 1, by omega, by go_num, by rw [htake.out]; exact HM6.out, hgood.out, HCt.out.grown HG6.out (fun h => by have := Option.some.inj h; omega), HBs.out.grown HG6.out (by omega) (fun j hj => by cases hj; omega), by have := HS6.out; omega⟩
                case measure => simp [intOf]; omega
          · have h12' : (12 : Int) < (ss.length : Int) := by omega
            go_wp2_with (first | ((with_reducible show wpList _ _ _ (Oper.mk (some 21) _ _ _ _ _ :: _) _ _); refine wpList_load_mid rfl 38 _ rfl b (o + k * 3) rfl _ _ hrg' Tryz.underlying38 rfl rfl ?_) | (go_at_call 27; refine (name_any s _ hs1).mono ?_; rintro e w2 ⟨rfl, hb2⟩; rw [HNM.out]; obtain ⟨hE2, hB2, hz2⟩ := boxed hb2; obtain ⟨hc2, hf2⟩ := hE2.facts))
            go_ret
            exact ⟨ret_bool (hbad.out (by unfold kindOk; simp [h12])).symm, HB.out.trans (hB2.mono (by omega))⟩
      · rw [hany] at hL
        have HANY := Lib.hid hany
        clear hany
        go_wp2_with (first | ((with_reducible show wpList _ _ _ (Oper.mk (some 21) _ _ _ _ _ :: _) _ _); refine wpList_load_mid rfl 38 _ rfl b (o + k * 3) rfl _ _ hrg' Tryz.underlying38 rfl rfl ?_))
        go_ret
        exact ⟨ret_bool (hbad.out (by unfold kindOk; rw [HANY.out]; rfl)).symm, HB.out.alloc (by omega) _⟩
    · obtain rfl : k = c.length := by omega
      obtain ⟨p1, p2⟩ := HR.out.facts
      go_wp2_with fail
      go_ret
      refine ⟨ret_bool ?_, HB.out⟩
      have := HT.out
      unfold catB
      rw [this]; simp; omega
end Go.Proofs.YtcpakaiblelmlaaGreatDoor
namespace Go.Proofs.YtcpakaiblelmlaaGreatDoor
open Go Go.RowKit
set_option maxHeartbeats 1000000 in
set_option maxRecDepth 100000 in
theorem check_any (B b : Nat) (bs : List Value) (w : World) (h : Lib.IsBuilder 172 5 B b bs w) :
    Calls Tryz.prog 140 #[.pointer (some ⟨b, 0, none⟩)] w fun e w' => e = .returned (.tuple #[]) ∧ Lib.BuilderAt 172 5 B b (.pointer (some ⟨b, 0, none⟩)) bs w' ∧ Below B w w' := by
  obtain ⟨j, hj, hjs⟩ := Option.map_eq_some_iff.1 (show (Tryz.prog.info? 172).map (·.size) = some 2 by kernel_rfl)
  rcases h with h | h
  · have HB := Lib.hid (h.used (.pointer (some ⟨b, 0, none⟩)))
    have hbb := (Below.refl B w).setCell (p := ⟨b, 0, none⟩) h.1 (.pointer (some ⟨b, 0, none⟩))
    have hsh := h.shape
    have hc := h.cell0
    have hf := h.frozen0
    clear h
    go_enter Tryz.func140, Tryz.ntmps140
    go_wp2
    rw [Lib.run_to_unsafe w ⟨b, 0, none⟩ Tryz.underlying169 Tryz.underlying183 hj (by rw [hjs]; decide) hsh (Nat.zero_lt_succ 1)]
    simp only [Result.andThen]
    rw [Oper.upon_value]
    go_wp2
    rw [run_callFunc_extern Tryz.func144 (by kernel_rfl) (by kernel_rfl) (by kernel_rfl) (e := Extern.AbiNoEscape.same) (by kernel_rfl), Lib.run_noEscape]
    simp only [Result.andThen]
    rw [Oper.upon_value]
    go_wp2
    rw [Lib.run_from_unsafe w ⟨b, 0, none⟩ Tryz.underlying183 Tryz.underlying169 hj hsh (by kernel_rfl)]
    simp only [Result.andThen]
    rw [Oper.upon_value]
    go_wp2
    go_end0
    exact ⟨rfl, HB.out, hbb⟩
  · have hc := h.cell0
    have HB := Lib.hid h
    clear h
    go_enter Tryz.func140, Tryz.ntmps140
    go_wp2
    rw [Lib.run_neq_ptr_same w _ Tryz.underlying169 hj]
    go_wp2
    go_end0
    exact ⟨rfl, HB.out, Below.refl B _⟩
theorem own_slice {w : World} {base e size n : Nat} {v : Value} {xs : List Value} (h : w.ownsRow base e size v n xs) : ∃ A c, v = .slice A n c := by
  rcases h.2 with ⟨rfl, h0⟩ | ⟨g, cap, cur, rfl, _⟩
  · exact ⟨none, 0, by rw [h0]⟩
  · exact ⟨_, _, rfl⟩
theorem infoB : (Tryz.prog.info? 5).map (fun i => (i.zero, i.size, i.bytes)) = some (some (.int .u8 0), 1, 1) := by kernel_rfl
end Go.Proofs.YtcpakaiblelmlaaGreatDoor
namespace Go.Proofs.YtcpakaiblelmlaaGreatDoor
open Go Go.RowKit
theorem new_byte (w : World) (x : Value) (t : TypeId) : ∀ j u, ([x] : List Value)[j]? = some u → (w.alloc (.cells #[x] t)).cell? ((⟨w.heap.size, 0, none⟩ : Addr).add j) = some u := fun j u h => by
  have h1 := (Has.new w t #[x]).facts.1 j
  rw [Addr.add_mid, Nat.zero_add, h1]; simpa using h
set_option maxHeartbeats 2000000 in
set_option maxRecDepth 100000 in
theorem writeByte_any (B b : Nat) (bs : List Value) (c : Int) (w : World) (h : Lib.IsBuilder 172 5 B b bs w) (hlen : bs.length + 1 ≤ 140737488355328) (hBw : B ≤ w.heap.size) :
    Calls Tryz.prog 136 #[.pointer (some ⟨b, 0, none⟩), .int .u8 c] w fun e w' => e = .returned .nilIface ∧ Lib.IsBuilder 172 5 B b (bs ++ [.int .u8 c]) w' ∧ Below B w w' := by
  obtain ⟨i0, hi, hz0, hz1, hz2⟩ := info_parts infoB
  have HC := Lib.hid (check_any B b bs w h)
  have HI := Lib.hid hi
  have HZ := Lib.hid hz0
  clear h hi hz0
  go_enter Tryz.func136, Tryz.ntmps136
  go_wp2_with (first
    | (go_at_call 140; refine HC.out.mono ?_; rintro e w1 ⟨rfl, hb1, hbb1⟩; obtain ⟨hB1, v1, hk1, hown1, hne1⟩ := hb1; obtain ⟨A1, c1', hf1⟩ := own_slice hown1; subst hf1; have c1 : w1.cell? ⟨b, 1, none⟩ = some (.slice A1 bs.length c1') := (by rw [Lib.cell_of_heap hk1]; rfl); have HBB := Lib.hid hbb1; have HK := Lib.hid hk1; have HO := Lib.hid hown1; have HNE := Lib.hid hne1; have f1 := Lib.frozen_of_heap hk1 1; clear hbb1 hk1 hown1 hne1)
    | ((with_reducible show wpList _ _ _ (Oper.mk (some 14) _ _ _ _ _ :: _) _ _); refine wpList_app rfl (.tmp 11) (.tmp 13) 170 rfl B 5 i0 (.int .u8 0) 1 1 Tryz.underlying170 HI.out HZ.out hz1 hz2 rfl (by decide) _ bs.length bs rfl (HO.out.alloc _) (some ⟨w1.heap.size, 0, none⟩) 1 1 [.int .u8 c] rfl rfl (.inr ⟨_, rfl, new_byte w1 (.int .u8 c) _⟩) (fun u hu => by rw [List.mem_singleton] at hu; subst hu; rfl) (by unfold maxLen; omega) (by omega) (by have := HBB.out.size; simp; omega) ?_; intro v2 w2 hown2 hg2; obtain ⟨A2, c2', hf2⟩ := own_slice hown2; subst hf2; have hk2 := (hg2.block b (by have := HK.out; have := (Array.getElem?_eq_some_iff.1 this).1; simp; omega) (fun e => HNE.out e.symm)).trans ((Below.heap_alloc _ _ _ ((Array.getElem?_eq_some_iff.1 HK.out).1)).trans HK.out); have HO2 := Lib.hid hown2; have HG2 := Lib.hid hg2; have HK2 := Lib.hid hk2; have f2 := Lib.frozen_of_heap hk2 1; have c2 : w2.cell? ⟨b, 1, none⟩ = some (.slice A1 bs.length c1') := (by rw [Lib.cell_of_heap hk2]; rfl); clear hown2 hg2 hk2))
  go_ret
  refine ⟨rfl, .inr (Lib.BuilderAt.put hB1 HK2.out ?_ (by decide)), ?_⟩
  · rw [List.length_append]
    exact HO2.out
  · exact (((HBB.out.alloc (Nat.le_trans hBw HBB.out.size) (.cells #[.int .u8 c] 5)).grown HG2.out (by have := HBB.out.size; simp; omega) (fun j hj => (HO.out.lt j hj).1)).setCell (p := ⟨b, 1, none⟩) hB1 _)
end Go.Proofs.YtcpakaiblelmlaaGreatDoor
namespace Go.Proofs.YtcpakaiblelmlaaGreatDoor
open Go Go.RowKit
theorem unq_end {t : ByteArray} {n k : Nat} {acc : List UInt8} (h : t.size ≤ k) : unqGo t n k acc = none := by
  cases n with
  | zero => rfl
  | succ n => rw [unqGo_succ, if_pos h]
theorem ixb_esc {c : Nat} (h : c < 256) (h1 : c ≠ 92) (h2 : c ≠ 34) (h3 : c ≠ 110) : ixb [92, 34, 110] c = -1 := by
  have : ∀ c : Fin 256, c.val ≠ 92 → c.val ≠ 34 → c.val ≠ 110 → ixb [92, 34, 110] c.val = -1 := by decide +kernel
  exact this ⟨c, h⟩ h1 h2 h3
theorem cells_snoc (acc : List UInt8) (b : UInt8) : Lib.byteCells acc ++ [.int .u8 (b.toNat : Int)] = Lib.byteCells (acc ++ [b]) := by
  simp [Lib.byteCells]
/-- The string and its length; nothing and 0, if there is none. -/
def unqV (t : ByteArray) : ByteArray × Nat := match unqL t with
  | none => (⟨#[]⟩, 0)
  | some (l, m) => (⟨l.toArray⟩, m)
theorem unqV_none {t : ByteArray} (h : unqL t = none) : unqV t = (⟨#[]⟩, 0) := by unfold unqV; rw [h]
theorem unqV_some {t : ByteArray} {l : List UInt8} {m : Nat} (h : unqL t = some (l, m)) : unqV t = (⟨l.toArray⟩, m) := by unfold unqV; rw [h]
set_option maxRecDepth 100000 in
set_option maxHeartbeats 8000000 in
theorem unquoted_any (t : ByteArray) (w : World) (hs : t.size ≤ 1000000) :
    Calls Tryz.prog 121 #[.string t] w fun e w' => e = .returned (.tuple #[.string (unqV t).1, .int .i64 ((unqV t).2 : Nat)]) ∧ Below w.heap.size w w' := by
  have HB0 := Lib.hid (Lib.fresh_isBuilder 172 5 w)
  have HBw := Lib.hid ((Below.refl w.heap.size w).alloc (Nat.le_refl _) (.cells #[.pointer none, .slice none 0 0] 172))
  go_enter Tryz.func121, Tryz.ntmps121
  go_wp2_with fail
  go_loopw [5] (fun i wr => ∃ (k n : Nat) (acc : List UInt8), i = .int .i64 k ∧ Hid (unqL t = unqGo t n k acc) ∧ t.size < n + k ∧ acc.length ≤ k ∧ k ≤ t.size + 1 ∧ Hid (Lib.IsBuilder 172 5 w.heap.size w.heap.size (Lib.byteCells acc) wr) ∧ Hid (Below w.heap.size w wr)) (fun i _ => t.size + 1 - (intOf i).toNat)
  case atStart => exact ⟨1, t.size, [], rfl, rfl, by omega, by simp, by omega, HB0.out, HBw.out⟩
  case round =>
    clear HB0 HBw
    obtain ⟨k, n, acc, rfl, HU, hn, hacc, hk1, HI, HB⟩ := hrel
    have hzw := HB.out.size
    by_cases hlt : k < t.size
    · obtain ⟨m, rfl⟩ : ∃ m, n = m + 1 := ⟨n - 1, by omega⟩
      have hki : (k : Int) < (t.size : Int) := by omega
      have hb8 := UInt8.toNat_lt t[k]
      have hby := byteAt_eq t k hlt
      have HS := Lib.hid (HU.out.trans (unqGo_succ t m k acc))
      clear HU
      rw [hby, if_neg (show ¬ t.size ≤ k by omega)] at HS
      by_cases e1 : t[k].toNat = 34
      · have HE := Lib.hid (unqV_some (show unqL t = some (acc, k + 1) by rw [HS.out, if_pos e1]))
        clear HS hby
        go_wp2_with (go_at_call 135; refine (Tryz.Builder_String_any w.heap.size w.heap.size acc _ HI.out hzw).mono ?_; rintro e w2 ⟨rfl, hb2⟩; have HB2 := Lib.hid (HB.out.trans hb2); clear hb2)
        refine bodyPost_ret (v := .tuple #[.string ⟨acc.toArray⟩, .int .i64 ((k : Int) + 1)]) (by simp [results, Tryz.results121, go_sem]) rfl ?_
        exact ⟨by rw [HE.out]; rfl, HB2.out⟩
      · by_cases e2 : t[k].toNat = 10
        · have HE := Lib.hid (unqV_none (show unqL t = none by rw [HS.out, if_neg e1, if_pos e2]))
          clear HS hby
          go_wp2_with fail
          refine bodyPost_ret (v := .tuple #[.string ⟨#[]⟩, .int .i64 0]) (by simp [results, Tryz.results121, go_sem]) rfl ?_
          exact ⟨by rw [HE.out]; rfl, HB.out⟩
        · by_cases e3 : t[k].toNat = 92
          · rw [if_neg e1, if_neg e2, if_pos e3] at HS
            by_cases hl1 : k + 1 < t.size
            · have hki1 : (k : Int) + 1 < (t.size : Int) := by omega
              have hb81 := UInt8.toNat_lt t[k + 1]
              have hby1 := byteAt_eq t (k + 1) hl1
              rw [hby1, if_neg (show ¬ t.size ≤ k + 1 by omega)] at HS
              clear hby hby1
              by_cases f : t[k + 1].toNat = 92
              · have HIX := Lib.hid (show ixb (⟨#[92, 34, 110]⟩ : ByteArray).data.toList 92 = 0 by decide +kernel)
                have HS2 := Lib.hid (show unqL t = unqGo t m (k + 2) (acc ++ [92]) by rw [HS.out, f]; rfl)
                clear HS
                go_wp2_with (first | (go_at_call 87; refine (indexByte_n ⟨#[92, 34, 110]⟩ 92 _).mono ?_; rintro e w2 ⟨rfl, rfl⟩; rw [HIX.out]) | (go_at_call 136; refine (writeByte_any w.heap.size w.heap.size (Lib.byteCells acc) 92 _ HI.out (by rw [Lib.byteCells_length]; omega) hzw).mono ?_; rintro e w3 ⟨rfl, hi2, hb2⟩; have HB2 := Lib.hid (HB.out.trans hb2); rw [show Lib.byteCells acc ++ [.int .u8 92] = Lib.byteCells (acc ++ [92]) from cells_snoc acc 92] at hi2; have HI2 := Lib.hid hi2; clear hb2 hi2))
                go_roundw
                case rel => exact ⟨k + 2, m, acc ++ [92], by go_num, HS2.out, by omega, by simp; omega, by omega, HI2.out, HB2.out⟩
                case measure => simp [intOf]; omega
              · by_cases g : t[k + 1].toNat = 34
                · have f := g
                  have HIX := Lib.hid (show ixb (⟨#[92, 34, 110]⟩ : ByteArray).data.toList 34 = 1 by decide +kernel)
                  have HS2 := Lib.hid (show unqL t = unqGo t m (k + 2) (acc ++ [34]) by rw [HS.out, f]; rfl)
                  clear HS
                  go_wp2_with (first | (go_at_call 87; refine (indexByte_n ⟨#[92, 34, 110]⟩ 34 _).mono ?_; rintro e w2 ⟨rfl, rfl⟩; rw [HIX.out]) | (go_at_call 136; refine (writeByte_any w.heap.size w.heap.size (Lib.byteCells acc) 34 _ HI.out (by rw [Lib.byteCells_length]; omega) hzw).mono ?_; rintro e w3 ⟨rfl, hi2, hb2⟩; have HB2 := Lib.hid (HB.out.trans hb2); rw [show Lib.byteCells acc ++ [.int .u8 34] = Lib.byteCells (acc ++ [34]) from cells_snoc acc 34] at hi2; have HI2 := Lib.hid hi2; clear hb2 hi2))
                  go_roundw
                  case rel => exact ⟨k + 2, m, acc ++ [34], by go_num, HS2.out, by omega, by simp; omega, by omega, HI2.out, HB2.out⟩
                  case measure => simp [intOf]; omega
                · by_cases h : t[k + 1].toNat = 110
                  · have f := h
                    have HIX := Lib.hid (show ixb (⟨#[92, 34, 110]⟩ : ByteArray).data.toList 110 = 2 by decide +kernel)
                    have HS2 := Lib.hid (show unqL t = unqGo t m (k + 2) (acc ++ [10]) by rw [HS.out, f]; rfl)
                    clear HS
                    go_wp2_with (first | (go_at_call 87; refine (indexByte_n ⟨#[92, 34, 110]⟩ 110 _).mono ?_; rintro e w2 ⟨rfl, rfl⟩; rw [HIX.out]) | (go_at_call 136; refine (writeByte_any w.heap.size w.heap.size (Lib.byteCells acc) 10 _ HI.out (by rw [Lib.byteCells_length]; omega) hzw).mono ?_; rintro e w3 ⟨rfl, hi2, hb2⟩; have HB2 := Lib.hid (HB.out.trans hb2); rw [show Lib.byteCells acc ++ [.int .u8 10] = Lib.byteCells (acc ++ [10]) from cells_snoc acc 10] at hi2; have HI2 := Lib.hid hi2; clear hb2 hi2))
                    go_roundw
                    case rel => exact ⟨k + 2, m, acc ++ [10], by go_num, HS2.out, by omega, by simp; omega, by omega, HI2.out, HB2.out⟩
                    case measure => simp [intOf]; omega
                  · have HIX := Lib.hid (show ixb (⟨#[92, 34, 110]⟩ : ByteArray).data.toList t[k + 1].toNat = -1 from ixb_esc hb81 f g h)
                    have HE := Lib.hid (unqV_none (show unqL t = none by rw [HS.out]; unfold escB; rw [if_neg f, if_neg g, if_neg h]))
                    clear HS
                    go_wp2_with (go_at_call 87; refine (indexByte_n _ _ _).mono ?_; rintro e w2 ⟨rfl, rfl⟩; rw [HIX.out])
                    refine bodyPost_ret (v := .tuple #[.string ⟨#[]⟩, .int .i64 0]) (by simp [results, Tryz.results121, go_sem]) rfl ?_
                    exact ⟨by rw [HE.out]; rfl, HB.out⟩
            · have HE := Lib.hid (unqV_none (show unqL t = none by rw [HS.out, if_pos (show t.size ≤ k + 1 by omega)]))
              have hki1 : ¬ (k : Int) + 1 < (t.size : Int) := by omega
              clear HS hby
              go_wp2_with fail
              refine bodyPost_ret (v := .tuple #[.string ⟨#[]⟩, .int .i64 0]) (by simp [results, Tryz.results121, go_sem]) rfl ?_
              exact ⟨by rw [HE.out]; rfl, HB.out⟩
          · have HS2 := Lib.hid (show unqL t = unqGo t m (k + 1) (acc ++ [t[k]]) by rw [HS.out, if_neg e1, if_neg e2, if_neg e3, UInt8.ofNat_toNat])
            clear HS hby
            go_wp2_with (go_at_call 136; refine (writeByte_any w.heap.size w.heap.size (Lib.byteCells acc) _ _ HI.out (by rw [Lib.byteCells_length]; omega) hzw).mono ?_; rintro e w2 ⟨rfl, hi2, hb2⟩; have HB2 := Lib.hid (HB.out.trans hb2); rw [cells_snoc] at hi2; have HI2 := Lib.hid hi2; clear hb2 hi2)
            go_roundw
            case rel => exact ⟨k + 1, m, acc ++ [t[k]], by go_num, HS2.out, by omega, by simp; omega, by omega, HI2.out, HB2.out⟩
            case measure => simp [intOf]; omega
    · have HE := Lib.hid (unqV_none (HU.out.trans (unq_end (by omega))))
      have hki : ¬ (k : Int) < (t.size : Int) := by omega
      go_wp2_with fail
      refine bodyPost_ret (v := .tuple #[.string ⟨#[]⟩, .int .i64 0]) (by simp [results, Tryz.results121, go_sem]) rfl ?_
      exact ⟨by rw [HE.out]; rfl, HB.out⟩
end Go.Proofs.YtcpakaiblelmlaaGreatDoor
namespace Go.Proofs.YtcpakaiblelmlaaGreatDoor
open Go Go.RowKit
set_option maxHeartbeats 1000000 in
theorem at_any (s : ByteArray) (i bt bc : Nat) (w : World) (h1 : Has w bt 9 #[.string s]) (h2 : Has w bc 88 clsAll) (hi : i ≤ s.size) (_hs : s.size ≤ 1000000) :
    Calls Tryz.prog 119 #[.int .i64 i, .pointer (some ⟨bt, 0, none⟩), .pointer (some ⟨bc, 0, none⟩)] w fun e w' => e = .returned (.int .u8 (clsAt s i : Nat)) ∧ w' = w := by
  obtain ⟨x1, y1⟩ := h1.facts
  have hcell : ∀ n : Nat, n < 256 → w.cell? ⟨bc, n, none⟩ = some (.int .u8 (cls n)) := fun n hn => h2.rcell n hn
  have hf : ∀ o, w.frozen? ⟨bc, o, none⟩ = false := h2.facts.2
  clear h1 h2
  by_cases hlt : i < s.size
  · have hki : (i : Int) < (s.size : Int) := by omega
    have hb8 := UInt8.toNat_lt s[i]
    have HE := Lib.hid (show clsAt s i = cls s[i].toNat by unfold clsAt; rw [if_pos hlt, byteAt_eq s i hlt])
    have hc := hcell s[i].toNat (by omega)
    clear hcell
    go_enter Tryz.func119, Tryz.ntmps119
    go_wp2_with fail
    go_ret
    exact ⟨by rw [HE.out]; rfl, rfl⟩
  · have hki : ¬ (i : Int) < (s.size : Int) := by omega
    have HE := Lib.hid (show clsAt s i = 0 by unfold clsAt; rw [if_neg hlt])
    clear hcell
    go_enter Tryz.func119, Tryz.ntmps119
    go_wp2_with fail
    go_ret
    exact ⟨by rw [HE.out]; rfl, rfl⟩
/-- What tokens lays: the text, the classes, the function that reads them. -/
structure LexB (w : World) (s : ByteArray) (bt bc ba : Nat) (W : World) : Prop where
  t : Has W bt 9 #[.string s]
  c : Has W bc 88 clsAll
  a : Has W ba 155 #[.func (.func 119) #[] #[.pointer (some ⟨bt, 0, none⟩), .pointer (some ⟨bc, 0, none⟩)]]
  b : Below w.heap.size w W
theorem LexB.below {w W W' : World} {s : ByteArray} {bt bc ba : Nat} (h : LexB w s bt bc ba W) (hb : Below W.heap.size W W') : LexB w s bt bc ba W' := ⟨h.t.below hb h.t.lt, h.c.below hb h.c.lt, h.a.below hb h.a.lt, h.b.trans (hb.mono h.b.size)⟩
set_option maxRecDepth 100000 in
set_option maxHeartbeats 2000000 in
theorem tokens_any (s : ByteArray) (w : World) :
    Calls Tryz.prog 96 #[.string s] w fun e w' => ∃ bt bc ba, e = .returned (.func (.func 120) #[] #[.pointer (some ⟨bt, 0, none⟩), .pointer (some ⟨ba, 0, none⟩)]) ∧ LexB w s bt bc ba w' := by
  have HT := Lib.hid (Has.new w 9 #[.string s])
  have HB := Lib.hid ((Below.refl w.heap.size w).alloc (Nat.le_refl _) (.cells #[.string s] 9))
  go_enter Tryz.func96, Tryz.ntmps96
  go_upto_region 2 with (first
    | (go_at_call 53; refine (classes_any _).mono ?_; rintro e w1 ⟨rfl, hb1⟩)
    | ((with_reducible show wpList _ _ _ (Oper.mk none (Op.store 88 _ _) _ _ _ _ :: _) _ _); refine wpList_store_row rfl 88 _ _ rfl w1.heap.size clsAll rfl rfl 88 Tryz.zeroCells88 (Has.new w1 _ _) clsAll_info clsAll_zero clsAll_one ?_))
  have hg : Has ((w1.alloc (.cells Tryz.zeroCells88 88)).setRow w1.heap.size clsAll) w1.heap.size 88 clsAll := setRow_heap _ _ _ _ _ _ (Has.new w1 _ _)
  have hb : Below w1.heap.size w1 ((w1.alloc (.cells Tryz.zeroCells88 88)).setRow w1.heap.size clsAll) := below_setRow (((Below.refl w1.heap.size w1).alloc (Nat.le_refl _) _)) (Nat.le_refl _) _
  generalize (w1.alloc (.cells Tryz.zeroCells88 88)).setRow w1.heap.size clsAll = W at *
  have hT1 := HT.out.below hb1 HT.out.lt
  have HTW := Lib.hid (hT1.below hb hT1.lt)
  have HBW := Lib.hid ((HB.out.trans (hb1.mono HB.out.size)).trans (hb.mono (HB.out.trans (hb1.mono HB.out.size)).size))
  have HGW := Lib.hid hg
  clear hg hb hb1 hT1 HT HB
  go_wp2_with fail
  go_ret
  exact ⟨_, w1.heap.size, _, rfl, ⟨HTW.out.alloc _, HGW.out.alloc _, Has.new _ _ _, HBW.out.alloc HBW.out.size _⟩⟩
end Go.Proofs.YtcpakaiblelmlaaGreatDoor
namespace Go.Proofs.YtcpakaiblelmlaaGreatDoor
open Go
/-- The operations that are taken next, in this order (true: its guard is false). -/
structure Plan (_ : List (Nat × Bool)) (G : Prop) : Prop where
  out : G
theorem plI (p : List (Nat × Bool)) {G : Prop} (h : Plan p G) : G := h.out
theorem plE {G : Prop} (h : G) : Plan [] G := ⟨h⟩
section
variable {P : Program} {ops : Array Oper} {md : Region.Mode} {Q : Exit → Act → World → Prop} {S : World → Prop}
theorem plF {i : Nat} {d : Option Tmp} {o : Op} {ty : TypeId} {ps : String} {af : Array Edge} {g : Option (Nat × Bool)} {fuel : Nat} {listed : Array Bool} {a : Act} {w : World} {is : List (Nat × Bool)}
    (h : Plan is (wpAnyH P md ops Q S fuel (listed.setIfInBounds i true) (a.put d undef) w))
    (hi : ops[i]? = some ⟨d, o, ty, ps, af, g⟩ := by exact rfl) (hs : Region.noSelect ops = true := by kernel_rfl) (hf : Region.free md ops listed i = true := by kernel_rfl) (hr : (Region.ready md ops listed).contains i = true := by kernel_rfl)
    (hQ : ∀ c a w, Q (.panic c) (a.put d undef) w → Q (.panic c) a w := by exact fun _ _ _ h => h) (hw : Region.wanted ⟨d, o, ty, ps, af, g⟩ (yielded ops a.tmps) = false := by kernel_rfl) (hS : S w := by assumption) :
    Plan ((i, true) :: is) (wpAnyH P md ops Q S (fuel + 1) listed a w) :=
  ⟨wpAnyH_take hi hs hf hr hQ (.inr ⟨hw, rfl⟩) hS h.out⟩
theorem plR {i : Nat} {d : Option Tmp} {o : Op} {ty : TypeId} {ps : String} {af : Array Edge} {g : Option (Nat × Bool)} {v : Value} {fuel : Nat} {listed : Array Bool} {a : Act} {w : World} {is : List (Nat × Bool)}
    (hy : ∀ w, S w → (execOp a.eval ⟨d, o, ty, ps, af, g⟩).run P w = .ok (.value v) w)
    (h : Plan is (wpAnyH P md ops Q S fuel (listed.setIfInBounds i true) (a.put d v) w))
    (hi : ops[i]? = some ⟨d, o, ty, ps, af, g⟩ := by exact rfl) (hs : Region.noSelect ops = true := by kernel_rfl) (hf : Region.free md ops listed i = true := by kernel_rfl) (hr : (Region.ready md ops listed).contains i = true := by kernel_rfl)
    (hQ : ∀ c a w, Q (.panic c) (a.put d v) w → Q (.panic c) a w := by exact fun _ _ _ h => h) (hw : Region.wanted ⟨d, o, ty, ps, af, g⟩ (yielded ops a.tmps) = true := by rfl) (hS : S w := by assumption) :
    Plan ((i, false) :: is) (wpAnyH P md ops Q S (fuel + 1) listed a w) :=
  ⟨wpAnyH_take hi hs hf hr hQ (.inl ⟨hw, hy⟩) hS h.out⟩
end
end Go.Proofs.YtcpakaiblelmlaaGreatDoor
