/- lexer.Lex: the tokens of a text, or an error and its offset. Condition: the text is a string that lies in memory. -/
import Derived.RangeFuncBox
import Derived.Test.YtcpakaiblelmlaaGreatDoorU02
import Derived.Test.YtcpakaiblelmlaaGreatDoorU03
namespace Go.Proofs.YtcpakaiblelmlaaGreatDoor
open Go Go.RowKit
attribute [local go_sem] Oper.semAt_some
theorem takeF_app : ∀ (q out r : List Fnd), (∀ f ∈ q, f.err = 0) → out.length + q.length ≤ 5000 → takeF (q ++ r) out = takeF r (out ++ q)
  | [], out, r, _, _ => by rw [List.append_nil]; rfl
  | f :: q, out, r, he, hl => by
    rw [List.length_cons] at hl
    show (if f.err ≠ 0 then ([], f.err, f.pos) else if out.length = 5000 then ([], 7, f.pos) else takeF (q ++ r) (out ++ [f])) = _
    rw [if_neg (by rw [he f (List.mem_cons_self ..)]; decide), if_neg (by omega), takeF_app q (out ++ [f]) r (fun g hg => he g (List.mem_cons_of_mem _ hg)) (by simp; omega)]
    simp
theorem takeF_stop {q r : List Fnd} {x : Fnd} (h : ∀ f ∈ q, f.err = 0) (hl : q.length ≤ 5000) (hx : x.err ≠ 0) : takeF (q ++ (x :: r)) [] = ([], x.err, x.pos) := by
  rw [takeF_app q [] _ h (by simpa using hl)]
  show (if x.err ≠ 0 then _ else _) = _
  rw [if_pos hx]
theorem takeF_full {q r : List Fnd} {x : Fnd} (h : ∀ f ∈ q, f.err = 0) (hl : q.length = 5000) (hx : x.err = 0) : takeF (q ++ (x :: r)) [] = ([], 7, x.pos) := by
  rw [takeF_app q [] _ h (by simp [hl])]
  show (if x.err ≠ 0 then _ else if ([] ++ q).length = 5000 then _ else _) = _
  rw [if_neg (by rw [hx]; decide), if_pos (by simpa using hl)]
def LexI (pre : List Fnd) : Prop := (∀ f ∈ pre, f.err = 0) ∧ pre.length ≤ 5000
def LexS (pre : List Fnd) : Prop := ∀ r, takeF (pre ++ r) [] = ([], (takeF pre []).2)
theorem has_own {X Y : World} {B t : Nat} {cs : Array Value} {row : Option Nat} (h : Has X B t cs) (hg : X.grownBy Y row) (hr : ∀ r, row = some r → ∃ o : Obj, X.heap[r]? = some o ∧ o.isCells = false) : Has Y B t cs :=
  h.grown hg (fun e => by obtain ⟨o, ho, hc⟩ := hr B e.symm; rw [show X.heap[B]? = _ from h] at ho; cases ho; cases hc)
theorem KpF.grown {A B : World} {row : Option Nat} (hg : A.grownBy B row) (hr : ∀ r, row = some r → ∃ cs t, Has A r t cs ∧ ¬ (t = 135 ∨ t = 9 ∨ t = 88 ∨ t = 155)) : KpF A B := fun k cs t ht ha =>
  ha.grown hg (fun e => by
    obtain ⟨cs', t', h1, h2⟩ := hr k e.symm
    unfold Has at ha h1
    rw [ha] at h1
    injection h1 with h1
    injection h1 with _ h3
    subst h3
    exact h2 ht)
theorem KpF.of_below {A B : World} (h : Below A.heap.size A B) : KpF A B := fun _ _ _ _ ha => ha.below h ha.lt
theorem KpF.set {A : World} {g t : Nat} {cs : Array Value} (h : Has A g t cs) (ht : ¬ (t = 135 ∨ t = 9 ∨ t = 88 ∨ t = 155)) (i : Nat) (u : Value) : KpF A (A.setCell ⟨g, i, none⟩ u) := fun k cs' t' ht' ha =>
  ha.far ⟨g, i, none⟩ (fun e => by
    have e : k = g := e
    subst e
    unfold Has at ha h
    rw [ha] at h
    injection h with h
    injection h with _ h3
    subst h3
    exact ht ht') u
theorem KpF.row {A B : World} {n₀ k : Nat} {v : Value} {xs : List Value} (h : A.ownsRow n₀ 133 3 v k xs) (hg : A.grownBy B v.ownBlock) : KpF A B := KpF.grown hg fun r e => by
  rcases h.2 with ⟨rfl, _⟩ | ⟨g, cap, cur, rfl, _, hh, _⟩
  · cases e
  · have e2 : g = r := Option.some.inj e
    subst e2
    exact ⟨cur, _, hh, by decide⟩
theorem lex_stopped {w W : World} {a b c t1 t2 t3 : Nat} {v1 v2 v3 : Value} (q1 : Boxed W a t1 v1) (q2 : Boxed W b t2 v2) (q3 : Boxed W c t3 v3) (hab : a ≠ b) (hac : a ≠ c) (hbc : b ≠ c) (ha : w.heap.size ≤ a) (hb : w.heap.size ≤ b) (hc : w.heap.size ≤ c) (hB : Below w.heap.size w W) (u1 u2 u3 : Value) (B : Nat) :
    KeepsFrom B W (((W.setCell ⟨a, 0, none⟩ u1).setCell ⟨b, 0, none⟩ u2).setCell ⟨c, 0, none⟩ u3).drew ∧ Boxed (((W.setCell ⟨a, 0, none⟩ u1).setCell ⟨b, 0, none⟩ u2).setCell ⟨c, 0, none⟩ u3).drew a t1 u1 ∧ Boxed (((W.setCell ⟨a, 0, none⟩ u1).setCell ⟨b, 0, none⟩ u2).setCell ⟨c, 0, none⟩ u3).drew b t2 u2 ∧
      Boxed (((W.setCell ⟨a, 0, none⟩ u1).setCell ⟨b, 0, none⟩ u2).setCell ⟨c, 0, none⟩ u3).drew c t3 u3 ∧ Below w.heap.size w (((W.setCell ⟨a, 0, none⟩ u1).setCell ⟨b, 0, none⟩ u2).setCell ⟨c, 0, none⟩ u3).drew :=
  ⟨((((KeepsOthers.setCell _ _ _).trans (KeepsOthers.setCell _ _ _)).trans (KeepsOthers.setCell _ _ _)).trans (KeepsOthers.drew _)).from _,
    ((q1.set u1).other hab u2).other hac u3, ((q2.other (Ne.symm hab) u1).set u2).other hbc u3, ((q3.other (Ne.symm hac) u1).other (Ne.symm hbc) u2).set u3,
    (((hB.setCell (p := ⟨a, 0, none⟩) ha u1).setCell (p := ⟨b, 0, none⟩) hb u2).setCell (p := ⟨c, 0, none⟩) hc u3).drew⟩
theorem tok_src (w : World) (cs : List Value) (t : TypeId) : ∀ j u, cs[j]? = some u → (w.alloc (.cells cs.toArray t)).cell? ((⟨w.heap.size, 0, none⟩ : Addr).add j) = some u := fun j u h => by
  have h1 := (Has.new w t cs.toArray).facts.1 j
  rw [Addr.add_mid, Nat.zero_add, h1]; simpa using h
theorem infoT : (Tryz.prog.info? 133).map (fun i => (i.zero, i.size, i.bytes)) = some (some (.agg #[.int .i64 0, .string ⟨#[]⟩, .int .i64 0]), 3, 32) := by kernel_rfl
def tokV (f : Fnd) : List Value := [.int .i64 f.kind, .string f.text, .int .i64 f.pos]
def tokCells (fs : List Fnd) : List Value := fs.flatMap tokV
theorem tok_snoc (pre : List Fnd) (x : Fnd) : tokCells (pre ++ [x]) = tokCells pre ++ tokV x := by simp [tokCells]
theorem below_grown {A B : World} (h : Below A.heap.size A B) : A.grownBy B none := ⟨h.os, h.tape, h.output, h.size, fun k hk _ => h.block k hk⟩
theorem toks_stops (s : ByteArray) (bt bc ba n : Nat) (w : World) (hs : s.size ≤ 20000) (h : LxK s bt bc ba w) :
    SeqStopsK Fence.wide n Tryz.prog 120 #[.pointer (some ⟨bt, 0, none⟩), .pointer (some ⟨ba, 0, none⟩)] (fun x : Fnd => #[fndV x]) KpF (fun ys => ys = lexF s) (fun pre => pre <+: lexF s) (lexF s).length w := fun l J Jx W hW hJ _ hY h0 =>
  callsIn_wide.2 (toks_in l (n - 1) (lexF s).length s bt bc ba J Jx W hs hY (Nat.le_refl _) (fun pre A B hp hb => hJ pre A B none hp (below_grown hb) (fun r e => by cases e)) (h.below hW) h0)
set_option maxRecDepth 100000 in
set_option maxHeartbeats 8000000 in
theorem lex_any (s : ByteArray) (w : World) (_hs : s.size ≤ maxLen) :
    Calls Tryz.prog 80 #[.string s] w fun e w' => ∃ v, e = .returned (.tuple #[v, .int .i64 (lexL s).2.1, .int .i64 (lexL s).2.2]) ∧ w'.ownsRow w.heap.size 133 3 v (lexL s).1.length (tokCells (lexL s).1) ∧ Below w.heap.size w w' := by
  by_cases hbig : 20000 < s.size
  · have hbi : (20000 : Int) < (s.size : Int) := by omega
    have HE := Lib.hid (show lexL s = ([], 7, -1) by unfold lexL; rw [if_pos hbig])
    go_enter Tryz.func80, Tryz.ntmps80
    go_wp2_with fail
    have h1 := ((Has.new w 107 #[.slice none 0 0]).alloc (.cells #[.int .i64 7] 32)).alloc (.cells #[.int .i64 (-1)] 3)
    have h2 := (Has.new (w.alloc (.cells #[.slice none 0 0] 107)) 32 #[.int .i64 7]).alloc (.cells #[.int .i64 (-1)] 3)
    have h3 := Has.new ((w.alloc (.cells #[.slice none 0 0] 107)).alloc (.cells #[.int .i64 7] 32)) 3 #[.int .i64 (-1)]
    simp only [World.size_alloc] at h2 h3
    obtain ⟨c1, f1⟩ := h1.facts
    obtain ⟨c2, f2⟩ := h2.facts
    obtain ⟨c3, f3⟩ := h3.facts
    refine bodyPost_ret (v := .tuple #[.slice none 0 0, .int .i64 7, .int .i64 (-1)]) (by simp [results, Tryz.results80, go_sem]) rfl ?_
    exact ⟨_, by rw [HE.out], by rw [HE.out]; exact World.ownsRow_nil _ _ _ _, (((Below.refl w.heap.size w).alloc (Nat.le_refl _) _).alloc (by simp) _).alloc (by simp; omega) _⟩
  · have hbi : ¬ (20000 : Int) < (s.size : Int) := by omega
    have HE := Lib.hid (show lexL s = takeF (lexF s) [] by unfold lexL; rw [if_neg hbig])
    refine callsIn_wide.1 (callsIn_of_wp_marks (n := 9) Tryz.func80 rfl trivial ?_ rfl)
    simp only [Tryz.ntmps80, List.size_toArray, List.length_cons, List.length_nil, Nat.reduceAdd, Nat.reduceSub, Array.replicate_succ, Array.replicate_zero, List.push_toArray, List.append_toArray, List.nil_append, List.cons_append]
    refine wpIn_wide.2 ?_
    go_wp2_with (go_at_call 96; refine (tokens_any s _).mono ?_; rintro e w1 ⟨bt, bc, ba, rfl, hb1⟩)
    obtain ⟨ht, hc, ha, hb⟩ := hb1
    have hk : LxK s bt bc ba w1 := ⟨ht, hc, ha⟩
    have hz := hb.size
    have b1 : Boxed w1 w.heap.size 107 (.slice none 0 0) := (hb.block _ (by simp <;> omega)).trans ((((Boxed.new w 107 (.slice none 0 0)).alloc (.cells #[.int .i64 0] 32)).alloc (.cells #[.int .i64 0] 3)).alloc (.cells #[.slice none 0 0] 107))
    have b2 : Boxed w1 (w.heap.size + 1) 32 (.int .i64 0) := (hb.block _ (by simp <;> omega)).trans (by have h := ((Boxed.new (w.alloc (.cells #[.slice none 0 0] 107)) 32 (.int .i64 0)).alloc (.cells #[.int .i64 0] 3)).alloc (.cells #[.slice none 0 0] 107); rw [World.size_alloc] at h; exact h)
    have b3 : Boxed w1 (w.heap.size + 1 + 1) 3 (.int .i64 0) := (hb.block _ (by simp <;> omega)).trans (by have h := (Boxed.new ((w.alloc (.cells #[.slice none 0 0] 107)).alloc (.cells #[.int .i64 0] 32)) 3 (.int .i64 0)).alloc (.cells #[.slice none 0 0] 107); rw [World.size_alloc, World.size_alloc] at h; exact h)
    have b4 : Boxed w1 (w.heap.size + 1 + 1 + 1) 107 (.slice none 0 0) := (hb.block _ (by simp <;> omega)).trans (by have h := Boxed.new (((w.alloc (.cells #[.slice none 0 0] 107)).alloc (.cells #[.int .i64 0] 32)).alloc (.cells #[.int .i64 0] 3)) 107 (.slice none 0 0); rw [World.size_alloc, World.size_alloc, World.size_alloc] at h; exact h)
    have hz4 : w.heap.size + 4 ≤ w1.heap.size := by simp at hz; omega
    have hB : Below w.heap.size w w1 := ((((((Below.refl w.heap.size w).alloc (Nat.le_refl _) _).alloc (by simp) _).alloc (by simp; omega) _).alloc (by simp; omega) _)).trans (hb.mono (by simp; omega))
    clear ht hc ha hb hz
    refine (wpIn_wide (n := 9)).1 ?_
    refine wpIn_rangeFunc_ownH rfl (by omega) (gf := 120) (lb := #[.pointer (some ⟨bt, 0, none⟩), .pointer (some ⟨ba, 0, none⟩)]) rfl trivial (enters_of Tryz.func120 (by kernel_rfl) rfl)
      (toks_stops s bt bc ba 8 w1 (by omega) hk) KpF.trans (fun W l o o' _ h hc _ => KpF.putObj o' h hc) (Below.refl _ _) (fun _ => rfl)
      (fun pre W => ((((LexI pre ∧ Boxed W w.heap.size 107 (.slice none 0 0)) ∧ Boxed W (w.heap.size + 1) 32 (.int .i64 0)) ∧ Boxed W (w.heap.size + 1 + 1) 3 (.int .i64 0)) ∧ (∃ v, Boxed W (w.heap.size + 1 + 1 + 1) 107 v ∧ W.ownsRow w.heap.size 133 3 v pre.length (tokCells pre) ∧ True)) ∧ Below w.heap.size w W)
      (fun c pre W => ((((c = .ret ∧ LexS pre) ∧ Boxed W w.heap.size 107 (.slice none 0 0)) ∧ Boxed W (w.heap.size + 1) 32 (.int .i64 (takeF pre []).2.1)) ∧ Boxed W (w.heap.size + 1 + 1) 3 (.int .i64 (takeF pre []).2.2)) ∧ Below w.heap.size w W)
      (OwnFrom.and (OwnFrom.and (OwnFrom.and (OwnFrom.and (OwnFrom.and (ownFrom_pure _ _) (Own.from (boxed_own _ _ _) _)) (Own.from (boxed_own _ _ _) _)) (Own.from (boxed_own _ _ _) _)) (Own.from (holdsRow_own w.heap.size _ _ _ 3 (fun pre : List Fnd => pre.length) (fun pre => tokCells pre) (fun _ _ => True)) _)) (ownFrom_below (Nat.le_refl _) (by omega)))
      (fun c => OwnFrom.and (OwnFrom.and (OwnFrom.and (OwnFrom.and (ownFrom_pure _ _) (Own.from (boxed_own _ _ _) _)) (Own.from (boxed_own _ _ (fun pre : List Fnd => Value.int .i64 (takeF pre []).2.1)) _)) (Own.from (boxed_own _ _ (fun pre : List Fnd => Value.int .i64 (takeF pre []).2.2)) _)) (ownFrom_below (Nat.le_refl _) (by omega)))
      ⟨⟨⟨⟨⟨⟨fun f hf => (by cases hf), Nat.zero_le _⟩, b1⟩, b2⟩, b3⟩, ⟨_, b4, World.ownsRow_nil _ _ _ _, trivial⟩⟩, hB⟩
      (fun x a' W => ∃ Bx, w.heap.size + 4 ≤ Bx ∧ Has W Bx 135 #[.int .i64 x.kind, .string x.text, .int .i64 x.pos, .int .i64 x.err] ∧ a' = { tmps := #[.string s, undef, .pointer (some ⟨w.heap.size, 0, none⟩), .pointer (some ⟨w.heap.size + 1, 0, none⟩), .pointer (some ⟨w.heap.size + 1 + 1, 0, none⟩), .pointer (some ⟨w.heap.size + 1 + 1 + 1, 0, none⟩), .pointer (some ⟨Bx, 0, none⟩), .string s, .int .i64 s.size, .bool false, .string s, .func (.func 120) #[] #[.pointer (some ⟨bt, 0, none⟩), .pointer (some ⟨ba, 0, none⟩)], fndV x, undef, undef, undef, undef, undef, undef, undef, undef, undef, undef, undef, undef, undef, undef, undef, undef, undef, undef, undef, undef, undef, undef], defers := [] })
      (fun x a' _ X Y row hs hg hr => by obtain ⟨Bx, e1, e2, e3⟩ := hs; exact ⟨Bx, e1, has_own e2 hg (fun r e => (hr r e).2), e3⟩)
      ?assign ?body ?done ?stop
    case assign =>
      rintro l pre ⟨xk, xt, xp, xe⟩ W K ⟨⟨⟨⟨⟨hp, q1⟩, q2⟩, q3⟩, ⟨v, q4, ho, _⟩⟩, hBW⟩ hK
      dsimp only [fndV]
      gi_wp2
      exact hK _ _ ((KeepsOthers.alloc _ _).from _) (KpF.of_below ((Below.refl _ W).alloc (Nat.le_refl _) _)) ⟨⟨⟨⟨⟨hp, q1.alloc _⟩, q2.alloc _⟩, q3.alloc _⟩, ⟨v, q4.alloc _, ho.alloc _, trivial⟩⟩, hBW.alloc hBW.size _⟩ ⟨W.heap.size, by have := q4.lt; omega, Has.new W _ _, rfl⟩
    case body =>
      rintro l pre x a' W hl ⟨r, hr⟩ ⟨⟨⟨⟨⟨hp, q1⟩, q2⟩, q3⟩, ⟨v, q4, ho, _⟩⟩, hBW⟩ ⟨Bx, hBx, hX, rfl⟩ hlt
      have hmx : Tryz.prog.follows .mixedOrders = true := by kernel_rfl
      obtain ⟨cX, fX⟩ := hX.facts
      have d1 := q1.cell
      have g1 := q1.frozen
      have d2 := q2.cell
      have g2 := q2.frozen
      have d3 := q3.cell
      have g3 := q3.frozen
      have d4 := q4.cell
      have g4 := q4.frozen
      obtain ⟨xk, xt, xp, xe⟩ := x
      by_cases he : xe = 0
      · subst he
        by_cases hf : pre.length = 5000
        · have HS := Lib.hid (show ∀ r, takeF ((pre ++ [⟨xk, xt, xp, 0⟩]) ++ r) [] = ([], 7, xp) from fun r => by
            rw [List.append_assoc]; exact takeF_full hp.1 hf rfl)
          obtain ⟨A, cc, rfl⟩ : ∃ A cc, v = .slice A pre.length cc := by
            rcases ho.2 with ⟨rfl, h0⟩ | ⟨g, cap, cur, rfl, _⟩
            · exact ⟨none, 0, by rw [h0]⟩
            · exact ⟨_, _, rfl⟩
          have hfi : (pre.length : Int) = 5000 := by omega
          have hbe : ((pre.length : Int) == 5000) = true := by rw [hfi]; rfl
          gi_wp2
          gi_region_with_o (fail)
          all_goals gi_wp2
          all_goals
            obtain ⟨k1, k2, k3, k4, k5⟩ := lex_stopped q1 q2 q3 (by omega) (by omega) (by omega) (Nat.le_refl _) (by omega) (by omega) hBW (.slice none 0 0) (.int .i64 7) (.int .i64 xp) w1.heap.size
            have e0 := HS.out []
            rw [List.append_nil] at e0
            exact ⟨k1, ⟨⟨⟨⟨rfl, fun r => by rw [HS.out r, e0]⟩, k2⟩, by rw [e0]; exact k3⟩, by rw [e0]; exact k4⟩, k5⟩
        · have hlen : pre.length < 5000 := by have := hp.2; omega
          obtain ⟨i0, hi0, hz0, hz1, hz2⟩ := info_parts infoT
          obtain ⟨A, cc, rfl⟩ : ∃ A cc, v = .slice A pre.length cc := by
            rcases ho.2 with ⟨rfl, h0⟩ | ⟨g, cap, cur, rfl, _⟩
            · exact ⟨none, 0, by rw [h0]⟩
            · exact ⟨_, _, rfl⟩
          have hbe : ((pre.length : Int) == 5000) = false := by rw [beq_eq_false_iff_ne]; omega
          have hone : ∀ u ∈ ([.int .i64 xk, .string xt, .int .i64 xp] : List Value), u.oneCell' = true := fun u hu => by
            simp only [List.mem_cons, List.not_mem_nil, or_false] at hu
            rcases hu with rfl | rfl | rfl <;> rfl
          gi_wp2_with (gi_at_builtin; refine wpListIn_append_own _ rfl _ _ 107 rfl w.heap.size 133 i0 (.agg #[.int .i64 0, .string ⟨#[]⟩, .int .i64 0]) 3 32 Tryz.underlying107 hi0 hz0 hz1 hz2 rfl (by decide) _ _ _ rfl (ho.alloc _) ⟨W.heap.size, 0, none⟩ 1 1 [.int .i64 xk, .string xt, .int .i64 xp] rfl rfl (tok_src W _ _) hone (by unfold maxLen; omega) (by omega) (by have := hBW.size; simp; omega) ?_; intro v' w5 hown' hgrow _; obtain ⟨g', cap', rfl⟩ := ownsRow_succ hown'; obtain ⟨hv1, hv2, hr2, hk2, hb2⟩ := q4.appended (by decide) ho hBW.size (by omega) hown' hgrow; have hc1 := hv1.cell; have hf1 := hv1.frozen)
          have n1 := ((q1.alloc (.cells #[.int .i64 xk, .string xt, .int .i64 xp] 133)).kept hgrow (q1.not_row (by decide) ho)).other (B' := w.heap.size + 1 + 1 + 1) (by omega) (.slice (some ⟨g', 0, none⟩) (pre.length + 1) cap')
          have n2 := ((q2.alloc (.cells #[.int .i64 xk, .string xt, .int .i64 xp] 133)).kept hgrow (q2.not_row (by decide) ho)).other (B' := w.heap.size + 1 + 1 + 1) (by omega) (.slice (some ⟨g', 0, none⟩) (pre.length + 1) cap')
          have n3 := ((q3.alloc (.cells #[.int .i64 xk, .string xt, .int .i64 xp] 133)).kept hgrow (q3.not_row (by decide) ho)).other (B' := w.heap.size + 1 + 1 + 1) (by omega) (.slice (some ⟨g', 0, none⟩) (pre.length + 1) cap')
          have kp : KpF W (w5.setCell ⟨w.heap.size + 1 + 1 + 1, 0, none⟩ (.slice (some ⟨g', 0, none⟩) (pre.length + 1) cap')) := (KpF.of_below ((Below.refl W.heap.size W).alloc (Nat.le_refl _) _)).trans ((KpF.row (ho.alloc _) hgrow).trans (KpF.set hv1 (by decide) 0 _))
          refine ⟨hk2.from _, kp, ⟨⟨⟨⟨⟨fun f hf => ?_, by rw [List.length_append, List.length_singleton]; omega⟩, n1⟩, n2⟩, n3⟩, ⟨_, hv2, ?_⟩⟩, hBW.trans hb2⟩
          · rcases List.mem_append.1 hf with h | h
            · exact hp.1 f h
            · rw [List.mem_singleton] at h; subst h; rfl
          · rw [List.length_append, List.length_singleton, tok_snoc]; exact hr2
      · have hb0 : (xe == 0) = false := by rw [beq_eq_false_iff_ne]; exact he
        have HS := Lib.hid (show ∀ r, takeF ((pre ++ [⟨xk, xt, xp, xe⟩]) ++ r) [] = ([], xe, xp) from fun r => by
          rw [List.append_assoc]; exact takeF_stop hp.1 hp.2 he)
        gi_wp2
        gi_region_with_o (fail)
        all_goals gi_wp2
        all_goals
          obtain ⟨k1, k2, k3, k4, k5⟩ := lex_stopped q1 q2 q3 (by omega) (by omega) (by omega) (Nat.le_refl _) (by omega) (by omega) hBW (.slice none 0 0) (.int .i64 xe) (.int .i64 xp) w1.heap.size
          have e0 := HS.out []
          rw [List.append_nil] at e0
          exact ⟨k1, ⟨⟨⟨⟨rfl, fun r => by rw [HS.out r, e0]⟩, k2⟩, by rw [e0]; exact k3⟩, by rw [e0]; exact k4⟩, k5⟩
    case done =>
      rintro D ys W hD rfl ⟨⟨⟨⟨⟨hp, q1⟩, q2⟩, q3⟩, ⟨v, q4, ho, _⟩⟩, hBW⟩ hK
      have HE2 := Lib.hid (show lexL s = (lexF s, 0, 0) by rw [HE.out, takeF_all (lexF s) [] hp.1 (by simpa using hp.2)]; rfl)
      obtain ⟨A, cc, rfl⟩ : ∃ A cc, v = .slice A (lexF s).length cc := by
        rcases ho.2 with ⟨rfl, h0⟩ | ⟨g, cap, cur, rfl, _⟩
        · exact ⟨none, 0, by rw [h0]⟩
        · exact ⟨_, _, rfl⟩
      have d1 := q1.cell
      have g1 := q1.frozen
      have d2 := q2.cell
      have g2 := q2.frozen
      have d3 := q3.cell
      have g3 := q3.frozen
      have d4 := q4.cell
      go_wp2_with fail
      obtain ⟨_, k2, k3, k4, k5⟩ := lex_stopped q1 q2 q3 (by omega) (by omega) (by omega) (Nat.le_refl _) (by omega) (by omega) hBW (.slice A (lexF s).length cc) (.int .i64 0) (.int .i64 0) w1.heap.size
      have ho3 := ((ho.kept (grownBy_setCell' W w.heap.size (.slice A (lexF s).length cc)) (.inr (q1.not_row (by decide) ho).symm)))
      have hK1 : KeepsOthers W (((W.setCell ⟨w.heap.size, 0, none⟩ (.slice A (lexF s).length cc)).setCell ⟨w.heap.size + 1, 0, none⟩ (.int .i64 0)).setCell ⟨w.heap.size + 1 + 1, 0, none⟩ (.int .i64 0)) := ((KeepsOthers.setCell _ _ _).trans (KeepsOthers.setCell _ _ _)).trans (KeepsOthers.setCell _ _ _)
      have ho4 := ho3.kept (grownBy_setCell' _ (w.heap.size + 1) (.int .i64 0)) (.inr ((q2.other (B' := w.heap.size) (by omega) (.slice A (lexF s).length cc)).not_row (by decide) ho3).symm)
      have ho5 := ho4.kept (grownBy_setCell' _ (w.heap.size + 1 + 1) (.int .i64 0)) (.inr (((q3.other (B' := w.heap.size) (by omega) (.slice A (lexF s).length cc)).other (B' := w.heap.size + 1) (by omega) (.int .i64 0)).not_row (by decide) ho4).symm)
      have hK' := hK1.same D _ hK rfl
      have k6 := ((hBW.setCell (p := ⟨w.heap.size, 0, none⟩) (Nat.le_refl _) (.slice A (lexF s).length cc)).setCell (p := ⟨w.heap.size + 1, 0, none⟩) (by simp) (.int .i64 0)).setCell (p := ⟨w.heap.size + 1 + 1, 0, none⟩) (by simp; omega) (.int .i64 0)
      obtain ⟨V, hV⟩ : ∃ V, V = ((W.setCell ⟨w.heap.size, 0, none⟩ (.slice A (lexF s).length cc)).setCell ⟨w.heap.size + 1, 0, none⟩ (.int .i64 0)).setCell ⟨w.heap.size + 1 + 1, 0, none⟩ (.int .i64 0) := ⟨_, rfl⟩
      rw [← hV] at k2 k3 k4 k6 ho5 hK' ⊢
      clear hV hK1 k5
      have k2 : Boxed V w.heap.size 107 (.slice A (lexF s).length cc) := k2
      have k3 : Boxed V (w.heap.size + 1) 32 (.int .i64 0) := k3
      have k4 : Boxed V (w.heap.size + 1 + 1) 3 (.int .i64 0) := k4
      refine ⟨by simp, .inl ⟨_, _, rfl, run_takeDeferred hK', ?_⟩⟩
      have c1 := cell_kept k2.cell (grownBy_putObj' _ D (.deferred none)) (fun r e => by cases e; exact ⟨_, hK', rfl⟩)
      have c2 := cell_kept k3.cell (grownBy_putObj' _ D (.deferred none)) (fun r e => by cases e; exact ⟨_, hK', rfl⟩)
      have c3 := cell_kept k4.cell (grownBy_putObj' _ D (.deferred none)) (fun r e => by cases e; exact ⟨_, hK', rfl⟩)
      refine ⟨.tuple #[.slice A (lexF s).length cc, .int .i64 0, .int .i64 0], ?_, _, by rw [HE2.out], by rw [HE2.out]; exact ownsRow_putObj ho5 _ hK' rfl, k6.trans (belowK_b (w := w) (Nat.le_refl _) V D _ _ (by omega) hK' rfl rfl)⟩
      simp [results, Tryz.f80, go_sem, c1, c2, c3]
    case stop =>
      rintro D c pre W hD hpre ⟨⟨⟨⟨⟨rfl, hS⟩, q1⟩, q2⟩, q3⟩, hBW⟩ hK
      obtain ⟨r, hr⟩ := hpre
      have HE2 := Lib.hid (show lexL s = ([], (takeF pre []).2) by rw [HE.out, ← hr]; exact hS r)
      gi_wp2
      refine ⟨by simp, .inl ⟨_, _, rfl, run_takeDeferred hK, ?_⟩⟩
      have c1 := cell_kept q1.cell (grownBy_putObj' _ D (.deferred none)) (fun r e => by cases e; exact ⟨_, hK, rfl⟩)
      have c2 := cell_kept q2.cell (grownBy_putObj' _ D (.deferred none)) (fun r e => by cases e; exact ⟨_, hK, rfl⟩)
      have c3 := cell_kept q3.cell (grownBy_putObj' _ D (.deferred none)) (fun r e => by cases e; exact ⟨_, hK, rfl⟩)
      refine ⟨.tuple #[.slice none 0 0, .int .i64 (takeF pre []).2.1, .int .i64 (takeF pre []).2.2], ?_, _, by rw [HE2.out], by rw [HE2.out]; exact World.ownsRow_nil _ _ _ _, hBW.trans (belowK_b (w := w) (Nat.le_refl _) W D _ _ (by omega) hK rfl rfl)⟩
      simp [results, Tryz.f80, go_sem, c1, c2, c3]
end Go.Proofs.YtcpakaiblelmlaaGreatDoor
