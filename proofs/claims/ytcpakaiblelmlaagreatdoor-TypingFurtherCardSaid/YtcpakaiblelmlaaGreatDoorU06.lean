/- Rows of conditions that a call makes; the closure of rule.of. Condition: none but that the cells lie in memory. -/
import Derived.Test.YtcpakaiblelmlaaGreatDoorU02
import Derived.Test.YtcpakaiblelmlaaGreatDoorU05
namespace Go.Proofs.YtcpakaiblelmlaaGreatDoor
open Go Go.RowKit
/-- A condition's value. -/
def ExR (N : Nat) (w : World) (v : Value) (e : Ex) : Prop := ∃ kv, v = .agg #[.int .i64 e.op, .string e.name, .string e.value, .int .i64 e.n, .int .i64 e.extra, kv] ∧ LayS (fun b => N ≤ b) w kv e.kids
theorem ExR.mono {N M : Nat} {w : World} {v : Value} {e : Ex} (h : ExR M w v e) (hN : N ≤ M) : ExR N w v e := by
  obtain ⟨kv, h1, h2⟩ := h
  exact ⟨kv, h1, h2.mono fun b hb _ => Nat.le_trans hN hb⟩
def qCells (q : List (Ex × Value)) : List Value := q.flatMap fun p => exL p.1 p.2
theorem qCells_len (q : List (Ex × Value)) : (qCells q).length = q.length * 6 := by
  induction q with
  | nil => rfl
  | cons p q ih =>
    show (exL p.1 p.2 ++ qCells q).length = _
    rw [List.length_append, ih, List.length_cons]
    show 6 + _ = _
    omega
theorem qCells_get : ∀ (q : List (Ex × Value)) (i : Nat) (hi : i < q.length) (j : Nat), j < 6 → (qCells q)[i * 6 + j]? = some (exF q[i].1 q[i].2 j)
  | [], i, hi, _, _ => absurd hi (Nat.not_lt_zero i)
  | p :: q, 0, _, j, hj => by
    show (exL p.1 p.2 ++ qCells q)[0 * 6 + j]? = _
    rw [List.getElem?_append_left (by show _ < 6; omega), Nat.zero_mul, Nat.zero_add]
    exact exL_get p.1 p.2 j hj
  | p :: q, i + 1, hi, j, hj => by
    show (exL p.1 p.2 ++ qCells q)[(i + 1) * 6 + j]? = _
    rw [List.getElem?_append_right (by show 6 ≤ _; omega)]
    show (qCells q)[(i + 1) * 6 + j - 6]? = _
    rw [show (i + 1) * 6 + j - 6 = i * 6 + j by omega, qCells_get q i (by simpa using hi) j hj]
    rfl
/-- A row that the call owns reads as its conditions. -/
theorem own_lay {S : Nat → Prop} {w : World} {base t : Nat} {v : Value} {q : List (Ex × Value)} (h : w.ownsRow base t 6 v q.length (qCells q)) (hS : ∀ k, base ≤ k → S k) (hk : ∀ p ∈ q, LayS S w p.2 p.1.kids) : LayS S w v (q.map (·.1)) := by
  have hl : (q.map (·.1)).length = q.length := List.length_map _
  obtain ⟨A, c, rfl, hc⟩ : ∃ A c, v = .slice A (q.map (·.1)).length c ∧ (q.map (·.1)).length ≤ c := by
    rw [hl]
    rcases h.2 with ⟨rfl, h0⟩ | ⟨g, cap, cur, rfl, _, _, hn, _⟩
    · exact ⟨none, 0, by rw [h0], by omega⟩
    · exact ⟨_, _, rfl, hn⟩
  refine .mk A c _ (fun i => (q.getD i (exN, undef)).2) hc ?_ fun i hi => ?_
  · rcases h.2 with ⟨h0, h1⟩ | ⟨g, cap, cur, h0, hbg, hh, hn, _, hs, ht⟩
    · exact .inl (by rw [hl]; exact h1)
    · injection h0 with h0 _ _
      refine .inr ⟨g, 0, h0, hS g hbg, fun i hi j hj => ?_⟩
      rw [hl] at hi
      have h1 := qCells_get q i hi j hj
      rw [← ht, List.getElem?_take, if_pos (by omega)] at h1
      rw [Nat.zero_add, cell_of_row w g (i * 6 + j) cur t (0, 0) hh, List.getElem_map, List.getD_eq_getElem?_getD, List.getElem?_eq_getElem hi]
      simpa using h1
  · rw [hl] at hi
    rw [List.getD_eq_getElem?_getD, List.getElem?_eq_getElem hi, List.getElem_map]
    exact hk _ (List.getElem_mem hi)
theorem own_aw {w w' : World} {base t sz n g b : Nat} {v : Value} {xs : List Value} (h : w.ownsRow base t sz v n xs) (ha : Aw g b w w') (hg : g < base) (hb : b < base) : w'.ownsRow base t sz v n xs := by
  refine ⟨h.1, h.2.imp id fun ⟨k, cap, cur, h1, h2, h3, h4⟩ => ⟨k, cap, cur, h1, h2, ?_, h4⟩⟩
  have hk : k < w.heap.size := by
    rcases Nat.lt_or_ge k w.heap.size with h | h
    · exact h
    · rw [Array.getElem?_eq_none h] at h3; cases h3
  exact (ha.2.2.2.2 k hk (by omega) (by omega)).trans h3
theorem infoEx : (Tryz.prog.info? 27).map (fun i => (i.zero, i.size, i.bytes)) = some (some (.agg #[.int .i64 0, .string ⟨#[]⟩, .string ⟨#[]⟩, .int .i64 0, .int .i64 0, .slice none 0 0]), 6, 80) := by kernel_rfl
theorem exL_one (e : Ex) (kv : Value) (hk : kv.oneCell' = true) : ∀ u ∈ exL e kv, u.oneCell' = true := fun u hu => by
  simp only [exL, List.mem_cons, List.not_mem_nil, or_false] at hu
  rcases hu with rfl | rfl | rfl | rfl | rfl | rfl <;> first | rfl | exact hk
theorem LayS.one {S : Nat → Prop} {w : World} {v : Value} {ks : List Ex} (h : LayS S w v ks) : v.oneCell' = true := by
  obtain ⟨A, c, rfl, _⟩ := h.slice
  rfl
section
variable {P : Program} {w : World}
/-- append onto an own row, with what becomes of its block: the same, or a new one. -/
theorem wpList_appB {ops : Array Oper} {rest : List Oper} {o : Oper} {a : Act} {Q : Exit → Act → World → Prop} (hw : Region.wanted o (yielded ops a.tmps) = true) (s x : Operand) (t : TypeId)
    (ho : o.op = .call { callee := .builtin .append, args := #[s, x], argTypes := #[t, t] })
    (base : Nat) (e : TypeId) (i : TypeInfo) (z : Value) (size bytes : Nat) (ht : P.underlying t = some (.slice e)) (hi : P.info? e = some i) (hz : i.zero = some z)
    (hsize : i.size = size) (hby : i.bytes = bytes) (hzs : z.cells.size = size) (hsz : 0 < size)
    (v : Value) (n : Nat) (xs : List Value) (hs : a.eval s = v) (hown : w.ownsRow base e size v n xs) (hn0 : 0 < n)
    (ad : Addr) (m c : Nat) (news : List Value) (hx : a.eval x = .slice (some ad) m c) (hl : news.length = m * size) (hnews : ∀ j u, news[j]? = some u → w.cell? (ad.add j) = some u)
    (h1 : ∀ u ∈ news, u.oneCell' = true) (h63 : n + m ≤ maxLen) (hbytes : (n + m) * bytes ≤ 140737488355328) (hbase : base ≤ w.heap.size)
    (h : ∀ v' w', w'.ownsRow base e size v' (n + m) (xs ++ news) → w.grownBy w' v.ownBlock → (v'.ownBlock = v.ownBlock ∨ ∀ k, v'.ownBlock = some k → w.heap.size ≤ k) → wpList P ops Q rest (a.put o.dst v') w') : wpList P ops Q (o :: rest) a w := by
  refine BigFrame.wpList_want hw fun K hK => ?_
  obtain ⟨v', w', hr, h2, h3, _⟩ := run_append_own (P := P) w base t o.type e i z size bytes ht hi hz hsize hby hzs hsz v n xs hown ad m c news hl hnews h1 h63 hbytes hbase
  have hB : v'.ownBlock = v.ownBlock ∨ ∀ k, v'.ownBlock = some k → w.heap.size ≤ k := by
    subst hsize
    subst hby
    have hsmall : n + m ≤ 9223372036854775807 := by simp only [maxLen] at h63; omega
    rcases hown.2 with ⟨_, h0⟩ | ⟨g, cap, cur, rfl, hbg, hg, hnc, hcm, hcs, htake⟩
    · omega
    · by_cases hroom : n + m ≤ cap
      · have hfit : n * i.size + news.length ≤ cur.size := by rw [hl, hcs, ← Nat.add_mul]; exact Nat.mul_le_mul_right _ hroom
        have hr2 := run_append_room (P := P) w t o.type e i ht hi g n cap cur hg ad m c news hl hnews h1 hroom hfit
        rw [hr] at hr2
        injection hr2 with hv _
        subst hv
        exact .inl rfl
      · have holds : ∀ j u, xs[j]? = some u → w.cell? ((⟨g, 0, none⟩ : Addr).add j) = some u := hown.cells (g := g) rfl
        have hr2 := run_append_grow (P := P) w t o.type e i z ht hi hz ⟨g, 0, none⟩ n cap xs hown.1 holds ad m c news hl hnews (by omega) (by omega) (growslice_fits (by omega) hbytes)
        rw [hr] at hr2
        injection hr2 with hv _
        subst hv
        refine .inr fun k hk => ?_
        simp [Value.ownBlock] at hk
        omega
  unfold Oper.wp execOp
  simp only [ho, resolve, invoke, builtin, Sem.run_bind, Sem.run_pure, Result.andThen_ok, List.map_toArray, List.map_cons, List.map_nil, hs, hx, hr]
  exact hK _ _ (h v' w' h2 h3 hB)
end
set_option maxRecDepth 100000 in
set_option maxHeartbeats 4000000 in
theorem of1_any (op : Int) (v : Value) (ks : List Ex) (b : Nat) (w : World) {S : Nat → Prop} (hb : Has w b 3 #[.int .i64 op]) (hv : LayS S w v ks) :
    Calls Tryz.prog 138 #[v, .pointer (some ⟨b, 0, none⟩)] w fun e w' => e = .returned (.agg #[.int .i64 op, .string e0, .string e0, .int .i64 0, .int .i64 0, v]) ∧ Below w.heap.size w w' := by
  obtain ⟨c1, f1⟩ := hb.facts
  have hlt := hb.lt
  have hone := hv.one
  obtain ⟨A, c, rfl, _⟩ := hv.slice
  go_enter Tryz.func138, Tryz.ntmps138
  go_wp2
  refine bodyPost_ret (v := .agg #[.int .i64 op, .string e0, .string e0, .int .i64 0, .int .i64 0, .slice A ks.length c]) (by simp [results, Tryz.results138, go_sem, e0]) rfl ?_
  exact ⟨rfl, (Below.refl _ _).alloc (Nat.le_refl _) _⟩
set_option maxRecDepth 100000 in
set_option maxHeartbeats 4000000 in
theorem of_any (op : Int) (w : World) : Calls Tryz.prog 126 #[.int .i64 op] w fun e w' => e = .returned (.func (.func 138) #[] #[.pointer (some ⟨w.heap.size, 0, none⟩)]) ∧ Below w.heap.size w w' ∧ Has w' w.heap.size 3 #[.int .i64 op] := by
  go_enter Tryz.func126, Tryz.ntmps126
  go_wp2
  go_ret
  exact ⟨rfl, (Below.refl _ _).alloc (Nat.le_refl _) _, Has.new _ _ _⟩
end Go.Proofs.YtcpakaiblelmlaaGreatDoor
