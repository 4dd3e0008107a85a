/- A report without one of its options: plain laws; the append law for a region that draws its order. -/
import Derived.Test.YtmbalkebdmdmaaaDoorRNm
import Derived.Test.YtmbalkebdmdmaaaDoorPk1
namespace Go.Proofs.YtmbalkebdmdmaaaDoor
open Go Go.RowKit
/-- The options without the one with index k. -/
def less (l : List Ev) (k : Nat) : List Ev := l.take k ++ l.drop (k + 1)
theorem less_len {l : List Ev} {k : Nat} (h : k < l.length) : (less l k).length = l.length - 1 := by
  unfold less; rw [List.length_append, List.length_take, List.length_drop]; omega
theorem less_sub (l : List Ev) (k : Nat) : (less l k).Sublist l := by
  unfold less
  have h : l = l.take k ++ l.drop k := (List.take_append_drop k l).symm
  have h2 : (l.drop (k + 1)).Sublist (l.drop k) := by
    rw [← List.drop_drop]; exact List.drop_sublist 1 _
  exact (List.Sublist.append (List.Sublist.refl _) h2).trans (by rw [← h]; exact List.Sublist.refl _)
theorem less_ok {l : List Ev} {k : Nat} (h : repOk l = true) (h2 : 2 ≤ l.length) (hk : k < l.length) : repOk (less l k) = true := by
  simp only [repOk, Bool.and_eq_true, decide_eq_true_eq, List.all_eq_true] at h ⊢
  refine ⟨by rw [less_len hk]; omega, fun e he => h.2.1 e ((less_sub l k).subset he), h.2.2.sublist (less_sub l k)⟩
theorem less_lo {l : List Ev} {k i : Nat} (hk : k < l.length) (hi : i < k) : (less l k).getD i noEv = l.getD i noEv := by
  unfold less
  rw [List.getD_eq_getElem?_getD, List.getD_eq_getElem?_getD, List.getElem?_append_left (by rw [List.length_take]; omega), List.getElem?_take, if_pos hi]
theorem less_hi {l : List Ev} {k i : Nat} (hk : k < l.length) (hi : k < i) : (less l k).getD (i - 1) noEv = l.getD i noEv := by
  unfold less
  rw [List.getD_eq_getElem?_getD, List.getD_eq_getElem?_getD, List.getElem?_append_right (by rw [List.length_take]; omega), List.length_take, List.getElem?_drop]
  congr 2
  omega
theorem less_names {l : List Ev} {k : Nat} (h : repOk l = true) (s : ByteArray) (hs : s ∈ repNames (less l k)) : s ∈ repNames l := by
  unfold repNames at hs ⊢
  rw [h, if_pos rfl, joinL_mem, List.mem_flatten]
  split at hs
  · rw [joinL_mem, List.mem_flatten] at hs
    obtain ⟨q, hq, hm⟩ := hs
    obtain ⟨e, he, rfl⟩ := List.mem_map.1 hq
    exact ⟨_, List.mem_map.2 ⟨e, (less_sub l k).subset he, rfl⟩, hm⟩
  · cases hs
theorem pk_one (r : Rep) (n : Int) : pk [r] [n] 1 = one r n := by
  rw [pk_succ, pk_zero]; rfl
theorem pickOk_one {r : Rep} {n : Int} (h : isC r n = true) : pickOk [r] [n] = true := by
  unfold pickOk
  refine decide_eq_true ⟨rfl, fun i hi => ?_⟩
  obtain rfl : i = 0 := by simpa using hi
  exact h
/-- The choice that stands for the same events. -/
theorem less_one {l : List Ev} {d : Bool} {k i : Nat} (hk : k < l.length) (hi : i ≠ k) :
    one ⟨less l k, d⟩ ((if k < i then i - 1 else i : Nat) : Int) = one ⟨l, d⟩ (i : Int) := by
  unfold one
  rw [show (⟨less l k, d⟩ : Rep).opts = less l k from rfl, show (⟨l, d⟩ : Rep).opts = l from rfl, less_len hk]
  split
  · by_cases h : i = l.length
    · rw [if_pos (by omega), if_pos (by omega)]
    · rw [if_neg (by omega), if_neg (by omega), Int.toNat_natCast, Int.toNat_natCast, less_hi hk (by omega)]
  · rw [if_neg (by omega), if_neg (by omega), Int.toNat_natCast, less_lo hk (by omega)]
section
variable {P : Program} {w : World}
theorem wp_app {o : Oper} {a : Act} {K : Act → World → Prop} {Q : Exit → Act → World → Prop} (s x : Operand) (t : TypeId)
    (ho : o.op = .call { callee := .builtin .append, args := #[s, x], argTypes := #[t, t] })
    (base : Nat) (e : TypeId) (i : TypeInfo) (z : Value) (size bytes : Nat) (ht : P.underlying t = some (.slice e)) (hi : P.info? e = some i) (hz : i.zero = some z)
    (hsize : i.size = size) (hby : i.bytes = bytes) (hzs : z.cells.size = size) (hsz : 0 < size)
    (v : Value) (n : Nat) (xs : List Value) (hs : a.eval s = v) (hown : w.ownsRow base e size v n xs)
    (A : Option Addr) (m c : Nat) (news : List Value) (hx : a.eval x = .slice A m c) (hl : news.length = m * size) (hA : m = 0 ∨ ∃ ad, A = some ad ∧ ∀ j u, news[j]? = some u → w.cell? (ad.add j) = some u)
    (h1 : ∀ u ∈ news, u.oneCell' = true) (h63 : n + m ≤ maxLen) (hbytes : (n + m) * bytes ≤ 140737488355328) (hbase : base ≤ w.heap.size)
    (h : ∀ v' w', w'.ownsRow base e size v' (n + m) (xs ++ news) → w.grownBy w' v.ownBlock → K (a.put o.dst v') w') :
    o.wp P a w K Q := by
  rcases A with _ | ad
  · have hm : m = 0 := by
      rcases hA with h0 | ⟨_, h0, _⟩
      · exact h0
      · cases h0
    subst hm
    obtain rfl : news = [] := List.eq_nil_of_length_eq_zero (by simpa using hl)
    have hr := append_nil_run (P := P) base t o.type e i size ht hi v n xs hown c
    unfold Oper.wp execOp
    simp only [ho, resolve, invoke, builtin, Sem.run_bind, Sem.run_pure, Result.andThen_ok, List.map_toArray, List.map_cons, List.map_nil, hs, hx, hr]
    exact h v w (by simpa using hown) (World.grownBy.refl w _)
  · refine wp_append_own w s x t ho base e i z size bytes ht hi hz hsize hby hzs hsz v n xs hs hown ad m c news hx hl ?_ h1 h63 hbytes hbase fun v' w' h2 h3 _ => h v' w' h2 h3
    rcases hA with rfl | ⟨ad', h0, hc⟩
    · obtain rfl : news = [] := List.eq_nil_of_length_eq_zero (by simpa using hl)
      intro j u hu; cases hu
    · cases h0; exact hc
end
end Go.Proofs.YtmbalkebdmdmaaaDoor
