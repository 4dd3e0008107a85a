/- bogieref09.Names, bogieref13.put and Names, bogieref01.Same. Condition: the strings lie in memory. bogieref13.Names. Condition: the strings lie in memory. -/
import Derived.Test.YtjlpllnhefafkaaGreatDoorU08
import Derived.Test.YtjlpllnhefafkaaGreatDoorXD
import Derived.Test.YtjlpllnhefafkaaGreatDoorXV
import Derived.Test.YtjlpllnhefafkaaGreatDoorXW
namespace Go.Proofs.YtjlpllnhefafkaaGreatDoor
open Go Go.RowKit
set_option maxRecDepth 100000 in
set_option maxHeartbeats 2000000 in
theorem names9_any (e : Ev) (w : World) (hs : e.short) :
    Calls Tryz.prog 33 #[.agg e.cells] w fun r w' => ∃ v', r = .returned v' ∧ w'.ownsRow w.heap.size 9 1 v' (evNames e).length ((evNames e).map .string) ∧ Below w.heap.size w w' := by
  have hv := Lib.hid (fun W => refEv_any e W hs)
  clear hs
  cases hok : evOk e
  · have hr := Lib.hid (show evNames e = [] by simp [evNames, hok])
    have HOK := Lib.hid hok
    clear hok
    obtain ⟨op, day, part, kind, into, slot, key, value, kl, kh, cl, ch, ll, lh⟩ := e
    show Calls Tryz.prog 33 #[.agg #[.int .i64 op, .int .i64 day, .string part, .string kind, .string into, .string slot, .string key, .string value, .int .i64 kl, .int .i64 kh, .int .i64 cl, .int .i64 ch, .int .i64 ll, .int .i64 lh]] w _
    go_enter Tryz.func33, Tryz.ntmps33
    go_wp2_with (go_at_call 30; refine (hv.out _).mono ?_; rintro r w2 ⟨rfl, hb2⟩; rw [HOK.out]; obtain ⟨hE2, hB2, hz2⟩ := boxed hb2; obtain ⟨hc2, hf2⟩ := hE2.facts; have HB2 := Lib.hid hB2; clear hb2 hE2 hB2)
    go_ret
    exact ⟨_, rfl, by rw [hr.out]; exact World.ownsRow_nil _ _ _ _, HB2.out⟩
  · by_cases h2 : e.op = 2
    · have hr := Lib.hid (show evNames e = [Lib.minS e.part e.into, Lib.maxS e.part e.into] by simp [evNames, hok, h2])
      have HOK := Lib.hid hok
      clear hok
      obtain ⟨op, day, part, kind, into, slot, key, value, kl, kh, cl, ch, ll, lh⟩ := e
      dsimp only at h2 hr
      subst h2
      have hmn := fun w => Lib.run_min_strs (P := Tryz.prog) w #[9, 9] 9 part into
      have hmx := fun w => Lib.run_max_strs (P := Tryz.prog) w #[9, 9] 9 part into
      show Calls Tryz.prog 33 #[.agg #[.int .i64 2, .int .i64 day, .string part, .string kind, .string into, .string slot, .string key, .string value, .int .i64 kl, .int .i64 kh, .int .i64 cl, .int .i64 ch, .int .i64 ll, .int .i64 lh]] w _
      go_enter Tryz.func33, Tryz.ntmps33
      go_wp2_with (go_at_call 30; refine (hv.out _).mono ?_; rintro r w2 ⟨rfl, hb2⟩; rw [HOK.out]; obtain ⟨hE2, hB2, hz2⟩ := boxed hb2; obtain ⟨hc2, hf2⟩ := hE2.facts; have HB2 := Lib.hid hB2; clear hb2 hE2 hB2)
      go_ret
      refine ⟨_, rfl, ?_, HB2.out.alloc HB2.out.size _⟩
      rw [hr.out]
      exact own_lit (n := 2) (Has.new w2 _ #[.string (Lib.minS part into), .string (Lib.maxS part into)]) HB2.out.size rfl (by simp [maxLen])
    · have hr := Lib.hid (show evNames e = [e.part] by simp [evNames, hok, h2])
      have HOK := Lib.hid hok
      clear hok
      obtain ⟨op, day, part, kind, into, slot, key, value, kl, kh, cl, ch, ll, lh⟩ := e
      dsimp only at h2 hr
      have hb2' : (op == 2) = false := by simpa using h2
      clear h2
      show Calls Tryz.prog 33 #[.agg #[.int .i64 op, .int .i64 day, .string part, .string kind, .string into, .string slot, .string key, .string value, .int .i64 kl, .int .i64 kh, .int .i64 cl, .int .i64 ch, .int .i64 ll, .int .i64 lh]] w _
      go_enter Tryz.func33, Tryz.ntmps33
      go_wp2_with (go_at_call 30; refine (hv.out _).mono ?_; rintro r w2 ⟨rfl, hb2⟩; rw [HOK.out]; obtain ⟨hE2, hB2, hz2⟩ := boxed hb2; obtain ⟨hc2, hf2⟩ := hE2.facts; have HB2 := Lib.hid hB2; clear hb2 hE2 hB2)
      go_ret
      refine ⟨_, rfl, ?_, HB2.out.alloc HB2.out.size _⟩
      rw [hr.out]
      exact own_lit (n := 1) (Has.new w2 _ #[.string part]) HB2.out.size rfl (by simp [maxLen])
theorem list_byes01 {l1 l2 : List ByteArray} (hl : l1.length = l2.length) (h : ∀ j, j < l1.length → l1.getD j ⟨#[]⟩ = l2.getD j ⟨#[]⟩) : l1 = l2 :=
  List.ext_getElem hl fun j h1 h2 => by
    have h3 := h j h1
    rwa [List.getD_eq_getElem?_getD, List.getD_eq_getElem?_getD, List.getElem?_eq_getElem h1, List.getElem?_eq_getElem h2] at h3
set_option maxRecDepth 100000 in
set_option maxHeartbeats 4000000 in
theorem strings01_any (v1 v2 : Value) (l1 l2 : List ByteArray) (w : World) (h1 : Sl w v1 l1.length 1 (strF l1)) (h2 : Sl w v2 l2.length 1 (strF l2)) (hm : l1.length ≤ 1000000) :
    Calls Tryz.prog 18 #[v1, v2] w fun e w' => e = .returned (.bool (decide (l1 = l2))) ∧ Below w.heap.size w w' := by
  obtain ⟨A1, c1, rfl, hn1, h1⟩ := h1
  obtain ⟨A2, c2, rfl, hn2, h2⟩ := h2
  by_cases hl : l1.length = l2.length
  · have hli : ((l1.length : Int) == (l2.length : Int)) = true := by rw [hl]; simp
    have hlb : (l1.length : Int) = (l2.length : Int) := by rw [hl]
    have HL := Lib.hid hl
    have H1 := Lib.hid h1
    have H2 := Lib.hid h2
    clear h1 h2
    go_enter Tryz.func18, Tryz.ntmps18
    go_wp2_with fail
    go_loopw [5] (fun i wr => ∃ k : Nat, k ≤ l1.length ∧ i = .int .i64 k ∧ Hid (∀ j, j < k → l1.getD j ⟨#[]⟩ = l2.getD j ⟨#[]⟩) ∧ Hid (Below w.heap.size w wr)) (fun i _ => l1.length - (intOf i).toNat)
    case atStart => exact ⟨0, by omega, rfl, Lib.hid (fun j hj => by omega), Lib.hid (Below.refl _ _)⟩
    case round =>
      obtain ⟨k, hk, rfl, HP, HB⟩ := hrel
      by_cases hke : k = l1.length
      · subst hke
        have HD := Lib.hid (show decide (l1 = l2) = true from decide_eq_true (list_byes01 HL.out HP.out))
        have hlt : ¬ ((l1.length : Int) < (l1.length : Int)) := by omega
        go_wp2_with fail
        refine bodyPost_ret (v := .bool true) (by simp [results, Tryz.results18, go_sem]) rfl ?_
        exact ⟨by rw [HD.out], HB.out⟩
      have hki : (k : Int) < (l1.length : Int) := by omega
      have hkj : (k : Int) < (l2.length : Int) := by omega
      have hkn : k < l1.length := by omega
      have hkm : k < l2.length := by omega
      obtain ⟨b1, o1, rfl, g1⟩ : ∃ b o, A1 = some ⟨b, o, none⟩ ∧ ∀ j, j < l1.length * 1 → w.cell? ⟨b, o + j, none⟩ = some (strF l1 j) := by
        rcases H1.out with h0 | h0
        · omega
        · exact h0
      obtain ⟨b2, o2, rfl, g2⟩ : ∃ b o, A2 = some ⟨b, o, none⟩ ∧ ∀ j, j < l2.length * 1 → w.cell? ⟨b, o + j, none⟩ = some (strF l2 j) := by
        rcases H2.out with h0 | h0
        · omega
        · exact h0
      obtain ⟨s1, hs1⟩ : ∃ s, s = l1.getD k ⟨#[]⟩ := ⟨_, rfl⟩
      obtain ⟨s2, hs2⟩ : ∃ s, s = l2.getD k ⟨#[]⟩ := ⟨_, rfl⟩
      have hx : wr.drew.cell? ⟨b1, o1 + k, none⟩ = some (.string s1) := hs1 ▸ cell_later HB.out.drew (g1 k (by omega))
      have hy : wr.drew.cell? ⟨b2, o2 + k, none⟩ = some (.string s2) := hs2 ▸ cell_later HB.out.drew (g2 k (by omega))
      have HS1 := Lib.hid hs1
      have HS2 := Lib.hid hs2
      clear hs1 hs2
      go_wp2_with fail
      refine wp_region_held_drew (S := fun W => W.cell? ⟨b1, o1 + k, none⟩ = some (.string s1) ∧ W.cell? ⟨b2, o2 + k, none⟩ = some (.string s2)) (by kernel_rfl) (⟨hx, hy⟩) (fun hHeld => ?_)
      refine plI [(0, false), (1, false), (2, false), (3, false), (4, false), (5, false), (6, false), (7, false), (8, false)] ?_
      repeat ((first | ((with_reducible show Plan ((_, true) :: _) _); refine plF ?_) | (refine plR (v := ?_) ?_ ?_; rotate_left; focus (intro W hSW; (try dsimp only at hSW); go_simp; all_goals (with_reducible rfl)))); try simp only [Act.put, List.setIfInBounds_toArray, List.set_cons_zero, List.set_cons_succ])
      refine plE ?_
      refine wpAnyH_done (by kernel_rfl) ?_ _
      clear hHeld
      generalize hbb : (s1.toList == s2.toList) = bb
      rw [bytes_beq, HS1.out, HS2.out] at hbb
      cases bb
      · have hne := of_decide_eq_false hbb
        have HD := Lib.hid (show decide (l1 = l2) = false from decide_eq_false (fun e => hne (by rw [e])))
        clear hbb hne
        go_wp2_with fail
        refine bodyPost_ret (v := .bool false) (by simp [results, Tryz.results18, go_sem]) rfl ?_
        exact ⟨by rw [HD.out], HB.out.drew⟩
      · have heq : l1.getD k ⟨#[]⟩ = l2.getD k ⟨#[]⟩ := of_decide_eq_true hbb
        clear hbb
        go_wp2_with fail
        go_roundw
        case rel => exact ⟨k + 1, by omega, rfl, Lib.hid (fun j hj => by rcases (by omega : j < k ∨ j = k) with h | h; exact HP.out j h; subst h; exact heq), Lib.hid HB.out.drew⟩
        case measure => simp [intOf]; omega
  · have hli : ((l1.length : Int) == (l2.length : Int)) = false := by rw [beq_eq_false_iff_ne]; omega
    have HD := Lib.hid (show decide (l1 = l2) = false from decide_eq_false (fun e => hl (by rw [e])))
    clear h1 h2
    go_enter Tryz.func18, Tryz.ntmps18
    go_wp2_with fail
    refine bodyPost_ret (v := .bool false) (by simp [results, Tryz.results18, go_sem]) rfl ?_
    exact ⟨by rw [HD.out], Below.refl _ _⟩
theorem ltS_eq (x y : ByteArray) : Op.bytesLess x.toList y.toList = decide (toL x < toL y) := by
  rw [Proofs.bytesLess_eq, Lib.toList_data, Lib.toList_data]
  rfl
/-- A text put into an ordered list, unless it is there. -/
def putN : List ByteArray → ByteArray → List ByteArray
  | [], s => [s]
  | x :: r, s => if toL x < toL s then x :: putN r s else if x = s then x :: r else s :: x :: r
theorem putN_at : ∀ (l : List ByteArray) (s : ByteArray) (k : Nat), k ≤ l.length → (∀ j, j < k → toL (l.getD j ⟨#[]⟩) < toL s) → (k < l.length → ¬ toL (l.getD k ⟨#[]⟩) < toL s) →
    putN l s = if k < l.length ∧ l.getD k ⟨#[]⟩ = s then l else l.take k ++ s :: l.drop k
  | [], s, k, hk, _, _ => by
    have : k = 0 := by simpa using hk
    subst this
    rw [if_neg (fun h => Nat.not_lt_zero _ h.1)]; rfl
  | x :: r, s, 0, _, _, h => by
    have h0 : ¬ toL x < toL s := h (Nat.succ_pos _)
    show (if toL x < toL s then _ else if x = s then x :: r else s :: x :: r) = _
    rw [if_neg h0]
    by_cases e : x = s
    · rw [if_pos e, if_pos ⟨Nat.succ_pos _, e⟩]
    · rw [if_neg e, if_neg (fun h => e h.2)]; rfl
  | x :: r, s, k + 1, hk, hl, h => by
    have h0 : toL x < toL s := hl 0 (Nat.succ_pos _)
    have ih := putN_at r s k (by simpa using hk) (fun j hj => by have := hl (j + 1) (by omega); simpa using this) (fun hk2 => by have := h (by simpa using hk2); simpa using this)
    show (if toL x < toL s then x :: putN r s else _) = _
    rw [if_pos h0, ih]
    by_cases c : k < r.length ∧ r.getD k ⟨#[]⟩ = s
    · rw [if_pos c, if_pos ⟨by simpa using c.1, by simpa using c.2⟩]
    · rw [if_neg c, if_neg (fun h => c ⟨by simpa using h.1, by simpa using h.2⟩)]; rfl
theorem putN_len (l : List ByteArray) (s : ByteArray) : (putN l s).length ≤ l.length + 1 := by
  induction l with
  | nil => exact Nat.le_refl _
  | cons x r ih =>
    unfold putN
    split
    · simpa using ih
    · split <;> simp
theorem putN_mem (l : List ByteArray) (s t : ByteArray) : t ∈ putN l s ↔ t ∈ l ∨ t = s := by
  induction l with
  | nil => simp [putN]
  | cons x r ih =>
    unfold putN
    split
    · rw [List.mem_cons, List.mem_cons, ih, or_assoc]
    · split
      · rename_i e
        constructor
        · exact .inl
        · rintro (h | rfl)
          · exact h
          · rw [← e]; exact List.mem_cons_self ..
      · simp only [List.mem_cons]
        constructor
        · rintro (h | h | h)
          · exact .inr h
          · exact .inl (.inl h)
          · exact .inl (.inr h)
        · rintro ((h | h) | h)
          · exact .inr (.inl h)
          · exact .inr (.inr h)
          · exact .inl h
theorem toL_inj {x y : ByteArray} (h : toL x = toL y) : x = y := by rw [← ofL_toL x, h, ofL_toL]
theorem lt_tri {x s : ByteArray} (h : ¬ toL x < toL s) (hne : x ≠ s) : toL s < toL x := by
  have h1 : toL s ≤ toL x := List.not_lt.1 h
  exact lt_of_le_ne _ _ h1 fun e => hne (toL_inj e.symm)
theorem putN_sorted (l : List ByteArray) (s : ByteArray) (h : l.Pairwise fun a b => toL a < toL b) : (putN l s).Pairwise fun a b => toL a < toL b := by
  induction l with
  | nil => exact List.pairwise_singleton _ _
  | cons x r ih =>
    rw [List.pairwise_cons] at h
    unfold putN
    split
    · rename_i hx
      rw [List.pairwise_cons]
      refine ⟨fun y hy => ?_, ih h.2⟩
      rcases (putN_mem r s y).1 hy with hy | rfl
      · exact h.1 y hy
      · exact hx
    · split
      · exact List.pairwise_cons.2 h
      · rename_i hx hne
        have hsx := lt_tri hx hne
        refine List.pairwise_cons.2 ⟨fun y hy => ?_, List.pairwise_cons.2 h⟩
        rcases List.mem_cons.1 hy with rfl | hy
        · exact hsx
        · exact List.lt_trans hsx (h.1 y hy)
theorem sorted_eq : ∀ (a b : List ByteArray), a.Pairwise (fun x y => toL x < toL y) → b.Pairwise (fun x y => toL x < toL y) → (∀ t, t ∈ a ↔ t ∈ b) → a = b
  | [], [], _, _, _ => rfl
  | [], y :: b, _, _, h => by have := (h y).2 (List.mem_cons_self ..); cases this
  | x :: a, [], _, _, h => by have := (h x).1 (List.mem_cons_self ..); cases this
  | x :: a, y :: b, ha, hb, h => by
    rw [List.pairwise_cons] at ha hb
    have hxy : x = y := by
      rcases List.mem_cons.1 ((h x).1 (List.mem_cons_self ..)) with e | hx
      · exact e
      · rcases List.mem_cons.1 ((h y).2 (List.mem_cons_self ..)) with e | hy
        · exact e.symm
        · exact absurd (ha.1 y hy) (List.lt_asymm (hb.1 x hx))
    subst hxy
    have irr : ∀ z : ByteArray, ¬ toL z < toL z := fun z h => List.lt_irrefl _ h
    rw [sorted_eq a b ha.2 hb.2 fun t => ?_]
    constructor
    · intro ht
      rcases List.mem_cons.1 ((h t).1 (List.mem_cons_of_mem _ ht)) with rfl | h2
      · exact absurd (ha.1 t ht) (irr _)
      · exact h2
    · intro ht
      rcases List.mem_cons.1 ((h t).2 (List.mem_cons_of_mem _ ht)) with rfl | h2
      · exact absurd (hb.1 t ht) (irr _)
      · exact h2
/-- The names that the reference has put together. -/
def putAll (l S : List ByteArray) : List ByteArray := S.foldl putN l
theorem putAll_mem (S : List ByteArray) : ∀ (l : List ByteArray) (t : ByteArray), t ∈ putAll l S ↔ t ∈ l ∨ t ∈ S := by
  induction S with
  | nil => intro l t; simp [putAll]
  | cons s r ih =>
    intro l t
    show t ∈ putAll (putN l s) r ↔ _
    rw [ih, putN_mem, List.mem_cons, or_assoc]
theorem putAll_sorted (S : List ByteArray) : ∀ (l : List ByteArray), l.Pairwise (fun x y => toL x < toL y) → (putAll l S).Pairwise fun x y => toL x < toL y := by
  induction S with
  | nil => intro l h; exact h
  | cons s r ih => intro l h; exact ih _ (putN_sorted l s h)
theorem putAll_len (S : List ByteArray) : ∀ (l : List ByteArray), (putAll l S).length ≤ l.length + S.length := by
  induction S with
  | nil => intro l; exact Nat.le_refl _
  | cons s r ih => intro l; have h1 := ih (putN l s); have h2 := putN_len l s; show (putAll (putN l s) r).length ≤ _; rw [List.length_cons]; omega
theorem putAll_join (S : List ByteArray) : putAll [] S = joinL S :=
  sorted_eq _ _ (putAll_sorted S [] .nil) (joinL_sorted S) fun t => by rw [putAll_mem, joinL_mem]; simp
theorem putAll_snoc (l S : List ByteArray) (s : ByteArray) : putAll l (S ++ [s]) = putN (putAll l S) s := by unfold putAll; rw [List.foldl_append]; rfl
section
variable {P : Program} {w : World}
theorem wp_appG {o : Oper} {a : Act} {K : Act → World → Prop} {Q : Exit → Act → World → Prop} (s x : Operand) (t : TypeId)
    (ho : o.op = .call { callee := .builtin .append, args := #[s, x], argTypes := #[t, t] })
    (base : Nat) (e : TypeId) (i : TypeInfo) (z : Value) (size bytes : Nat) (ht : P.underlying t = some (.slice e)) (hi : P.info? e = some i) (hz : i.zero = some z)
    (hsize : i.size = size) (hby : i.bytes = bytes) (hzs : z.cells.size = size) (hsz : 0 < size)
    (v : Value) (n : Nat) (xs : List Value) (hs : a.eval s = v) (hown : w.ownsRow base e size v n xs)
    (A : Option Addr) (m c : Nat) (news : List Value) (hx : a.eval x = .slice A m c) (hl : news.length = m * size) (hA : m = 0 ∨ ∃ ad, A = some ad ∧ ∀ j u, news[j]? = some u → w.cell? (ad.add j) = some u)
    (h1 : ∀ u ∈ news, u.oneCell' = true) (h63 : n + m ≤ maxLen) (hbytes : (n + m) * bytes ≤ 140737488355328) (hbase : base ≤ w.heap.size)
    (h : ∀ v' w', w'.ownsRow base e size v' (n + m) (xs ++ news) → w.grownBy w' v.ownBlock → K (a.put o.dst v') w') :
    o.wp P a w K Q := by
  rcases A with _ | ad
  · have hm : m = 0 := by
      rcases hA with h0 | ⟨_, h0, _⟩
      · exact h0
      · cases h0
    subst hm
    obtain rfl : news = [] := List.eq_nil_of_length_eq_zero (by simpa using hl)
    have hr := append_nil_run (P := P) base t o.type e i size ht hi v n xs hown c
    unfold Oper.wp execOp
    simp only [ho, resolve, invoke, builtin, Sem.run_bind, Sem.run_pure, Result.andThen_ok, List.map_toArray, List.map_cons, List.map_nil, hs, hx, hr]
    exact h v w (by simpa using hown) (World.grownBy.refl w _)
  · refine wp_append_own w s x t ho base e i z size bytes ht hi hz hsize hby hzs hsz v n xs hs hown ad m c news hx hl ?_ h1 h63 hbytes hbase fun v' w' h2 h3 _ => h v' w' h2 h3
    rcases hA with rfl | ⟨ad', h0, hc⟩
    · obtain rfl : news = [] := List.eq_nil_of_length_eq_zero (by simpa using hl)
      intro j u hu; cases hu
    · cases h0; exact hc
end
theorem str_ones (l : List ByteArray) : ∀ u ∈ l.map Value.string, u.oneCell' = true := by
  intro u hu
  obtain ⟨x, _, rfl⟩ := List.mem_map.1 hu
  rfl
theorem src_from {W : World} {A : Option Addr} {l : List ByteArray} {n : Nat} (hl : n = l.length) (h : n = 0 ∨ ∃ b o, A = some ⟨b, o, none⟩ ∧ ∀ j, j < n * 1 → W.cell? ⟨b, o + j, none⟩ = some (strF l j)) :
    l.length = 0 ∨ ∃ ad, A = some ad ∧ ∀ j u, (l.map Value.string)[j]? = some u → W.cell? (ad.add j) = some u := by
  rcases h with h | ⟨b, o, hA, hc⟩
  · exact .inl (by omega)
  · refine .inr ⟨_, hA, fun j u hu => ?_⟩
    rw [Addr.add_mid]
    have hj : j < l.length := by
      rcases Nat.lt_or_ge j l.length with h | h
      · exact h
      · rw [List.getElem?_eq_none (by simpa using h)] at hu; cases hu
    rw [hc j (by omega), ← hu, List.getElem?_map, List.getElem?_eq_getElem hj]
    unfold strF
    rw [List.getD_eq_getElem?_getD, List.getElem?_eq_getElem hj]; rfl
theorem own_cells {w : World} {base g n cap : Nat} {l : List ByteArray} (h : w.ownsRow base 9 1 (.slice (some ⟨g, 0, none⟩) n cap) l.length (l.map .string)) : g < w.heap.size ∧ base ≤ g ∧ n = l.length ∧ n ≤ cap ∧ cap ≤ maxLen ∧ ∀ j, j < l.length → w.cell? ⟨g, j, none⟩ = some (.string (l.getD j ⟨#[]⟩)) := by
  rcases h.2 with ⟨h0, _⟩ | ⟨g', cap', cur, h0, hg, hh, hn, hc, hs, ht⟩
  · cases h0
  · cases h0
    refine ⟨?_, hg, rfl, hn, hc, fun j hj => ?_⟩
    · rcases Nat.lt_or_ge g w.heap.size with h1 | h1
      · exact h1
      · rw [Array.getElem?_eq_none h1] at hh; cases hh
    · rw [cell_of_row w g j cur _ (0, 0) hh]
      have h1 : (l.map Value.string)[j]? = some (.string (l.getD j ⟨#[]⟩)) := by
        rw [List.getElem?_map, List.getD_eq_getElem?_getD, List.getElem?_eq_getElem hj]; rfl
      rw [← ht, List.getElem?_take, if_pos (by omega)] at h1
      simpa using h1
set_option maxRecDepth 100000 in
set_option maxHeartbeats 8000000 in
theorem put_cells (l : List ByteArray) (s : ByteArray) (g n cap : Nat) (w : World) (B : Nat) (hB : B ≤ w.heap.size) (hl : l.length ≤ 1000) (ho : w.ownsRow B 9 1 (.slice (some ⟨g, 0, none⟩) n cap) l.length (l.map .string)) :
    Calls Tryz.prog 34 #[.slice (some ⟨g, 0, none⟩) n cap, .string s] w fun e w' => ∃ v', e = .returned v' ∧ w'.ownsRow B 9 1 v' (putN l s).length ((putN l s).map .string) ∧ Below w.heap.size w w' := by
  have HOW := Lib.hid ho
  obtain ⟨hg, hBg, rfl, hnc, hcm, hcell⟩ := own_cells ho
  obtain ⟨i0, hi, hz0, hq1, hq2⟩ := info_parts info_str
  have HI := Lib.hid hi
  have HZ := Lib.hid hz0
  have HC := Lib.hid hcell
  unfold maxLen at hcm
  have HSRC : ∀ (W : World), Below w.heap.size w W → ∀ q n, (q = 0 ∧ n ≤ l.length ∨ n = l.length - q) → n = 0 ∨ ∃ ad, (some ⟨g, q, none⟩ : Option Addr) = some ad ∧ ∀ j u, (((l.drop q).take n).map Value.string)[j]? = some u → W.cell? (ad.add j) = some u := fun W hb q n hqn => .inr ⟨_, rfl, fun j u hu => by
    rw [Addr.add_mid]
    have hj : j < n ∧ q + j < l.length := by
      rcases Nat.lt_or_ge j (((l.drop q).take n).map Value.string).length with h | h
      · rw [List.length_map, List.length_take, List.length_drop] at h; omega
      · rw [List.getElem?_eq_none h] at hu; cases hu
    rw [cell_later hb (hcell (q + j) hj.2), ← hu, List.getElem?_map, List.getElem?_take, if_pos hj.1, List.getElem?_drop, List.getD_eq_getElem?_getD, List.getElem?_eq_getElem hj.2]; rfl⟩
  clear hcell hi hz0 ho
  go_enter Tryz.func34, Tryz.ntmps34
  go_wp2_with fail
  go_loopw [5] (fun i wr => ∃ k : Nat, k ≤ l.length ∧ i = .int .i64 k ∧ Hid (∀ j, j < k → toL (l.getD j ⟨#[]⟩) < toL s) ∧ Hid (Below w.heap.size w wr)) (fun i _ => l.length - (intOf i).toNat)
  case atStart => exact ⟨0, Nat.zero_le _, rfl, fun j hj => absurd hj (Nat.not_lt_zero _), Below.refl _ _⟩
  case round =>
    obtain ⟨k, hk, rfl, HR0, HB⟩ := hrel
    by_cases hlt : k < l.length
    · have hki : (k : Int) < (l.length : Int) := by omega
      have hd : wr.cell? ⟨g, k, none⟩ = some (.string (l.getD k ⟨#[]⟩)) := cell_later HB.out (HC.out k hlt)
      obtain ⟨t, htt⟩ : ∃ t, l.getD k ⟨#[]⟩ = t := ⟨_, rfl⟩
      rw [htt] at hd
      have HT := Lib.hid htt
      clear htt
      by_cases h1 : toL t < toL s
      · have hbl : Op.bytesLess t.toList s.toList = true := by rw [ltS_eq]; exact decide_eq_true h1
        have HN : Hid (∀ j, j < k + 1 → toL (l.getD j ⟨#[]⟩) < toL s) := fun j hj => by
          rcases Nat.lt_or_ge j k with h2 | h2
          · exact HR0.out j h2
          · obtain rfl : j = k := by omega
            rw [HT.out]; exact h1
        clear h1
        go_wp2_with fail
        go_roundw
        case rel => exact ⟨k + 1, by omega, by go_num, HN.out, HB.out⟩
        case measure => simp [intOf]; omega
      · have hbl : Op.bytesLess t.toList s.toList = false := by rw [ltS_eq]; exact decide_eq_false h1
        have HP := Lib.hid (putN_at l s k hk HR0.out (fun _ => by rw [HT.out]; exact h1))
        clear h1
        by_cases h2 : t = s
        · have hbe : (t.toList == s.toList) = true := by rw [bytes_beq]; exact decide_eq_true h2
          have HP2 : Hid (putN l s = l) := by
            have h := HP.out
            rw [if_pos ⟨hlt, HT.out.trans h2⟩] at h
            exact h
          clear h2
          go_wp2_with fail
          go_ret
          exact ⟨_, rfl, by rw [HP2.out]; exact HOW.out.kept (row := none) ⟨HB.out.os, HB.out.tape, HB.out.output, HB.out.size, fun k hk _ => HB.out.block k hk⟩ (by cases Value.ownBlock _ <;> simp), HB.out⟩
        · have hbe : (t.toList == s.toList) = false := by rw [bytes_beq]; exact decide_eq_false h2
          have HP2 : Hid (putN l s = l.take k ++ s :: l.drop k) := by
            have h := HP.out
            rw [if_neg (fun h => h2 (HT.out.symm.trans h.2))] at h
            exact h
          have hkne : ¬ cap = k := by omega
          have hkci : (k : Int) ≤ (cap : Int) := by omega
          have hkl : (k : Int) ≤ (l.length : Int) := by omega
          have HB8 := Lib.hid HB.out
          clear h2
          go_wp2_with fail
          obtain ⟨V8, hV8⟩ : ∃ V, wr = V := ⟨_, rfl⟩
          rw [hV8] at HB8
          rw [hV8]
          clear hV8 HB hd
          refine wp_region_held_drew (S := fun W => True) (by kernel_rfl) (trivial) (fun hHeld => ?_)
          refine plI [(1, false), (2, false), (3, false), (5, false), (8, false), (9, false), (10, false)] ?_
          repeat ((first | ((with_reducible show Plan ((_, true) :: _) _); refine plF ?_) | (refine plR (v := ?_) ?_ ?_; rotate_left; focus (intro W hSW; (try dsimp only at hSW); go_simp; all_goals (with_reducible rfl)))); try simp only [Act.put, List.setIfInBounds_toArray, List.set_cons_zero, List.set_cons_succ])
          refine plE ?_
          refine wpAnyH_ready (rs := [0, 6]) (by kernel_rfl) (by simp) ?_
          refine AllReadyH.cons (o := ⟨_, _, _, _, _, _⟩) rfl (fun K hK => ?_) ?_
          · go_simp
            obtain ⟨u0, hu0⟩ : ∃ V, V = (V8.alloc (.cells #[] 9)).drew := ⟨_, rfl⟩
            rw [← hu0]
            obtain ⟨g0, hg0⟩ : ∃ g, g = V8.heap.size := ⟨_, rfl⟩
            rw [← hg0]
            have hB0 := (HB8.out).size
            have HO0 := Lib.hid (show u0.ownsRow w.heap.size 9 1 (.slice (some ⟨g0, 0, none⟩) 0 0) 0 [] by rw [hu0, hg0]; exact own_lit (n := 0) (Has.new _ 9 #[]) hB0 rfl (Nat.zero_le _))
            have HB0s := Lib.hid (show Below w.heap.size w u0 by rw [hu0]; exact ((HB8.out).alloc hB0 _).drew)
            clear hu0 hg0
            refine hK.out _ _ (trivial) (fun hHeld => ?_)
            clear hK K
            try simp only [Act.put, List.setIfInBounds_toArray, List.set_cons_zero, List.set_cons_succ]
            refine wpAnyH_ready (rs := [4, 6]) (by kernel_rfl) (by simp) ?_
            refine AllReadyH.cons (o := ⟨_, _, _, _, _, _⟩) rfl (fun K hK => ?_) ?_
            · rw [if_pos (show Region.wanted _ _ = true by rfl)]
              refine wp_appG (.tmp 33) (.tmp 36) 41 rfl w.heap.size 9 i0 (.string ⟨#[]⟩) 1 16 Tryz.underlying41 HI.out HZ.out hq1 hq2 rfl (by decide) _ _ _ rfl HO0.out (some ⟨g, 0, none⟩) k cap ((((l.drop 0).take k)).map .string) rfl (by simp <;> omega) (HSRC _ (HB0s.out) 0 k (by omega)) (str_ones _) (by unfold maxLen; simp <;> omega) (by simp <;> omega) (HB0s.out).size fun v4 u4 ho4 hg4 => ?_
              have HB4s := Lib.hid ((HB0s.out).grown hg4 (HB0s.out).size (fun j hj => (HO0.out.lt j hj).1))
              have HO4 := Lib.hid ho4
              clear ho4 hg4
              refine hK.out _ _ (trivial) (fun hHeld => ?_)
              clear hK K
              try simp only [Act.put, List.setIfInBounds_toArray, List.set_cons_zero, List.set_cons_succ]
              refine wpAnyH_ready (rs := [6]) (by kernel_rfl) (by simp) ?_
              refine AllReadyH.cons (o := ⟨_, _, _, _, _, _⟩) rfl (fun K hK => ?_) AllReadyH.nil
              go_simp
              obtain ⟨u6, hu6⟩ : ∃ V, V = u4.alloc (.cells #[.string s] 9) := ⟨_, rfl⟩
              rw [← hu6]
              obtain ⟨gs, hgs⟩ : ∃ g, g = u4.heap.size := ⟨_, rfl⟩
              rw [← hgs]
              have hB6 := (HB4s.out).size
              have HS6 := Lib.hid (show Has u6 gs 9 #[.string s] by rw [hu6, hgs]; exact Has.new _ _ _)
              have HB6s := Lib.hid (show Below w.heap.size w u6 by rw [hu6]; exact ((HB4s.out).alloc hB6 _))
              have HO4 := Lib.hid (show u6.ownsRow w.heap.size 9 1 v4 (0 + k) ([] ++ (((l.drop 0).take k)).map .string) by rw [hu6]; exact HO4.out.alloc _)
              clear hu6 hgs
              refine hK.out _ _ (trivial) (fun hHeld => ?_)
              clear hK K
              try simp only [Act.put, List.setIfInBounds_toArray, List.set_cons_zero, List.set_cons_succ]
              refine wpAnyH_ready (rs := [7]) (by kernel_rfl) (by simp) ?_
              refine AllReadyH.cons (o := ⟨_, _, _, _, _, _⟩) rfl (fun K hK => ?_) AllReadyH.nil
              rw [if_pos (show Region.wanted _ _ = true by rfl)]
              refine wp_appG (.tmp 37) (.tmp 39) 41 rfl w.heap.size 9 i0 (.string ⟨#[]⟩) 1 16 Tryz.underlying41 HI.out HZ.out hq1 hq2 rfl (by decide) _ _ _ rfl HO4.out (some ⟨gs, 0, none⟩) 1 1 (([s]).map .string) rfl (by simp <;> omega) (.inr ⟨_, rfl, fun j u hj => by rw [Addr.add_mid, Nat.zero_add, HS6.out.facts.1 j]; simpa using hj⟩) (str_ones _) (by unfold maxLen; simp <;> omega) (by simp <;> omega) (HB6s.out).size fun v7 u7 ho7 hg7 => ?_
              have HB7s := Lib.hid ((HB6s.out).grown hg7 (HB6s.out).size (fun j hj => (HO4.out.lt j hj).1))
              have HO7 := Lib.hid ho7
              clear ho7 hg7
              refine hK.out _ _ (trivial) (fun hHeld => ?_)
              clear hK K
              try simp only [Act.put, List.setIfInBounds_toArray, List.set_cons_zero, List.set_cons_succ]
              refine wpAnyH_ready (rs := [11]) (by kernel_rfl) (by simp) ?_
              refine AllReadyH.cons (o := ⟨_, _, _, _, _, _⟩) rfl (fun K hK => ?_) AllReadyH.nil
              rw [if_pos (show Region.wanted _ _ = true by rfl)]
              refine wp_appG (.tmp 40) (.tmp 43) 41 rfl w.heap.size 9 i0 (.string ⟨#[]⟩) 1 16 Tryz.underlying41 HI.out HZ.out hq1 hq2 rfl (by decide) _ _ _ rfl HO7.out (some ⟨g, k, none⟩) (l.length - k) (cap - k) ((((l.drop k).take (l.length - k))).map .string) rfl (by simp <;> omega) (HSRC _ (HB7s.out) k (l.length - k) (by omega)) (str_ones _) (by unfold maxLen; simp <;> omega) (by simp <;> omega) (HB7s.out).size fun v11 u11 ho11 hg11 => ?_
              have HB11s := Lib.hid ((HB7s.out).grown hg11 (HB7s.out).size (fun j hj => (HO7.out.lt j hj).1))
              have HO11 := Lib.hid ho11
              clear ho11 hg11
              refine hK.out _ _ (trivial) (fun hHeld => ?_)
              clear hK K
              try simp only [Act.put, List.setIfInBounds_toArray, List.set_cons_zero, List.set_cons_succ]
              refine plI [(12, false)] ?_
              repeat ((first | ((with_reducible show Plan ((_, true) :: _) _); refine plF ?_) | (refine plR (v := ?_) ?_ ?_; rotate_left; focus (intro W hSW; (try dsimp only at hSW); go_simp; all_goals (with_reducible rfl)))); try simp only [Act.put, List.setIfInBounds_toArray, List.set_cons_zero, List.set_cons_succ])
              refine plE ?_
              refine wpAnyH_done (by kernel_rfl) ?_ _
              clear hHeld
              go_wp2_with fail
              go_ret
              exact ⟨_, rfl, by rw [HP2.out, show l.take k ++ s :: l.drop k = ((l.drop 0).take k ++ [s]) ++ (l.drop k).take (l.length - k) by simp [List.take_of_length_le]]; have h := own_base HO11.out hB; have e1 : (l.drop 0).take k = l.take k := (by rw [List.drop_zero]); rw [e1] at h ⊢; have e2 : (((l.take k ++ [s]) ++ (l.drop k).take (l.length - k)) : List ByteArray).length = 0 + k + 1 + (l.length - k) := (by simp <;> omega); rw [e2, List.map_append, List.map_append]; exact h, HB11s.out⟩
            refine AllReadyH.cons (o := ⟨_, _, _, _, _, _⟩) rfl (fun K hK => ?_) AllReadyH.nil
            go_simp
            obtain ⟨u6, hu6⟩ : ∃ V, V = u0.alloc (.cells #[.string s] 9) := ⟨_, rfl⟩
            rw [← hu6]
            obtain ⟨gs, hgs⟩ : ∃ g, g = u0.heap.size := ⟨_, rfl⟩
            rw [← hgs]
            have hB6 := (HB0s.out).size
            have HS6 := Lib.hid (show Has u6 gs 9 #[.string s] by rw [hu6, hgs]; exact Has.new _ _ _)
            have HB6s := Lib.hid (show Below w.heap.size w u6 by rw [hu6]; exact ((HB0s.out).alloc hB6 _))
            have hgg : gs ≠ g0 := by have h := (HO0.out.lt g0 rfl).2; omega
            have HO0 := Lib.hid (show u6.ownsRow w.heap.size 9 1 (.slice (some ⟨g0, 0, none⟩) 0 0) 0 [] by rw [hu6]; exact HO0.out.alloc _)
            clear hu6 hgs
            refine hK.out _ _ (trivial) (fun hHeld => ?_)
            clear hK K
            try simp only [Act.put, List.setIfInBounds_toArray, List.set_cons_zero, List.set_cons_succ]
            refine wpAnyH_ready (rs := [4]) (by kernel_rfl) (by simp) ?_
            refine AllReadyH.cons (o := ⟨_, _, _, _, _, _⟩) rfl (fun K hK => ?_) AllReadyH.nil
            rw [if_pos (show Region.wanted _ _ = true by rfl)]
            refine wp_appG (.tmp 33) (.tmp 36) 41 rfl w.heap.size 9 i0 (.string ⟨#[]⟩) 1 16 Tryz.underlying41 HI.out HZ.out hq1 hq2 rfl (by decide) _ _ _ rfl HO0.out (some ⟨g, 0, none⟩) k cap ((((l.drop 0).take k)).map .string) rfl (by simp <;> omega) (HSRC _ (HB6s.out) 0 k (by omega)) (str_ones _) (by unfold maxLen; simp <;> omega) (by simp <;> omega) (HB6s.out).size fun v4 u4 ho4 hg4 => ?_
            have HB4s := Lib.hid ((HB6s.out).grown hg4 (HB6s.out).size (fun j hj => (HO0.out.lt j hj).1))
            have HO4 := Lib.hid ho4
            have HS6 := Lib.hid (HS6.out.grown hg4 (by intro e; exact hgg (Option.some.inj e)))
            clear ho4 hg4
            refine hK.out _ _ (trivial) (fun hHeld => ?_)
            clear hK K
            try simp only [Act.put, List.setIfInBounds_toArray, List.set_cons_zero, List.set_cons_succ]
            refine wpAnyH_ready (rs := [7]) (by kernel_rfl) (by simp) ?_
            refine AllReadyH.cons (o := ⟨_, _, _, _, _, _⟩) rfl (fun K hK => ?_) AllReadyH.nil
            rw [if_pos (show Region.wanted _ _ = true by rfl)]
            refine wp_appG (.tmp 37) (.tmp 39) 41 rfl w.heap.size 9 i0 (.string ⟨#[]⟩) 1 16 Tryz.underlying41 HI.out HZ.out hq1 hq2 rfl (by decide) _ _ _ rfl HO4.out (some ⟨gs, 0, none⟩) 1 1 (([s]).map .string) rfl (by simp <;> omega) (.inr ⟨_, rfl, fun j u hj => by rw [Addr.add_mid, Nat.zero_add, HS6.out.facts.1 j]; simpa using hj⟩) (str_ones _) (by unfold maxLen; simp <;> omega) (by simp <;> omega) (HB4s.out).size fun v7 u7 ho7 hg7 => ?_
            have HB7s := Lib.hid ((HB4s.out).grown hg7 (HB4s.out).size (fun j hj => (HO4.out.lt j hj).1))
            have HO7 := Lib.hid ho7
            clear ho7 hg7
            refine hK.out _ _ (trivial) (fun hHeld => ?_)
            clear hK K
            try simp only [Act.put, List.setIfInBounds_toArray, List.set_cons_zero, List.set_cons_succ]
            refine wpAnyH_ready (rs := [11]) (by kernel_rfl) (by simp) ?_
            refine AllReadyH.cons (o := ⟨_, _, _, _, _, _⟩) rfl (fun K hK => ?_) AllReadyH.nil
            rw [if_pos (show Region.wanted _ _ = true by rfl)]
            refine wp_appG (.tmp 40) (.tmp 43) 41 rfl w.heap.size 9 i0 (.string ⟨#[]⟩) 1 16 Tryz.underlying41 HI.out HZ.out hq1 hq2 rfl (by decide) _ _ _ rfl HO7.out (some ⟨g, k, none⟩) (l.length - k) (cap - k) ((((l.drop k).take (l.length - k))).map .string) rfl (by simp <;> omega) (HSRC _ (HB7s.out) k (l.length - k) (by omega)) (str_ones _) (by unfold maxLen; simp <;> omega) (by simp <;> omega) (HB7s.out).size fun v11 u11 ho11 hg11 => ?_
            have HB11s := Lib.hid ((HB7s.out).grown hg11 (HB7s.out).size (fun j hj => (HO7.out.lt j hj).1))
            have HO11 := Lib.hid ho11
            clear ho11 hg11
            refine hK.out _ _ (trivial) (fun hHeld => ?_)
            clear hK K
            try simp only [Act.put, List.setIfInBounds_toArray, List.set_cons_zero, List.set_cons_succ]
            refine plI [(12, false)] ?_
            repeat ((first | ((with_reducible show Plan ((_, true) :: _) _); refine plF ?_) | (refine plR (v := ?_) ?_ ?_; rotate_left; focus (intro W hSW; (try dsimp only at hSW); go_simp; all_goals (with_reducible rfl)))); try simp only [Act.put, List.setIfInBounds_toArray, List.set_cons_zero, List.set_cons_succ])
            refine plE ?_
            refine wpAnyH_done (by kernel_rfl) ?_ _
            clear hHeld
            go_wp2_with fail
            go_ret
            exact ⟨_, rfl, by rw [HP2.out, show l.take k ++ s :: l.drop k = ((l.drop 0).take k ++ [s]) ++ (l.drop k).take (l.length - k) by simp [List.take_of_length_le]]; have h := own_base HO11.out hB; have e1 : (l.drop 0).take k = l.take k := (by rw [List.drop_zero]); rw [e1] at h ⊢; have e2 : (((l.take k ++ [s]) ++ (l.drop k).take (l.length - k)) : List ByteArray).length = 0 + k + 1 + (l.length - k) := (by simp <;> omega); rw [e2, List.map_append, List.map_append]; exact h, HB11s.out⟩
          refine AllReadyH.cons (o := ⟨_, _, _, _, _, _⟩) rfl (fun K hK => ?_) AllReadyH.nil
          go_simp
          obtain ⟨u6, hu6⟩ : ∃ V, V = (V8.alloc (.cells #[.string s] 9)).drew := ⟨_, rfl⟩
          rw [← hu6]
          obtain ⟨gs, hgs⟩ : ∃ g, g = V8.heap.size := ⟨_, rfl⟩
          rw [← hgs]
          have hB6 := (HB8.out).size
          have HS6 := Lib.hid (show Has u6 gs 9 #[.string s] by rw [hu6, hgs]; exact Has.new _ _ _)
          have HB6s := Lib.hid (show Below w.heap.size w u6 by rw [hu6]; exact ((HB8.out).alloc hB6 _).drew)
          have hgslt : gs < u6.heap.size := HS6.out.lt
          clear hu6 hgs
          refine hK.out _ _ (trivial) (fun hHeld => ?_)
          clear hK K
          try simp only [Act.put, List.setIfInBounds_toArray, List.set_cons_zero, List.set_cons_succ]
          refine wpAnyH_ready (rs := [0]) (by kernel_rfl) (by simp) ?_
          refine AllReadyH.cons (o := ⟨_, _, _, _, _, _⟩) rfl (fun K hK => ?_) AllReadyH.nil
          go_simp
          obtain ⟨u0, hu0⟩ : ∃ V, V = u6.alloc (.cells #[] 9) := ⟨_, rfl⟩
          rw [← hu0]
          obtain ⟨g0, hg0⟩ : ∃ g, g = u6.heap.size := ⟨_, rfl⟩
          rw [← hg0]
          have hB0 := (HB6s.out).size
          have HO0 := Lib.hid (show u0.ownsRow w.heap.size 9 1 (.slice (some ⟨g0, 0, none⟩) 0 0) 0 [] by rw [hu0, hg0]; exact own_lit (n := 0) (Has.new _ 9 #[]) hB0 rfl (Nat.zero_le _))
          have HB0s := Lib.hid (show Below w.heap.size w u0 by rw [hu0]; exact ((HB6s.out).alloc hB0 _))
          have HS6 := Lib.hid (show Has u0 gs 9 #[.string s] by rw [hu0]; exact HS6.out.alloc _)
          have hgg : gs ≠ g0 := by have := HS6.out.lt; have h6 := hgslt; omega
          clear hu0 hg0
          refine hK.out _ _ (trivial) (fun hHeld => ?_)
          clear hK K
          try simp only [Act.put, List.setIfInBounds_toArray, List.set_cons_zero, List.set_cons_succ]
          refine wpAnyH_ready (rs := [4]) (by kernel_rfl) (by simp) ?_
          refine AllReadyH.cons (o := ⟨_, _, _, _, _, _⟩) rfl (fun K hK => ?_) AllReadyH.nil
          rw [if_pos (show Region.wanted _ _ = true by rfl)]
          refine wp_appG (.tmp 33) (.tmp 36) 41 rfl w.heap.size 9 i0 (.string ⟨#[]⟩) 1 16 Tryz.underlying41 HI.out HZ.out hq1 hq2 rfl (by decide) _ _ _ rfl HO0.out (some ⟨g, 0, none⟩) k cap ((((l.drop 0).take k)).map .string) rfl (by simp <;> omega) (HSRC _ (HB0s.out) 0 k (by omega)) (str_ones _) (by unfold maxLen; simp <;> omega) (by simp <;> omega) (HB0s.out).size fun v4 u4 ho4 hg4 => ?_
          have HB4s := Lib.hid ((HB0s.out).grown hg4 (HB0s.out).size (fun j hj => (HO0.out.lt j hj).1))
          have HO4 := Lib.hid ho4
          have HS6 := Lib.hid (HS6.out.grown hg4 (by intro e; exact hgg (Option.some.inj e)))
          clear ho4 hg4
          refine hK.out _ _ (trivial) (fun hHeld => ?_)
          clear hK K
          try simp only [Act.put, List.setIfInBounds_toArray, List.set_cons_zero, List.set_cons_succ]
          refine wpAnyH_ready (rs := [7]) (by kernel_rfl) (by simp) ?_
          refine AllReadyH.cons (o := ⟨_, _, _, _, _, _⟩) rfl (fun K hK => ?_) AllReadyH.nil
          rw [if_pos (show Region.wanted _ _ = true by rfl)]
          refine wp_appG (.tmp 37) (.tmp 39) 41 rfl w.heap.size 9 i0 (.string ⟨#[]⟩) 1 16 Tryz.underlying41 HI.out HZ.out hq1 hq2 rfl (by decide) _ _ _ rfl HO4.out (some ⟨gs, 0, none⟩) 1 1 (([s]).map .string) rfl (by simp <;> omega) (.inr ⟨_, rfl, fun j u hj => by rw [Addr.add_mid, Nat.zero_add, HS6.out.facts.1 j]; simpa using hj⟩) (str_ones _) (by unfold maxLen; simp <;> omega) (by simp <;> omega) (HB4s.out).size fun v7 u7 ho7 hg7 => ?_
          have HB7s := Lib.hid ((HB4s.out).grown hg7 (HB4s.out).size (fun j hj => (HO4.out.lt j hj).1))
          have HO7 := Lib.hid ho7
          clear ho7 hg7
          refine hK.out _ _ (trivial) (fun hHeld => ?_)
          clear hK K
          try simp only [Act.put, List.setIfInBounds_toArray, List.set_cons_zero, List.set_cons_succ]
          refine wpAnyH_ready (rs := [11]) (by kernel_rfl) (by simp) ?_
          refine AllReadyH.cons (o := ⟨_, _, _, _, _, _⟩) rfl (fun K hK => ?_) AllReadyH.nil
          rw [if_pos (show Region.wanted _ _ = true by rfl)]
          refine wp_appG (.tmp 40) (.tmp 43) 41 rfl w.heap.size 9 i0 (.string ⟨#[]⟩) 1 16 Tryz.underlying41 HI.out HZ.out hq1 hq2 rfl (by decide) _ _ _ rfl HO7.out (some ⟨g, k, none⟩) (l.length - k) (cap - k) ((((l.drop k).take (l.length - k))).map .string) rfl (by simp <;> omega) (HSRC _ (HB7s.out) k (l.length - k) (by omega)) (str_ones _) (by unfold maxLen; simp <;> omega) (by simp <;> omega) (HB7s.out).size fun v11 u11 ho11 hg11 => ?_
          have HB11s := Lib.hid ((HB7s.out).grown hg11 (HB7s.out).size (fun j hj => (HO7.out.lt j hj).1))
          have HO11 := Lib.hid ho11
          clear ho11 hg11
          refine hK.out _ _ (trivial) (fun hHeld => ?_)
          clear hK K
          try simp only [Act.put, List.setIfInBounds_toArray, List.set_cons_zero, List.set_cons_succ]
          refine plI [(12, false)] ?_
          repeat ((first | ((with_reducible show Plan ((_, true) :: _) _); refine plF ?_) | (refine plR (v := ?_) ?_ ?_; rotate_left; focus (intro W hSW; (try dsimp only at hSW); go_simp; all_goals (with_reducible rfl)))); try simp only [Act.put, List.setIfInBounds_toArray, List.set_cons_zero, List.set_cons_succ])
          refine plE ?_
          refine wpAnyH_done (by kernel_rfl) ?_ _
          clear hHeld
          go_wp2_with fail
          go_ret
          exact ⟨_, rfl, by rw [HP2.out, show l.take k ++ s :: l.drop k = ((l.drop 0).take k ++ [s]) ++ (l.drop k).take (l.length - k) by simp [List.take_of_length_le]]; have h := own_base HO11.out hB; have e1 : (l.drop 0).take k = l.take k := (by rw [List.drop_zero]); rw [e1] at h ⊢; have e2 : (((l.take k ++ [s]) ++ (l.drop k).take (l.length - k)) : List ByteArray).length = 0 + k + 1 + (l.length - k) := (by simp <;> omega); rw [e2, List.map_append, List.map_append]; exact h, HB11s.out⟩
    · have hke : k = l.length := by omega
      have hki : ¬ (k : Int) < (l.length : Int) := by omega
      have HP2 : Hid (putN l s = l.take k ++ s :: l.drop k) := by
        have h := putN_at l s k hk HR0.out (fun h => absurd h hlt)
        rw [if_neg (fun h => hlt h.1)] at h
        exact h
      have hkci : (k : Int) ≤ (cap : Int) := by omega
      have hkl : (k : Int) ≤ (l.length : Int) := by omega
      have HKE := Lib.hid hke
      have HB8 := Lib.hid HB.out
      by_cases hkne : cap = k
      · clear hke
        go_wp2_with fail
        obtain ⟨V8, hV8⟩ : ∃ V, wr = V := ⟨_, rfl⟩
        rw [hV8] at HB8
        rw [hV8]
        clear hV8 HB
        refine wp_region_held_drew (S := fun W => True) (by kernel_rfl) (trivial) (fun hHeld => ?_)
        refine plI [(1, false), (2, false), (3, false), (5, false), (8, false), (9, false), (10, false)] ?_
        repeat ((first | ((with_reducible show Plan ((_, true) :: _) _); refine plF ?_) | (refine plR (v := ?_) ?_ ?_; rotate_left; focus (intro W hSW; (try dsimp only at hSW); go_simp; all_goals (with_reducible rfl)))); try simp only [Act.put, List.setIfInBounds_toArray, List.set_cons_zero, List.set_cons_succ])
        refine plE ?_
        refine wpAnyH_ready (rs := [0, 6]) (by kernel_rfl) (by simp) ?_
        refine AllReadyH.cons (o := ⟨_, _, _, _, _, _⟩) rfl (fun K hK => ?_) ?_
        · go_simp
          obtain ⟨u0, hu0⟩ : ∃ V, V = (V8.alloc (.cells #[] 9)).drew := ⟨_, rfl⟩
          rw [← hu0]
          obtain ⟨g0, hg0⟩ : ∃ g, g = V8.heap.size := ⟨_, rfl⟩
          rw [← hg0]
          have hB0 := (HB8.out).size
          have HO0 := Lib.hid (show u0.ownsRow w.heap.size 9 1 (.slice (some ⟨g0, 0, none⟩) 0 0) 0 [] by rw [hu0, hg0]; exact own_lit (n := 0) (Has.new _ 9 #[]) hB0 rfl (Nat.zero_le _))
          have HB0s := Lib.hid (show Below w.heap.size w u0 by rw [hu0]; exact ((HB8.out).alloc hB0 _).drew)
          clear hu0 hg0
          refine hK.out _ _ (trivial) (fun hHeld => ?_)
          clear hK K
          try simp only [Act.put, List.setIfInBounds_toArray, List.set_cons_zero, List.set_cons_succ]
          refine wpAnyH_ready (rs := [4, 6]) (by kernel_rfl) (by simp) ?_
          refine AllReadyH.cons (o := ⟨_, _, _, _, _, _⟩) rfl (fun K hK => ?_) ?_
          · rw [if_pos (show Region.wanted _ _ = true by rfl)]
            refine wp_appG (.tmp 33) (.tmp 36) 41 rfl w.heap.size 9 i0 (.string ⟨#[]⟩) 1 16 Tryz.underlying41 HI.out HZ.out hq1 hq2 rfl (by decide) _ _ _ rfl HO0.out (some ⟨g, 0, none⟩) k _ ((((l.drop 0).take k)).map .string) rfl (by simp <;> omega) (HSRC _ (HB0s.out) 0 k (by omega)) (str_ones _) (by unfold maxLen; simp <;> omega) (by simp <;> omega) (HB0s.out).size fun v4 u4 ho4 hg4 => ?_
            have HB4s := Lib.hid ((HB0s.out).grown hg4 (HB0s.out).size (fun j hj => (HO0.out.lt j hj).1))
            have HO4 := Lib.hid ho4
            clear ho4 hg4
            refine hK.out _ _ (trivial) (fun hHeld => ?_)
            clear hK K
            try simp only [Act.put, List.setIfInBounds_toArray, List.set_cons_zero, List.set_cons_succ]
            refine wpAnyH_ready (rs := [6]) (by kernel_rfl) (by simp) ?_
            refine AllReadyH.cons (o := ⟨_, _, _, _, _, _⟩) rfl (fun K hK => ?_) AllReadyH.nil
            go_simp
            obtain ⟨u6, hu6⟩ : ∃ V, V = u4.alloc (.cells #[.string s] 9) := ⟨_, rfl⟩
            rw [← hu6]
            obtain ⟨gs, hgs⟩ : ∃ g, g = u4.heap.size := ⟨_, rfl⟩
            rw [← hgs]
            have hB6 := (HB4s.out).size
            have HS6 := Lib.hid (show Has u6 gs 9 #[.string s] by rw [hu6, hgs]; exact Has.new _ _ _)
            have HB6s := Lib.hid (show Below w.heap.size w u6 by rw [hu6]; exact ((HB4s.out).alloc hB6 _))
            have HO4 := Lib.hid (show u6.ownsRow w.heap.size 9 1 v4 (0 + k) ([] ++ (((l.drop 0).take k)).map .string) by rw [hu6]; exact HO4.out.alloc _)
            clear hu6 hgs
            refine hK.out _ _ (trivial) (fun hHeld => ?_)
            clear hK K
            try simp only [Act.put, List.setIfInBounds_toArray, List.set_cons_zero, List.set_cons_succ]
            refine wpAnyH_ready (rs := [7]) (by kernel_rfl) (by simp) ?_
            refine AllReadyH.cons (o := ⟨_, _, _, _, _, _⟩) rfl (fun K hK => ?_) AllReadyH.nil
            rw [if_pos (show Region.wanted _ _ = true by rfl)]
            refine wp_appG (.tmp 37) (.tmp 39) 41 rfl w.heap.size 9 i0 (.string ⟨#[]⟩) 1 16 Tryz.underlying41 HI.out HZ.out hq1 hq2 rfl (by decide) _ _ _ rfl HO4.out (some ⟨gs, 0, none⟩) 1 1 (([s]).map .string) rfl (by simp <;> omega) (.inr ⟨_, rfl, fun j u hj => by rw [Addr.add_mid, Nat.zero_add, HS6.out.facts.1 j]; simpa using hj⟩) (str_ones _) (by unfold maxLen; simp <;> omega) (by simp <;> omega) (HB6s.out).size fun v7 u7 ho7 hg7 => ?_
            have HB7s := Lib.hid ((HB6s.out).grown hg7 (HB6s.out).size (fun j hj => (HO4.out.lt j hj).1))
            have HO7 := Lib.hid ho7
            clear ho7 hg7
            refine hK.out _ _ (trivial) (fun hHeld => ?_)
            clear hK K
            try simp only [Act.put, List.setIfInBounds_toArray, List.set_cons_zero, List.set_cons_succ]
            refine wpAnyH_ready (rs := [11]) (by kernel_rfl) (by simp) ?_
            refine AllReadyH.cons (o := ⟨_, _, _, _, _, _⟩) rfl (fun K hK => ?_) AllReadyH.nil
            rw [if_pos (show Region.wanted _ _ = true by rfl)]
            refine wp_appG (.tmp 40) (.tmp 43) 41 rfl w.heap.size 9 i0 (.string ⟨#[]⟩) 1 16 Tryz.underlying41 HI.out HZ.out hq1 hq2 rfl (by decide) _ _ _ rfl HO7.out _ (l.length - k) _ ((((l.drop k).take (l.length - k))).map .string) rfl (by simp <;> omega) (.inl (by have := HKE.out; omega)) (str_ones _) (by unfold maxLen; simp <;> omega) (by simp <;> omega) (HB7s.out).size fun v11 u11 ho11 hg11 => ?_
            have HB11s := Lib.hid ((HB7s.out).grown hg11 (HB7s.out).size (fun j hj => (HO7.out.lt j hj).1))
            have HO11 := Lib.hid ho11
            clear ho11 hg11
            refine hK.out _ _ (trivial) (fun hHeld => ?_)
            clear hK K
            try simp only [Act.put, List.setIfInBounds_toArray, List.set_cons_zero, List.set_cons_succ]
            refine plI [(12, false)] ?_
            repeat ((first | ((with_reducible show Plan ((_, true) :: _) _); refine plF ?_) | (refine plR (v := ?_) ?_ ?_; rotate_left; focus (intro W hSW; (try dsimp only at hSW); go_simp; all_goals (with_reducible rfl)))); try simp only [Act.put, List.setIfInBounds_toArray, List.set_cons_zero, List.set_cons_succ])
            refine plE ?_
            refine wpAnyH_done (by kernel_rfl) ?_ _
            clear hHeld
            go_wp2_with fail
            go_ret
            exact ⟨_, rfl, by rw [HP2.out, show l.take k ++ s :: l.drop k = ((l.drop 0).take k ++ [s]) ++ (l.drop k).take (l.length - k) by simp [List.take_of_length_le]]; have h := own_base HO11.out hB; have e1 : (l.drop 0).take k = l.take k := (by rw [List.drop_zero]); rw [e1] at h ⊢; have e2 : (((l.take k ++ [s]) ++ (l.drop k).take (l.length - k)) : List ByteArray).length = 0 + k + 1 + (l.length - k) := (by simp <;> omega); rw [e2, List.map_append, List.map_append]; exact h, HB11s.out⟩
          refine AllReadyH.cons (o := ⟨_, _, _, _, _, _⟩) rfl (fun K hK => ?_) AllReadyH.nil
          go_simp
          obtain ⟨u6, hu6⟩ : ∃ V, V = u0.alloc (.cells #[.string s] 9) := ⟨_, rfl⟩
          rw [← hu6]
          obtain ⟨gs, hgs⟩ : ∃ g, g = u0.heap.size := ⟨_, rfl⟩
          rw [← hgs]
          have hB6 := (HB0s.out).size
          have HS6 := Lib.hid (show Has u6 gs 9 #[.string s] by rw [hu6, hgs]; exact Has.new _ _ _)
          have HB6s := Lib.hid (show Below w.heap.size w u6 by rw [hu6]; exact ((HB0s.out).alloc hB6 _))
          have hgg : gs ≠ g0 := by have h := (HO0.out.lt g0 rfl).2; omega
          have HO0 := Lib.hid (show u6.ownsRow w.heap.size 9 1 (.slice (some ⟨g0, 0, none⟩) 0 0) 0 [] by rw [hu6]; exact HO0.out.alloc _)
          clear hu6 hgs
          refine hK.out _ _ (trivial) (fun hHeld => ?_)
          clear hK K
          try simp only [Act.put, List.setIfInBounds_toArray, List.set_cons_zero, List.set_cons_succ]
          refine wpAnyH_ready (rs := [4]) (by kernel_rfl) (by simp) ?_
          refine AllReadyH.cons (o := ⟨_, _, _, _, _, _⟩) rfl (fun K hK => ?_) AllReadyH.nil
          rw [if_pos (show Region.wanted _ _ = true by rfl)]
          refine wp_appG (.tmp 33) (.tmp 36) 41 rfl w.heap.size 9 i0 (.string ⟨#[]⟩) 1 16 Tryz.underlying41 HI.out HZ.out hq1 hq2 rfl (by decide) _ _ _ rfl HO0.out (some ⟨g, 0, none⟩) k _ ((((l.drop 0).take k)).map .string) rfl (by simp <;> omega) (HSRC _ (HB6s.out) 0 k (by omega)) (str_ones _) (by unfold maxLen; simp <;> omega) (by simp <;> omega) (HB6s.out).size fun v4 u4 ho4 hg4 => ?_
          have HB4s := Lib.hid ((HB6s.out).grown hg4 (HB6s.out).size (fun j hj => (HO0.out.lt j hj).1))
          have HO4 := Lib.hid ho4
          have HS6 := Lib.hid (HS6.out.grown hg4 (by intro e; exact hgg (Option.some.inj e)))
          clear ho4 hg4
          refine hK.out _ _ (trivial) (fun hHeld => ?_)
          clear hK K
          try simp only [Act.put, List.setIfInBounds_toArray, List.set_cons_zero, List.set_cons_succ]
          refine wpAnyH_ready (rs := [7]) (by kernel_rfl) (by simp) ?_
          refine AllReadyH.cons (o := ⟨_, _, _, _, _, _⟩) rfl (fun K hK => ?_) AllReadyH.nil
          rw [if_pos (show Region.wanted _ _ = true by rfl)]
          refine wp_appG (.tmp 37) (.tmp 39) 41 rfl w.heap.size 9 i0 (.string ⟨#[]⟩) 1 16 Tryz.underlying41 HI.out HZ.out hq1 hq2 rfl (by decide) _ _ _ rfl HO4.out (some ⟨gs, 0, none⟩) 1 1 (([s]).map .string) rfl (by simp <;> omega) (.inr ⟨_, rfl, fun j u hj => by rw [Addr.add_mid, Nat.zero_add, HS6.out.facts.1 j]; simpa using hj⟩) (str_ones _) (by unfold maxLen; simp <;> omega) (by simp <;> omega) (HB4s.out).size fun v7 u7 ho7 hg7 => ?_
          have HB7s := Lib.hid ((HB4s.out).grown hg7 (HB4s.out).size (fun j hj => (HO4.out.lt j hj).1))
          have HO7 := Lib.hid ho7
          clear ho7 hg7
          refine hK.out _ _ (trivial) (fun hHeld => ?_)
          clear hK K
          try simp only [Act.put, List.setIfInBounds_toArray, List.set_cons_zero, List.set_cons_succ]
          refine wpAnyH_ready (rs := [11]) (by kernel_rfl) (by simp) ?_
          refine AllReadyH.cons (o := ⟨_, _, _, _, _, _⟩) rfl (fun K hK => ?_) AllReadyH.nil
          rw [if_pos (show Region.wanted _ _ = true by rfl)]
          refine wp_appG (.tmp 40) (.tmp 43) 41 rfl w.heap.size 9 i0 (.string ⟨#[]⟩) 1 16 Tryz.underlying41 HI.out HZ.out hq1 hq2 rfl (by decide) _ _ _ rfl HO7.out _ (l.length - k) _ ((((l.drop k).take (l.length - k))).map .string) rfl (by simp <;> omega) (.inl (by have := HKE.out; omega)) (str_ones _) (by unfold maxLen; simp <;> omega) (by simp <;> omega) (HB7s.out).size fun v11 u11 ho11 hg11 => ?_
          have HB11s := Lib.hid ((HB7s.out).grown hg11 (HB7s.out).size (fun j hj => (HO7.out.lt j hj).1))
          have HO11 := Lib.hid ho11
          clear ho11 hg11
          refine hK.out _ _ (trivial) (fun hHeld => ?_)
          clear hK K
          try simp only [Act.put, List.setIfInBounds_toArray, List.set_cons_zero, List.set_cons_succ]
          refine plI [(12, false)] ?_
          repeat ((first | ((with_reducible show Plan ((_, true) :: _) _); refine plF ?_) | (refine plR (v := ?_) ?_ ?_; rotate_left; focus (intro W hSW; (try dsimp only at hSW); go_simp; all_goals (with_reducible rfl)))); try simp only [Act.put, List.setIfInBounds_toArray, List.set_cons_zero, List.set_cons_succ])
          refine plE ?_
          refine wpAnyH_done (by kernel_rfl) ?_ _
          clear hHeld
          go_wp2_with fail
          go_ret
          exact ⟨_, rfl, by rw [HP2.out, show l.take k ++ s :: l.drop k = ((l.drop 0).take k ++ [s]) ++ (l.drop k).take (l.length - k) by simp [List.take_of_length_le]]; have h := own_base HO11.out hB; have e1 : (l.drop 0).take k = l.take k := (by rw [List.drop_zero]); rw [e1] at h ⊢; have e2 : (((l.take k ++ [s]) ++ (l.drop k).take (l.length - k)) : List ByteArray).length = 0 + k + 1 + (l.length - k) := (by simp <;> omega); rw [e2, List.map_append, List.map_append]; exact h, HB11s.out⟩
        refine AllReadyH.cons (o := ⟨_, _, _, _, _, _⟩) rfl (fun K hK => ?_) AllReadyH.nil
        go_simp
        obtain ⟨u6, hu6⟩ : ∃ V, V = (V8.alloc (.cells #[.string s] 9)).drew := ⟨_, rfl⟩
        rw [← hu6]
        obtain ⟨gs, hgs⟩ : ∃ g, g = V8.heap.size := ⟨_, rfl⟩
        rw [← hgs]
        have hB6 := (HB8.out).size
        have HS6 := Lib.hid (show Has u6 gs 9 #[.string s] by rw [hu6, hgs]; exact Has.new _ _ _)
        have HB6s := Lib.hid (show Below w.heap.size w u6 by rw [hu6]; exact ((HB8.out).alloc hB6 _).drew)
        have hgslt : gs < u6.heap.size := HS6.out.lt
        clear hu6 hgs
        refine hK.out _ _ (trivial) (fun hHeld => ?_)
        clear hK K
        try simp only [Act.put, List.setIfInBounds_toArray, List.set_cons_zero, List.set_cons_succ]
        refine wpAnyH_ready (rs := [0]) (by kernel_rfl) (by simp) ?_
        refine AllReadyH.cons (o := ⟨_, _, _, _, _, _⟩) rfl (fun K hK => ?_) AllReadyH.nil
        go_simp
        obtain ⟨u0, hu0⟩ : ∃ V, V = u6.alloc (.cells #[] 9) := ⟨_, rfl⟩
        rw [← hu0]
        obtain ⟨g0, hg0⟩ : ∃ g, g = u6.heap.size := ⟨_, rfl⟩
        rw [← hg0]
        have hB0 := (HB6s.out).size
        have HO0 := Lib.hid (show u0.ownsRow w.heap.size 9 1 (.slice (some ⟨g0, 0, none⟩) 0 0) 0 [] by rw [hu0, hg0]; exact own_lit (n := 0) (Has.new _ 9 #[]) hB0 rfl (Nat.zero_le _))
        have HB0s := Lib.hid (show Below w.heap.size w u0 by rw [hu0]; exact ((HB6s.out).alloc hB0 _))
        have HS6 := Lib.hid (show Has u0 gs 9 #[.string s] by rw [hu0]; exact HS6.out.alloc _)
        have hgg : gs ≠ g0 := by have := HS6.out.lt; have h6 := hgslt; omega
        clear hu0 hg0
        refine hK.out _ _ (trivial) (fun hHeld => ?_)
        clear hK K
        try simp only [Act.put, List.setIfInBounds_toArray, List.set_cons_zero, List.set_cons_succ]
        refine wpAnyH_ready (rs := [4]) (by kernel_rfl) (by simp) ?_
        refine AllReadyH.cons (o := ⟨_, _, _, _, _, _⟩) rfl (fun K hK => ?_) AllReadyH.nil
        rw [if_pos (show Region.wanted _ _ = true by rfl)]
        refine wp_appG (.tmp 33) (.tmp 36) 41 rfl w.heap.size 9 i0 (.string ⟨#[]⟩) 1 16 Tryz.underlying41 HI.out HZ.out hq1 hq2 rfl (by decide) _ _ _ rfl HO0.out (some ⟨g, 0, none⟩) k _ ((((l.drop 0).take k)).map .string) rfl (by simp <;> omega) (HSRC _ (HB0s.out) 0 k (by omega)) (str_ones _) (by unfold maxLen; simp <;> omega) (by simp <;> omega) (HB0s.out).size fun v4 u4 ho4 hg4 => ?_
        have HB4s := Lib.hid ((HB0s.out).grown hg4 (HB0s.out).size (fun j hj => (HO0.out.lt j hj).1))
        have HO4 := Lib.hid ho4
        have HS6 := Lib.hid (HS6.out.grown hg4 (by intro e; exact hgg (Option.some.inj e)))
        clear ho4 hg4
        refine hK.out _ _ (trivial) (fun hHeld => ?_)
        clear hK K
        try simp only [Act.put, List.setIfInBounds_toArray, List.set_cons_zero, List.set_cons_succ]
        refine wpAnyH_ready (rs := [7]) (by kernel_rfl) (by simp) ?_
        refine AllReadyH.cons (o := ⟨_, _, _, _, _, _⟩) rfl (fun K hK => ?_) AllReadyH.nil
        rw [if_pos (show Region.wanted _ _ = true by rfl)]
        refine wp_appG (.tmp 37) (.tmp 39) 41 rfl w.heap.size 9 i0 (.string ⟨#[]⟩) 1 16 Tryz.underlying41 HI.out HZ.out hq1 hq2 rfl (by decide) _ _ _ rfl HO4.out (some ⟨gs, 0, none⟩) 1 1 (([s]).map .string) rfl (by simp <;> omega) (.inr ⟨_, rfl, fun j u hj => by rw [Addr.add_mid, Nat.zero_add, HS6.out.facts.1 j]; simpa using hj⟩) (str_ones _) (by unfold maxLen; simp <;> omega) (by simp <;> omega) (HB4s.out).size fun v7 u7 ho7 hg7 => ?_
        have HB7s := Lib.hid ((HB4s.out).grown hg7 (HB4s.out).size (fun j hj => (HO4.out.lt j hj).1))
        have HO7 := Lib.hid ho7
        clear ho7 hg7
        refine hK.out _ _ (trivial) (fun hHeld => ?_)
        clear hK K
        try simp only [Act.put, List.setIfInBounds_toArray, List.set_cons_zero, List.set_cons_succ]
        refine wpAnyH_ready (rs := [11]) (by kernel_rfl) (by simp) ?_
        refine AllReadyH.cons (o := ⟨_, _, _, _, _, _⟩) rfl (fun K hK => ?_) AllReadyH.nil
        rw [if_pos (show Region.wanted _ _ = true by rfl)]
        refine wp_appG (.tmp 40) (.tmp 43) 41 rfl w.heap.size 9 i0 (.string ⟨#[]⟩) 1 16 Tryz.underlying41 HI.out HZ.out hq1 hq2 rfl (by decide) _ _ _ rfl HO7.out _ (l.length - k) _ ((((l.drop k).take (l.length - k))).map .string) rfl (by simp <;> omega) (.inl (by have := HKE.out; omega)) (str_ones _) (by unfold maxLen; simp <;> omega) (by simp <;> omega) (HB7s.out).size fun v11 u11 ho11 hg11 => ?_
        have HB11s := Lib.hid ((HB7s.out).grown hg11 (HB7s.out).size (fun j hj => (HO7.out.lt j hj).1))
        have HO11 := Lib.hid ho11
        clear ho11 hg11
        refine hK.out _ _ (trivial) (fun hHeld => ?_)
        clear hK K
        try simp only [Act.put, List.setIfInBounds_toArray, List.set_cons_zero, List.set_cons_succ]
        refine plI [(12, false)] ?_
        repeat ((first | ((with_reducible show Plan ((_, true) :: _) _); refine plF ?_) | (refine plR (v := ?_) ?_ ?_; rotate_left; focus (intro W hSW; (try dsimp only at hSW); go_simp; all_goals (with_reducible rfl)))); try simp only [Act.put, List.setIfInBounds_toArray, List.set_cons_zero, List.set_cons_succ])
        refine plE ?_
        refine wpAnyH_done (by kernel_rfl) ?_ _
        clear hHeld
        go_wp2_with fail
        go_ret
        exact ⟨_, rfl, by rw [HP2.out, show l.take k ++ s :: l.drop k = ((l.drop 0).take k ++ [s]) ++ (l.drop k).take (l.length - k) by simp [List.take_of_length_le]]; have h := own_base HO11.out hB; have e1 : (l.drop 0).take k = l.take k := (by rw [List.drop_zero]); rw [e1] at h ⊢; have e2 : (((l.take k ++ [s]) ++ (l.drop k).take (l.length - k)) : List ByteArray).length = 0 + k + 1 + (l.length - k) := (by simp <;> omega); rw [e2, List.map_append, List.map_append]; exact h, HB11s.out⟩
      · clear hke
        go_wp2_with fail
        obtain ⟨V8, hV8⟩ : ∃ V, wr = V := ⟨_, rfl⟩
        rw [hV8] at HB8
        rw [hV8]
        clear hV8 HB
        refine wp_region_held_drew (S := fun W => True) (by kernel_rfl) (trivial) (fun hHeld => ?_)
        refine plI [(1, false), (2, false), (3, false), (5, false), (8, false), (9, false), (10, false)] ?_
        repeat ((first | ((with_reducible show Plan ((_, true) :: _) _); refine plF ?_) | (refine plR (v := ?_) ?_ ?_; rotate_left; focus (intro W hSW; (try dsimp only at hSW); go_simp; all_goals (with_reducible rfl)))); try simp only [Act.put, List.setIfInBounds_toArray, List.set_cons_zero, List.set_cons_succ])
        refine plE ?_
        refine wpAnyH_ready (rs := [0, 6]) (by kernel_rfl) (by simp) ?_
        refine AllReadyH.cons (o := ⟨_, _, _, _, _, _⟩) rfl (fun K hK => ?_) ?_
        · go_simp
          obtain ⟨u0, hu0⟩ : ∃ V, V = (V8.alloc (.cells #[] 9)).drew := ⟨_, rfl⟩
          rw [← hu0]
          obtain ⟨g0, hg0⟩ : ∃ g, g = V8.heap.size := ⟨_, rfl⟩
          rw [← hg0]
          have hB0 := (HB8.out).size
          have HO0 := Lib.hid (show u0.ownsRow w.heap.size 9 1 (.slice (some ⟨g0, 0, none⟩) 0 0) 0 [] by rw [hu0, hg0]; exact own_lit (n := 0) (Has.new _ 9 #[]) hB0 rfl (Nat.zero_le _))
          have HB0s := Lib.hid (show Below w.heap.size w u0 by rw [hu0]; exact ((HB8.out).alloc hB0 _).drew)
          clear hu0 hg0
          refine hK.out _ _ (trivial) (fun hHeld => ?_)
          clear hK K
          try simp only [Act.put, List.setIfInBounds_toArray, List.set_cons_zero, List.set_cons_succ]
          refine wpAnyH_ready (rs := [4, 6]) (by kernel_rfl) (by simp) ?_
          refine AllReadyH.cons (o := ⟨_, _, _, _, _, _⟩) rfl (fun K hK => ?_) ?_
          · rw [if_pos (show Region.wanted _ _ = true by rfl)]
            refine wp_appG (.tmp 33) (.tmp 36) 41 rfl w.heap.size 9 i0 (.string ⟨#[]⟩) 1 16 Tryz.underlying41 HI.out HZ.out hq1 hq2 rfl (by decide) _ _ _ rfl HO0.out (some ⟨g, 0, none⟩) k cap ((((l.drop 0).take k)).map .string) rfl (by simp <;> omega) (HSRC _ (HB0s.out) 0 k (by omega)) (str_ones _) (by unfold maxLen; simp <;> omega) (by simp <;> omega) (HB0s.out).size fun v4 u4 ho4 hg4 => ?_
            have HB4s := Lib.hid ((HB0s.out).grown hg4 (HB0s.out).size (fun j hj => (HO0.out.lt j hj).1))
            have HO4 := Lib.hid ho4
            clear ho4 hg4
            refine hK.out _ _ (trivial) (fun hHeld => ?_)
            clear hK K
            try simp only [Act.put, List.setIfInBounds_toArray, List.set_cons_zero, List.set_cons_succ]
            refine wpAnyH_ready (rs := [6]) (by kernel_rfl) (by simp) ?_
            refine AllReadyH.cons (o := ⟨_, _, _, _, _, _⟩) rfl (fun K hK => ?_) AllReadyH.nil
            go_simp
            obtain ⟨u6, hu6⟩ : ∃ V, V = u4.alloc (.cells #[.string s] 9) := ⟨_, rfl⟩
            rw [← hu6]
            obtain ⟨gs, hgs⟩ : ∃ g, g = u4.heap.size := ⟨_, rfl⟩
            rw [← hgs]
            have hB6 := (HB4s.out).size
            have HS6 := Lib.hid (show Has u6 gs 9 #[.string s] by rw [hu6, hgs]; exact Has.new _ _ _)
            have HB6s := Lib.hid (show Below w.heap.size w u6 by rw [hu6]; exact ((HB4s.out).alloc hB6 _))
            have HO4 := Lib.hid (show u6.ownsRow w.heap.size 9 1 v4 (0 + k) ([] ++ (((l.drop 0).take k)).map .string) by rw [hu6]; exact HO4.out.alloc _)
            clear hu6 hgs
            refine hK.out _ _ (trivial) (fun hHeld => ?_)
            clear hK K
            try simp only [Act.put, List.setIfInBounds_toArray, List.set_cons_zero, List.set_cons_succ]
            refine wpAnyH_ready (rs := [7]) (by kernel_rfl) (by simp) ?_
            refine AllReadyH.cons (o := ⟨_, _, _, _, _, _⟩) rfl (fun K hK => ?_) AllReadyH.nil
            rw [if_pos (show Region.wanted _ _ = true by rfl)]
            refine wp_appG (.tmp 37) (.tmp 39) 41 rfl w.heap.size 9 i0 (.string ⟨#[]⟩) 1 16 Tryz.underlying41 HI.out HZ.out hq1 hq2 rfl (by decide) _ _ _ rfl HO4.out (some ⟨gs, 0, none⟩) 1 1 (([s]).map .string) rfl (by simp <;> omega) (.inr ⟨_, rfl, fun j u hj => by rw [Addr.add_mid, Nat.zero_add, HS6.out.facts.1 j]; simpa using hj⟩) (str_ones _) (by unfold maxLen; simp <;> omega) (by simp <;> omega) (HB6s.out).size fun v7 u7 ho7 hg7 => ?_
            have HB7s := Lib.hid ((HB6s.out).grown hg7 (HB6s.out).size (fun j hj => (HO4.out.lt j hj).1))
            have HO7 := Lib.hid ho7
            clear ho7 hg7
            refine hK.out _ _ (trivial) (fun hHeld => ?_)
            clear hK K
            try simp only [Act.put, List.setIfInBounds_toArray, List.set_cons_zero, List.set_cons_succ]
            refine wpAnyH_ready (rs := [11]) (by kernel_rfl) (by simp) ?_
            refine AllReadyH.cons (o := ⟨_, _, _, _, _, _⟩) rfl (fun K hK => ?_) AllReadyH.nil
            rw [if_pos (show Region.wanted _ _ = true by rfl)]
            refine wp_appG (.tmp 40) (.tmp 43) 41 rfl w.heap.size 9 i0 (.string ⟨#[]⟩) 1 16 Tryz.underlying41 HI.out HZ.out hq1 hq2 rfl (by decide) _ _ _ rfl HO7.out (some ⟨g, k, none⟩) (l.length - k) (cap - k) ((((l.drop k).take (l.length - k))).map .string) rfl (by simp <;> omega) (HSRC _ (HB7s.out) k (l.length - k) (by omega)) (str_ones _) (by unfold maxLen; simp <;> omega) (by simp <;> omega) (HB7s.out).size fun v11 u11 ho11 hg11 => ?_
            have HB11s := Lib.hid ((HB7s.out).grown hg11 (HB7s.out).size (fun j hj => (HO7.out.lt j hj).1))
            have HO11 := Lib.hid ho11
            clear ho11 hg11
            refine hK.out _ _ (trivial) (fun hHeld => ?_)
            clear hK K
            try simp only [Act.put, List.setIfInBounds_toArray, List.set_cons_zero, List.set_cons_succ]
            refine plI [(12, false)] ?_
            repeat ((first | ((with_reducible show Plan ((_, true) :: _) _); refine plF ?_) | (refine plR (v := ?_) ?_ ?_; rotate_left; focus (intro W hSW; (try dsimp only at hSW); go_simp; all_goals (with_reducible rfl)))); try simp only [Act.put, List.setIfInBounds_toArray, List.set_cons_zero, List.set_cons_succ])
            refine plE ?_
            refine wpAnyH_done (by kernel_rfl) ?_ _
            clear hHeld
            go_wp2_with fail
            go_ret
            exact ⟨_, rfl, by rw [HP2.out, show l.take k ++ s :: l.drop k = ((l.drop 0).take k ++ [s]) ++ (l.drop k).take (l.length - k) by simp [List.take_of_length_le]]; have h := own_base HO11.out hB; have e1 : (l.drop 0).take k = l.take k := (by rw [List.drop_zero]); rw [e1] at h ⊢; have e2 : (((l.take k ++ [s]) ++ (l.drop k).take (l.length - k)) : List ByteArray).length = 0 + k + 1 + (l.length - k) := (by simp <;> omega); rw [e2, List.map_append, List.map_append]; exact h, HB11s.out⟩
          refine AllReadyH.cons (o := ⟨_, _, _, _, _, _⟩) rfl (fun K hK => ?_) AllReadyH.nil
          go_simp
          obtain ⟨u6, hu6⟩ : ∃ V, V = u0.alloc (.cells #[.string s] 9) := ⟨_, rfl⟩
          rw [← hu6]
          obtain ⟨gs, hgs⟩ : ∃ g, g = u0.heap.size := ⟨_, rfl⟩
          rw [← hgs]
          have hB6 := (HB0s.out).size
          have HS6 := Lib.hid (show Has u6 gs 9 #[.string s] by rw [hu6, hgs]; exact Has.new _ _ _)
          have HB6s := Lib.hid (show Below w.heap.size w u6 by rw [hu6]; exact ((HB0s.out).alloc hB6 _))
          have hgg : gs ≠ g0 := by have h := (HO0.out.lt g0 rfl).2; omega
          have HO0 := Lib.hid (show u6.ownsRow w.heap.size 9 1 (.slice (some ⟨g0, 0, none⟩) 0 0) 0 [] by rw [hu6]; exact HO0.out.alloc _)
          clear hu6 hgs
          refine hK.out _ _ (trivial) (fun hHeld => ?_)
          clear hK K
          try simp only [Act.put, List.setIfInBounds_toArray, List.set_cons_zero, List.set_cons_succ]
          refine wpAnyH_ready (rs := [4]) (by kernel_rfl) (by simp) ?_
          refine AllReadyH.cons (o := ⟨_, _, _, _, _, _⟩) rfl (fun K hK => ?_) AllReadyH.nil
          rw [if_pos (show Region.wanted _ _ = true by rfl)]
          refine wp_appG (.tmp 33) (.tmp 36) 41 rfl w.heap.size 9 i0 (.string ⟨#[]⟩) 1 16 Tryz.underlying41 HI.out HZ.out hq1 hq2 rfl (by decide) _ _ _ rfl HO0.out (some ⟨g, 0, none⟩) k cap ((((l.drop 0).take k)).map .string) rfl (by simp <;> omega) (HSRC _ (HB6s.out) 0 k (by omega)) (str_ones _) (by unfold maxLen; simp <;> omega) (by simp <;> omega) (HB6s.out).size fun v4 u4 ho4 hg4 => ?_
          have HB4s := Lib.hid ((HB6s.out).grown hg4 (HB6s.out).size (fun j hj => (HO0.out.lt j hj).1))
          have HO4 := Lib.hid ho4
          have HS6 := Lib.hid (HS6.out.grown hg4 (by intro e; exact hgg (Option.some.inj e)))
          clear ho4 hg4
          refine hK.out _ _ (trivial) (fun hHeld => ?_)
          clear hK K
          try simp only [Act.put, List.setIfInBounds_toArray, List.set_cons_zero, List.set_cons_succ]
          refine wpAnyH_ready (rs := [7]) (by kernel_rfl) (by simp) ?_
          refine AllReadyH.cons (o := ⟨_, _, _, _, _, _⟩) rfl (fun K hK => ?_) AllReadyH.nil
          rw [if_pos (show Region.wanted _ _ = true by rfl)]
          refine wp_appG (.tmp 37) (.tmp 39) 41 rfl w.heap.size 9 i0 (.string ⟨#[]⟩) 1 16 Tryz.underlying41 HI.out HZ.out hq1 hq2 rfl (by decide) _ _ _ rfl HO4.out (some ⟨gs, 0, none⟩) 1 1 (([s]).map .string) rfl (by simp <;> omega) (.inr ⟨_, rfl, fun j u hj => by rw [Addr.add_mid, Nat.zero_add, HS6.out.facts.1 j]; simpa using hj⟩) (str_ones _) (by unfold maxLen; simp <;> omega) (by simp <;> omega) (HB4s.out).size fun v7 u7 ho7 hg7 => ?_
          have HB7s := Lib.hid ((HB4s.out).grown hg7 (HB4s.out).size (fun j hj => (HO4.out.lt j hj).1))
          have HO7 := Lib.hid ho7
          clear ho7 hg7
          refine hK.out _ _ (trivial) (fun hHeld => ?_)
          clear hK K
          try simp only [Act.put, List.setIfInBounds_toArray, List.set_cons_zero, List.set_cons_succ]
          refine wpAnyH_ready (rs := [11]) (by kernel_rfl) (by simp) ?_
          refine AllReadyH.cons (o := ⟨_, _, _, _, _, _⟩) rfl (fun K hK => ?_) AllReadyH.nil
          rw [if_pos (show Region.wanted _ _ = true by rfl)]
          refine wp_appG (.tmp 40) (.tmp 43) 41 rfl w.heap.size 9 i0 (.string ⟨#[]⟩) 1 16 Tryz.underlying41 HI.out HZ.out hq1 hq2 rfl (by decide) _ _ _ rfl HO7.out (some ⟨g, k, none⟩) (l.length - k) (cap - k) ((((l.drop k).take (l.length - k))).map .string) rfl (by simp <;> omega) (HSRC _ (HB7s.out) k (l.length - k) (by omega)) (str_ones _) (by unfold maxLen; simp <;> omega) (by simp <;> omega) (HB7s.out).size fun v11 u11 ho11 hg11 => ?_
          have HB11s := Lib.hid ((HB7s.out).grown hg11 (HB7s.out).size (fun j hj => (HO7.out.lt j hj).1))
          have HO11 := Lib.hid ho11
          clear ho11 hg11
          refine hK.out _ _ (trivial) (fun hHeld => ?_)
          clear hK K
          try simp only [Act.put, List.setIfInBounds_toArray, List.set_cons_zero, List.set_cons_succ]
          refine plI [(12, false)] ?_
          repeat ((first | ((with_reducible show Plan ((_, true) :: _) _); refine plF ?_) | (refine plR (v := ?_) ?_ ?_; rotate_left; focus (intro W hSW; (try dsimp only at hSW); go_simp; all_goals (with_reducible rfl)))); try simp only [Act.put, List.setIfInBounds_toArray, List.set_cons_zero, List.set_cons_succ])
          refine plE ?_
          refine wpAnyH_done (by kernel_rfl) ?_ _
          clear hHeld
          go_wp2_with fail
          go_ret
          exact ⟨_, rfl, by rw [HP2.out, show l.take k ++ s :: l.drop k = ((l.drop 0).take k ++ [s]) ++ (l.drop k).take (l.length - k) by simp [List.take_of_length_le]]; have h := own_base HO11.out hB; have e1 : (l.drop 0).take k = l.take k := (by rw [List.drop_zero]); rw [e1] at h ⊢; have e2 : (((l.take k ++ [s]) ++ (l.drop k).take (l.length - k)) : List ByteArray).length = 0 + k + 1 + (l.length - k) := (by simp <;> omega); rw [e2, List.map_append, List.map_append]; exact h, HB11s.out⟩
        refine AllReadyH.cons (o := ⟨_, _, _, _, _, _⟩) rfl (fun K hK => ?_) AllReadyH.nil
        go_simp
        obtain ⟨u6, hu6⟩ : ∃ V, V = (V8.alloc (.cells #[.string s] 9)).drew := ⟨_, rfl⟩
        rw [← hu6]
        obtain ⟨gs, hgs⟩ : ∃ g, g = V8.heap.size := ⟨_, rfl⟩
        rw [← hgs]
        have hB6 := (HB8.out).size
        have HS6 := Lib.hid (show Has u6 gs 9 #[.string s] by rw [hu6, hgs]; exact Has.new _ _ _)
        have HB6s := Lib.hid (show Below w.heap.size w u6 by rw [hu6]; exact ((HB8.out).alloc hB6 _).drew)
        have hgslt : gs < u6.heap.size := HS6.out.lt
        clear hu6 hgs
        refine hK.out _ _ (trivial) (fun hHeld => ?_)
        clear hK K
        try simp only [Act.put, List.setIfInBounds_toArray, List.set_cons_zero, List.set_cons_succ]
        refine wpAnyH_ready (rs := [0]) (by kernel_rfl) (by simp) ?_
        refine AllReadyH.cons (o := ⟨_, _, _, _, _, _⟩) rfl (fun K hK => ?_) AllReadyH.nil
        go_simp
        obtain ⟨u0, hu0⟩ : ∃ V, V = u6.alloc (.cells #[] 9) := ⟨_, rfl⟩
        rw [← hu0]
        obtain ⟨g0, hg0⟩ : ∃ g, g = u6.heap.size := ⟨_, rfl⟩
        rw [← hg0]
        have hB0 := (HB6s.out).size
        have HO0 := Lib.hid (show u0.ownsRow w.heap.size 9 1 (.slice (some ⟨g0, 0, none⟩) 0 0) 0 [] by rw [hu0, hg0]; exact own_lit (n := 0) (Has.new _ 9 #[]) hB0 rfl (Nat.zero_le _))
        have HB0s := Lib.hid (show Below w.heap.size w u0 by rw [hu0]; exact ((HB6s.out).alloc hB0 _))
        have HS6 := Lib.hid (show Has u0 gs 9 #[.string s] by rw [hu0]; exact HS6.out.alloc _)
        have hgg : gs ≠ g0 := by have := HS6.out.lt; have h6 := hgslt; omega
        clear hu0 hg0
        refine hK.out _ _ (trivial) (fun hHeld => ?_)
        clear hK K
        try simp only [Act.put, List.setIfInBounds_toArray, List.set_cons_zero, List.set_cons_succ]
        refine wpAnyH_ready (rs := [4]) (by kernel_rfl) (by simp) ?_
        refine AllReadyH.cons (o := ⟨_, _, _, _, _, _⟩) rfl (fun K hK => ?_) AllReadyH.nil
        rw [if_pos (show Region.wanted _ _ = true by rfl)]
        refine wp_appG (.tmp 33) (.tmp 36) 41 rfl w.heap.size 9 i0 (.string ⟨#[]⟩) 1 16 Tryz.underlying41 HI.out HZ.out hq1 hq2 rfl (by decide) _ _ _ rfl HO0.out (some ⟨g, 0, none⟩) k cap ((((l.drop 0).take k)).map .string) rfl (by simp <;> omega) (HSRC _ (HB0s.out) 0 k (by omega)) (str_ones _) (by unfold maxLen; simp <;> omega) (by simp <;> omega) (HB0s.out).size fun v4 u4 ho4 hg4 => ?_
        have HB4s := Lib.hid ((HB0s.out).grown hg4 (HB0s.out).size (fun j hj => (HO0.out.lt j hj).1))
        have HO4 := Lib.hid ho4
        have HS6 := Lib.hid (HS6.out.grown hg4 (by intro e; exact hgg (Option.some.inj e)))
        clear ho4 hg4
        refine hK.out _ _ (trivial) (fun hHeld => ?_)
        clear hK K
        try simp only [Act.put, List.setIfInBounds_toArray, List.set_cons_zero, List.set_cons_succ]
        refine wpAnyH_ready (rs := [7]) (by kernel_rfl) (by simp) ?_
        refine AllReadyH.cons (o := ⟨_, _, _, _, _, _⟩) rfl (fun K hK => ?_) AllReadyH.nil
        rw [if_pos (show Region.wanted _ _ = true by rfl)]
        refine wp_appG (.tmp 37) (.tmp 39) 41 rfl w.heap.size 9 i0 (.string ⟨#[]⟩) 1 16 Tryz.underlying41 HI.out HZ.out hq1 hq2 rfl (by decide) _ _ _ rfl HO4.out (some ⟨gs, 0, none⟩) 1 1 (([s]).map .string) rfl (by simp <;> omega) (.inr ⟨_, rfl, fun j u hj => by rw [Addr.add_mid, Nat.zero_add, HS6.out.facts.1 j]; simpa using hj⟩) (str_ones _) (by unfold maxLen; simp <;> omega) (by simp <;> omega) (HB4s.out).size fun v7 u7 ho7 hg7 => ?_
        have HB7s := Lib.hid ((HB4s.out).grown hg7 (HB4s.out).size (fun j hj => (HO4.out.lt j hj).1))
        have HO7 := Lib.hid ho7
        clear ho7 hg7
        refine hK.out _ _ (trivial) (fun hHeld => ?_)
        clear hK K
        try simp only [Act.put, List.setIfInBounds_toArray, List.set_cons_zero, List.set_cons_succ]
        refine wpAnyH_ready (rs := [11]) (by kernel_rfl) (by simp) ?_
        refine AllReadyH.cons (o := ⟨_, _, _, _, _, _⟩) rfl (fun K hK => ?_) AllReadyH.nil
        rw [if_pos (show Region.wanted _ _ = true by rfl)]
        refine wp_appG (.tmp 40) (.tmp 43) 41 rfl w.heap.size 9 i0 (.string ⟨#[]⟩) 1 16 Tryz.underlying41 HI.out HZ.out hq1 hq2 rfl (by decide) _ _ _ rfl HO7.out (some ⟨g, k, none⟩) (l.length - k) (cap - k) ((((l.drop k).take (l.length - k))).map .string) rfl (by simp <;> omega) (HSRC _ (HB7s.out) k (l.length - k) (by omega)) (str_ones _) (by unfold maxLen; simp <;> omega) (by simp <;> omega) (HB7s.out).size fun v11 u11 ho11 hg11 => ?_
        have HB11s := Lib.hid ((HB7s.out).grown hg11 (HB7s.out).size (fun j hj => (HO7.out.lt j hj).1))
        have HO11 := Lib.hid ho11
        clear ho11 hg11
        refine hK.out _ _ (trivial) (fun hHeld => ?_)
        clear hK K
        try simp only [Act.put, List.setIfInBounds_toArray, List.set_cons_zero, List.set_cons_succ]
        refine plI [(12, false)] ?_
        repeat ((first | ((with_reducible show Plan ((_, true) :: _) _); refine plF ?_) | (refine plR (v := ?_) ?_ ?_; rotate_left; focus (intro W hSW; (try dsimp only at hSW); go_simp; all_goals (with_reducible rfl)))); try simp only [Act.put, List.setIfInBounds_toArray, List.set_cons_zero, List.set_cons_succ])
        refine plE ?_
        refine wpAnyH_done (by kernel_rfl) ?_ _
        clear hHeld
        go_wp2_with fail
        go_ret
        exact ⟨_, rfl, by rw [HP2.out, show l.take k ++ s :: l.drop k = ((l.drop 0).take k ++ [s]) ++ (l.drop k).take (l.length - k) by simp [List.take_of_length_le]]; have h := own_base HO11.out hB; have e1 : (l.drop 0).take k = l.take k := (by rw [List.drop_zero]); rw [e1] at h ⊢; have e2 : (((l.take k ++ [s]) ++ (l.drop k).take (l.length - k)) : List ByteArray).length = 0 + k + 1 + (l.length - k) := (by simp <;> omega); rw [e2, List.map_append, List.map_append]; exact h, HB11s.out⟩
set_option maxRecDepth 100000 in
set_option maxHeartbeats 8000000 in
theorem put_nil (s : ByteArray) (w : World) (B : Nat) (hB : B ≤ w.heap.size) :
    Calls Tryz.prog 34 #[.slice none 0 0, .string s] w fun e w' => ∃ v', e = .returned v' ∧ w'.ownsRow B 9 1 v' [s].length ([s].map .string) ∧ Below w.heap.size w w' := by
  obtain ⟨i0, hi, hz0, hq1, hq2⟩ := info_parts info_str
  have HI := Lib.hid hi
  have HZ := Lib.hid hz0
  have HB8 := Lib.hid (Below.refl w.heap.size w)
  clear hi hz0
  go_enter Tryz.func34, Tryz.ntmps34
  go_wp2_with fail
  refine wp_loop_rounds 1 ?_
  rw [rounds_succ]
  go_wp2_with fail
  refine wp_region_held_drew (S := fun W => True) (by kernel_rfl) (trivial) (fun hHeld => ?_)
  refine plI [(1, false), (2, false), (3, false), (5, false), (8, false), (9, false), (10, false)] ?_
  repeat ((first | ((with_reducible show Plan ((_, true) :: _) _); refine plF ?_) | (refine plR (v := ?_) ?_ ?_; rotate_left; focus (intro W hSW; (try dsimp only at hSW); go_simp; all_goals (with_reducible rfl)))); try simp only [Act.put, List.setIfInBounds_toArray, List.set_cons_zero, List.set_cons_succ])
  refine plE ?_
  refine wpAnyH_ready (rs := [0, 6]) (by kernel_rfl) (by simp) ?_
  refine AllReadyH.cons (o := ⟨_, _, _, _, _, _⟩) rfl (fun K hK => ?_) ?_
  · go_simp
    obtain ⟨u0, hu0⟩ : ∃ V, V = (w.alloc (.cells #[] 9)).drew := ⟨_, rfl⟩
    rw [← hu0]
    obtain ⟨g0, hg0⟩ : ∃ g, g = w.heap.size := ⟨_, rfl⟩
    rw [← hg0]
    have hB0 := (HB8.out).size
    have HO0 := Lib.hid (show u0.ownsRow w.heap.size 9 1 (.slice (some ⟨g0, 0, none⟩) 0 0) 0 [] by rw [hu0, hg0]; exact own_lit (n := 0) (Has.new _ 9 #[]) hB0 rfl (Nat.zero_le _))
    have HB0s := Lib.hid (show Below w.heap.size w u0 by rw [hu0]; exact ((HB8.out).alloc hB0 _).drew)
    clear hu0 hg0
    refine hK.out _ _ (trivial) (fun hHeld => ?_)
    clear hK K
    try simp only [Act.put, List.setIfInBounds_toArray, List.set_cons_zero, List.set_cons_succ]
    refine wpAnyH_ready (rs := [4, 6]) (by kernel_rfl) (by simp) ?_
    refine AllReadyH.cons (o := ⟨_, _, _, _, _, _⟩) rfl (fun K hK => ?_) ?_
    · rw [if_pos (show Region.wanted _ _ = true by rfl)]
      refine wp_appG (.tmp 33) (.tmp 36) 41 rfl w.heap.size 9 i0 (.string ⟨#[]⟩) 1 16 Tryz.underlying41 HI.out HZ.out hq1 hq2 rfl (by decide) _ _ _ rfl HO0.out none 0 _ ((([] : List ByteArray)).map .string) rfl (by simp) (.inl rfl) (str_ones _) (by unfold maxLen; simp <;> omega) (by simp) (HB0s.out).size fun v4 u4 ho4 hg4 => ?_
      have HB4s := Lib.hid ((HB0s.out).grown hg4 (HB0s.out).size (fun j hj => (HO0.out.lt j hj).1))
      have HO4 := Lib.hid ho4
      clear ho4 hg4
      refine hK.out _ _ (trivial) (fun hHeld => ?_)
      clear hK K
      try simp only [Act.put, List.setIfInBounds_toArray, List.set_cons_zero, List.set_cons_succ]
      refine wpAnyH_ready (rs := [6]) (by kernel_rfl) (by simp) ?_
      refine AllReadyH.cons (o := ⟨_, _, _, _, _, _⟩) rfl (fun K hK => ?_) AllReadyH.nil
      go_simp
      obtain ⟨u6, hu6⟩ : ∃ V, V = u4.alloc (.cells #[.string s] 9) := ⟨_, rfl⟩
      rw [← hu6]
      obtain ⟨gs, hgs⟩ : ∃ g, g = u4.heap.size := ⟨_, rfl⟩
      rw [← hgs]
      have hB6 := (HB4s.out).size
      have HS6 := Lib.hid (show Has u6 gs 9 #[.string s] by rw [hu6, hgs]; exact Has.new _ _ _)
      have HB6s := Lib.hid (show Below w.heap.size w u6 by rw [hu6]; exact ((HB4s.out).alloc hB6 _))
      have HO4 := Lib.hid (show u6.ownsRow w.heap.size 9 1 v4 (0 + 0) ([] ++ (([] : List ByteArray)).map .string) by rw [hu6]; exact HO4.out.alloc _)
      clear hu6 hgs
      refine hK.out _ _ (trivial) (fun hHeld => ?_)
      clear hK K
      try simp only [Act.put, List.setIfInBounds_toArray, List.set_cons_zero, List.set_cons_succ]
      refine wpAnyH_ready (rs := [7]) (by kernel_rfl) (by simp) ?_
      refine AllReadyH.cons (o := ⟨_, _, _, _, _, _⟩) rfl (fun K hK => ?_) AllReadyH.nil
      rw [if_pos (show Region.wanted _ _ = true by rfl)]
      refine wp_appG (.tmp 37) (.tmp 39) 41 rfl w.heap.size 9 i0 (.string ⟨#[]⟩) 1 16 Tryz.underlying41 HI.out HZ.out hq1 hq2 rfl (by decide) _ _ _ rfl HO4.out (some ⟨gs, 0, none⟩) 1 1 (([s]).map .string) rfl (by simp) (.inr ⟨_, rfl, fun j u hj => by rw [Addr.add_mid, Nat.zero_add, HS6.out.facts.1 j]; simpa using hj⟩) (str_ones _) (by unfold maxLen; simp <;> omega) (by simp) (HB6s.out).size fun v7 u7 ho7 hg7 => ?_
      have HB7s := Lib.hid ((HB6s.out).grown hg7 (HB6s.out).size (fun j hj => (HO4.out.lt j hj).1))
      have HO7 := Lib.hid ho7
      clear ho7 hg7
      refine hK.out _ _ (trivial) (fun hHeld => ?_)
      clear hK K
      try simp only [Act.put, List.setIfInBounds_toArray, List.set_cons_zero, List.set_cons_succ]
      refine wpAnyH_ready (rs := [11]) (by kernel_rfl) (by simp) ?_
      refine AllReadyH.cons (o := ⟨_, _, _, _, _, _⟩) rfl (fun K hK => ?_) AllReadyH.nil
      rw [if_pos (show Region.wanted _ _ = true by rfl)]
      refine wp_appG (.tmp 40) (.tmp 43) 41 rfl w.heap.size 9 i0 (.string ⟨#[]⟩) 1 16 Tryz.underlying41 HI.out HZ.out hq1 hq2 rfl (by decide) _ _ _ rfl HO7.out none 0 _ ((([] : List ByteArray)).map .string) rfl (by simp) (.inl rfl) (str_ones _) (by unfold maxLen; simp <;> omega) (by simp) (HB7s.out).size fun v11 u11 ho11 hg11 => ?_
      have HB11s := Lib.hid ((HB7s.out).grown hg11 (HB7s.out).size (fun j hj => (HO7.out.lt j hj).1))
      have HO11 := Lib.hid ho11
      clear ho11 hg11
      refine hK.out _ _ (trivial) (fun hHeld => ?_)
      clear hK K
      try simp only [Act.put, List.setIfInBounds_toArray, List.set_cons_zero, List.set_cons_succ]
      refine plI [(12, false)] ?_
      repeat ((first | ((with_reducible show Plan ((_, true) :: _) _); refine plF ?_) | (refine plR (v := ?_) ?_ ?_; rotate_left; focus (intro W hSW; (try dsimp only at hSW); go_simp; all_goals (with_reducible rfl)))); try simp only [Act.put, List.setIfInBounds_toArray, List.set_cons_zero, List.set_cons_succ])
      refine plE ?_
      refine wpAnyH_done (by kernel_rfl) ?_ _
      clear hHeld
      go_wp2_with fail
      go_ret
      exact ⟨_, rfl, own_base HO11.out hB, HB11s.out⟩
    refine AllReadyH.cons (o := ⟨_, _, _, _, _, _⟩) rfl (fun K hK => ?_) AllReadyH.nil
    go_simp
    obtain ⟨u6, hu6⟩ : ∃ V, V = u0.alloc (.cells #[.string s] 9) := ⟨_, rfl⟩
    rw [← hu6]
    obtain ⟨gs, hgs⟩ : ∃ g, g = u0.heap.size := ⟨_, rfl⟩
    rw [← hgs]
    have hB6 := (HB0s.out).size
    have HS6 := Lib.hid (show Has u6 gs 9 #[.string s] by rw [hu6, hgs]; exact Has.new _ _ _)
    have HB6s := Lib.hid (show Below w.heap.size w u6 by rw [hu6]; exact ((HB0s.out).alloc hB6 _))
    have hgg : gs ≠ g0 := by have h := (HO0.out.lt g0 rfl).2; omega
    have HO0 := Lib.hid (show u6.ownsRow w.heap.size 9 1 (.slice (some ⟨g0, 0, none⟩) 0 0) 0 [] by rw [hu6]; exact HO0.out.alloc _)
    clear hu6 hgs
    refine hK.out _ _ (trivial) (fun hHeld => ?_)
    clear hK K
    try simp only [Act.put, List.setIfInBounds_toArray, List.set_cons_zero, List.set_cons_succ]
    refine wpAnyH_ready (rs := [4]) (by kernel_rfl) (by simp) ?_
    refine AllReadyH.cons (o := ⟨_, _, _, _, _, _⟩) rfl (fun K hK => ?_) AllReadyH.nil
    rw [if_pos (show Region.wanted _ _ = true by rfl)]
    refine wp_appG (.tmp 33) (.tmp 36) 41 rfl w.heap.size 9 i0 (.string ⟨#[]⟩) 1 16 Tryz.underlying41 HI.out HZ.out hq1 hq2 rfl (by decide) _ _ _ rfl HO0.out none 0 _ ((([] : List ByteArray)).map .string) rfl (by simp) (.inl rfl) (str_ones _) (by unfold maxLen; simp <;> omega) (by simp) (HB6s.out).size fun v4 u4 ho4 hg4 => ?_
    have HB4s := Lib.hid ((HB6s.out).grown hg4 (HB6s.out).size (fun j hj => (HO0.out.lt j hj).1))
    have HO4 := Lib.hid ho4
    have HS6 := Lib.hid (HS6.out.grown hg4 (by intro e; exact hgg (Option.some.inj e)))
    clear ho4 hg4
    refine hK.out _ _ (trivial) (fun hHeld => ?_)
    clear hK K
    try simp only [Act.put, List.setIfInBounds_toArray, List.set_cons_zero, List.set_cons_succ]
    refine wpAnyH_ready (rs := [7]) (by kernel_rfl) (by simp) ?_
    refine AllReadyH.cons (o := ⟨_, _, _, _, _, _⟩) rfl (fun K hK => ?_) AllReadyH.nil
    rw [if_pos (show Region.wanted _ _ = true by rfl)]
    refine wp_appG (.tmp 37) (.tmp 39) 41 rfl w.heap.size 9 i0 (.string ⟨#[]⟩) 1 16 Tryz.underlying41 HI.out HZ.out hq1 hq2 rfl (by decide) _ _ _ rfl HO4.out (some ⟨gs, 0, none⟩) 1 1 (([s]).map .string) rfl (by simp) (.inr ⟨_, rfl, fun j u hj => by rw [Addr.add_mid, Nat.zero_add, HS6.out.facts.1 j]; simpa using hj⟩) (str_ones _) (by unfold maxLen; simp <;> omega) (by simp) (HB4s.out).size fun v7 u7 ho7 hg7 => ?_
    have HB7s := Lib.hid ((HB4s.out).grown hg7 (HB4s.out).size (fun j hj => (HO4.out.lt j hj).1))
    have HO7 := Lib.hid ho7
    clear ho7 hg7
    refine hK.out _ _ (trivial) (fun hHeld => ?_)
    clear hK K
    try simp only [Act.put, List.setIfInBounds_toArray, List.set_cons_zero, List.set_cons_succ]
    refine wpAnyH_ready (rs := [11]) (by kernel_rfl) (by simp) ?_
    refine AllReadyH.cons (o := ⟨_, _, _, _, _, _⟩) rfl (fun K hK => ?_) AllReadyH.nil
    rw [if_pos (show Region.wanted _ _ = true by rfl)]
    refine wp_appG (.tmp 40) (.tmp 43) 41 rfl w.heap.size 9 i0 (.string ⟨#[]⟩) 1 16 Tryz.underlying41 HI.out HZ.out hq1 hq2 rfl (by decide) _ _ _ rfl HO7.out none 0 _ ((([] : List ByteArray)).map .string) rfl (by simp) (.inl rfl) (str_ones _) (by unfold maxLen; simp <;> omega) (by simp) (HB7s.out).size fun v11 u11 ho11 hg11 => ?_
    have HB11s := Lib.hid ((HB7s.out).grown hg11 (HB7s.out).size (fun j hj => (HO7.out.lt j hj).1))
    have HO11 := Lib.hid ho11
    clear ho11 hg11
    refine hK.out _ _ (trivial) (fun hHeld => ?_)
    clear hK K
    try simp only [Act.put, List.setIfInBounds_toArray, List.set_cons_zero, List.set_cons_succ]
    refine plI [(12, false)] ?_
    repeat ((first | ((with_reducible show Plan ((_, true) :: _) _); refine plF ?_) | (refine plR (v := ?_) ?_ ?_; rotate_left; focus (intro W hSW; (try dsimp only at hSW); go_simp; all_goals (with_reducible rfl)))); try simp only [Act.put, List.setIfInBounds_toArray, List.set_cons_zero, List.set_cons_succ])
    refine plE ?_
    refine wpAnyH_done (by kernel_rfl) ?_ _
    clear hHeld
    go_wp2_with fail
    go_ret
    exact ⟨_, rfl, own_base HO11.out hB, HB11s.out⟩
  refine AllReadyH.cons (o := ⟨_, _, _, _, _, _⟩) rfl (fun K hK => ?_) AllReadyH.nil
  go_simp
  obtain ⟨u6, hu6⟩ : ∃ V, V = (w.alloc (.cells #[.string s] 9)).drew := ⟨_, rfl⟩
  rw [← hu6]
  obtain ⟨gs, hgs⟩ : ∃ g, g = w.heap.size := ⟨_, rfl⟩
  rw [← hgs]
  have hB6 := (HB8.out).size
  have HS6 := Lib.hid (show Has u6 gs 9 #[.string s] by rw [hu6, hgs]; exact Has.new _ _ _)
  have HB6s := Lib.hid (show Below w.heap.size w u6 by rw [hu6]; exact ((HB8.out).alloc hB6 _).drew)
  have hgslt : gs < u6.heap.size := HS6.out.lt
  clear hu6 hgs
  refine hK.out _ _ (trivial) (fun hHeld => ?_)
  clear hK K
  try simp only [Act.put, List.setIfInBounds_toArray, List.set_cons_zero, List.set_cons_succ]
  refine wpAnyH_ready (rs := [0]) (by kernel_rfl) (by simp) ?_
  refine AllReadyH.cons (o := ⟨_, _, _, _, _, _⟩) rfl (fun K hK => ?_) AllReadyH.nil
  go_simp
  obtain ⟨u0, hu0⟩ : ∃ V, V = u6.alloc (.cells #[] 9) := ⟨_, rfl⟩
  rw [← hu0]
  obtain ⟨g0, hg0⟩ : ∃ g, g = u6.heap.size := ⟨_, rfl⟩
  rw [← hg0]
  have hB0 := (HB6s.out).size
  have HO0 := Lib.hid (show u0.ownsRow w.heap.size 9 1 (.slice (some ⟨g0, 0, none⟩) 0 0) 0 [] by rw [hu0, hg0]; exact own_lit (n := 0) (Has.new _ 9 #[]) hB0 rfl (Nat.zero_le _))
  have HB0s := Lib.hid (show Below w.heap.size w u0 by rw [hu0]; exact ((HB6s.out).alloc hB0 _))
  have HS6 := Lib.hid (show Has u0 gs 9 #[.string s] by rw [hu0]; exact HS6.out.alloc _)
  have hgg : gs ≠ g0 := by have := HS6.out.lt; have h6 := hgslt; omega
  clear hu0 hg0
  refine hK.out _ _ (trivial) (fun hHeld => ?_)
  clear hK K
  try simp only [Act.put, List.setIfInBounds_toArray, List.set_cons_zero, List.set_cons_succ]
  refine wpAnyH_ready (rs := [4]) (by kernel_rfl) (by simp) ?_
  refine AllReadyH.cons (o := ⟨_, _, _, _, _, _⟩) rfl (fun K hK => ?_) AllReadyH.nil
  rw [if_pos (show Region.wanted _ _ = true by rfl)]
  refine wp_appG (.tmp 33) (.tmp 36) 41 rfl w.heap.size 9 i0 (.string ⟨#[]⟩) 1 16 Tryz.underlying41 HI.out HZ.out hq1 hq2 rfl (by decide) _ _ _ rfl HO0.out none 0 _ ((([] : List ByteArray)).map .string) rfl (by simp) (.inl rfl) (str_ones _) (by unfold maxLen; simp <;> omega) (by simp) (HB0s.out).size fun v4 u4 ho4 hg4 => ?_
  have HB4s := Lib.hid ((HB0s.out).grown hg4 (HB0s.out).size (fun j hj => (HO0.out.lt j hj).1))
  have HO4 := Lib.hid ho4
  have HS6 := Lib.hid (HS6.out.grown hg4 (by intro e; exact hgg (Option.some.inj e)))
  clear ho4 hg4
  refine hK.out _ _ (trivial) (fun hHeld => ?_)
  clear hK K
  try simp only [Act.put, List.setIfInBounds_toArray, List.set_cons_zero, List.set_cons_succ]
  refine wpAnyH_ready (rs := [7]) (by kernel_rfl) (by simp) ?_
  refine AllReadyH.cons (o := ⟨_, _, _, _, _, _⟩) rfl (fun K hK => ?_) AllReadyH.nil
  rw [if_pos (show Region.wanted _ _ = true by rfl)]
  refine wp_appG (.tmp 37) (.tmp 39) 41 rfl w.heap.size 9 i0 (.string ⟨#[]⟩) 1 16 Tryz.underlying41 HI.out HZ.out hq1 hq2 rfl (by decide) _ _ _ rfl HO4.out (some ⟨gs, 0, none⟩) 1 1 (([s]).map .string) rfl (by simp) (.inr ⟨_, rfl, fun j u hj => by rw [Addr.add_mid, Nat.zero_add, HS6.out.facts.1 j]; simpa using hj⟩) (str_ones _) (by unfold maxLen; simp <;> omega) (by simp) (HB4s.out).size fun v7 u7 ho7 hg7 => ?_
  have HB7s := Lib.hid ((HB4s.out).grown hg7 (HB4s.out).size (fun j hj => (HO4.out.lt j hj).1))
  have HO7 := Lib.hid ho7
  clear ho7 hg7
  refine hK.out _ _ (trivial) (fun hHeld => ?_)
  clear hK K
  try simp only [Act.put, List.setIfInBounds_toArray, List.set_cons_zero, List.set_cons_succ]
  refine wpAnyH_ready (rs := [11]) (by kernel_rfl) (by simp) ?_
  refine AllReadyH.cons (o := ⟨_, _, _, _, _, _⟩) rfl (fun K hK => ?_) AllReadyH.nil
  rw [if_pos (show Region.wanted _ _ = true by rfl)]
  refine wp_appG (.tmp 40) (.tmp 43) 41 rfl w.heap.size 9 i0 (.string ⟨#[]⟩) 1 16 Tryz.underlying41 HI.out HZ.out hq1 hq2 rfl (by decide) _ _ _ rfl HO7.out none 0 _ ((([] : List ByteArray)).map .string) rfl (by simp) (.inl rfl) (str_ones _) (by unfold maxLen; simp <;> omega) (by simp) (HB7s.out).size fun v11 u11 ho11 hg11 => ?_
  have HB11s := Lib.hid ((HB7s.out).grown hg11 (HB7s.out).size (fun j hj => (HO7.out.lt j hj).1))
  have HO11 := Lib.hid ho11
  clear ho11 hg11
  refine hK.out _ _ (trivial) (fun hHeld => ?_)
  clear hK K
  try simp only [Act.put, List.setIfInBounds_toArray, List.set_cons_zero, List.set_cons_succ]
  refine plI [(12, false)] ?_
  repeat ((first | ((with_reducible show Plan ((_, true) :: _) _); refine plF ?_) | (refine plR (v := ?_) ?_ ?_; rotate_left; focus (intro W hSW; (try dsimp only at hSW); go_simp; all_goals (with_reducible rfl)))); try simp only [Act.put, List.setIfInBounds_toArray, List.set_cons_zero, List.set_cons_succ])
  refine plE ?_
  refine wpAnyH_done (by kernel_rfl) ?_ _
  clear hHeld
  go_wp2_with fail
  go_ret
  exact ⟨_, rfl, own_base HO11.out hB, HB11s.out⟩
end Go.Proofs.YtjlpllnhefafkaaGreatDoor
namespace Go.Proofs.YtjlpllnhefafkaaGreatDoor
open Go Go.RowKit
theorem put_any (v : Value) (l : List ByteArray) (s : ByteArray) (w : World) (B : Nat) (hB : B ≤ w.heap.size) (hl : l.length ≤ 1000) (ho : w.ownsRow B 9 1 v l.length (l.map .string)) :
    Calls Tryz.prog 34 #[v, .string s] w fun e w' => ∃ v', e = .returned v' ∧ w'.ownsRow B 9 1 v' (putN l s).length ((putN l s).map .string) ∧ Below w.heap.size w w' := by
  have ho2 := ho
  rcases ho.2 with ⟨rfl, h0⟩ | ⟨g, cap, cur, rfl, h1⟩
  · have : l = [] := List.eq_nil_of_length_eq_zero h0
    subst this
    exact put_nil s w B hB
  · exact put_cells l s g _ cap w B hB hl ho2
theorem flat_snoc9 (l : List Ev) (k : Nat) (h : k < l.length) : ((l.take (k + 1)).map evNames).flatten = ((l.take k).map evNames).flatten ++ evNames (l.getD k noEv) := by
  rw [take_getD l k noEv h, List.map_append, List.flatten_append]
  simp
theorem evNames_two (e : Ev) : (evNames e).length ≤ 2 := by unfold evNames; split <;> (try split) <;> simp
theorem flat_two (l : List Ev) : ((l).map evNames).flatten.length ≤ 2 * l.length := by
  induction l with
  | nil => exact Nat.zero_le _
  | cons e r ih =>
    have := evNames_two e
    rw [List.map_cons, List.flatten_cons, List.length_append, List.length_cons]
    omega
theorem own_keep {w w' : World} {B t n : Nat} {v : Value} {xs : List Value} (h : w.ownsRow B t 1 v n xs) (hb : Below w.heap.size w w') : w'.ownsRow B t 1 v n xs :=
  h.kept (row := none) (World.grownBy_of_below hb) (by cases Value.ownBlock _ <;> simp)
set_option maxRecDepth 100000 in
set_option maxHeartbeats 8000000 in
theorem refNames_any (v : Value) (l : List Ev) (d : Bool) (w : World) (hv : Sl w v l.length 14 (evF l)) (hs : ∀ e ∈ l, e.short) (hl : l.length ≤ 1000) :
    Calls Tryz.prog 20 #[.agg #[v, .bool d]] w fun e w' => ∃ v', e = .returned v' ∧ w'.ownsRow w.heap.size 9 1 v' (repNames l).length ((repNames l).map .string) ∧ Below w.heap.size w w' := by
  have HV := Lib.hid hv
  have HS := Lib.hid hs
  obtain ⟨A, c, rfl, hn, hc⟩ := hv
  have HC := Lib.hid hc
  clear hs hc
  cases hok : repOk l
  · have hr := Lib.hid (show repNames l = [] by unfold repNames; rw [hok]; rfl)
    have HOK := Lib.hid hok
    clear hok
    go_enter Tryz.func20, Tryz.ntmps20
    go_wp2_with (go_at_call 15; refine (refRep_any _ l _ _ (HV.out.below ((Below.refl _ _).alloc (Nat.le_refl _) _)) HS.out hl).mono ?_; rintro e w2 ⟨rfl, hb2⟩; rw [HOK.out]; obtain ⟨hE2, hB2, hz2⟩ := boxed hb2; have HB2 := Lib.hid hB2; clear hb2 hE2 hB2)
    go_ret
    exact ⟨_, rfl, by rw [hr.out]; exact World.ownsRow_nil _ _ _ _, HB2.out⟩
  · have hl4 := repOk_le hok
    have hr := Lib.hid (show repNames l = putAll [] (l.map evNames).flatten by unfold repNames; rw [hok, putAll_join]; rfl)
    have HOK := Lib.hid hok
    clear hok
    go_enter Tryz.func20, Tryz.ntmps20
    go_wp2_with (go_at_call 15; refine (refRep_any _ l _ _ (HV.out.below ((Below.refl _ _).alloc (Nat.le_refl _) _)) HS.out hl).mono ?_; rintro e w2 ⟨rfl, hb2⟩; rw [HOK.out]; obtain ⟨hE2, hB2, hz2⟩ := boxed hb2; obtain ⟨hc2, hf2⟩ := hE2.facts; have HB2 := Lib.hid hB2; have HE2 := Lib.hid hE2; clear hb2 hE2 hB2)
    go_loopw [3, 4] (fun o i wr => ∃ k : Nat, k ≤ l.length ∧ i = .int .i64 k ∧ Hid (wr.ownsRow w.heap.size 9 1 o (putAll [] ((l.take k).map evNames).flatten).length ((putAll [] ((l.take k).map evNames).flatten).map .string)) ∧ Hid (Has wr w.heap.size 31 #[.slice A l.length c, .bool d]) ∧ Hid (Below w.heap.size w wr)) (fun _ i _ => l.length - (intOf i).toNat)
    case atStart => exact ⟨0, Nat.zero_le _, rfl, World.ownsRow_nil _ _ _ _, HE2.out, HB2.out⟩
    case round =>
      obtain ⟨k, hk, rfl, HO, HX, HB⟩ := hrel
      obtain ⟨xr, yr⟩ := HX.out.facts
      clear hc2 hf2
      by_cases hlt : k < l.length
      · rcases HC.out with h0 | ⟨g, og, rfl, hc⟩
        · omega
        have hrg : wr.rangeAt g (og + k * 14) (l.getD k noEv).cells.toList := ev_range (fun j hj => cell_later HB.out (hc j hj)) hlt
        have HFS := Lib.hid (flat_snoc9 l k hlt)
        have hfl := flat_two (l.take k)
        rw [List.length_take] at hfl
        have HNM := Lib.hid (fun W => names9_any (l.getD k noEv) W (HS.out _ (getD_mem l k noEv hlt)))
        have h2 := evNames_two (l.getD k noEv)
        generalize evNames (l.getD k noEv) = nm at *
        generalize ((l.take k).map evNames).flatten = P at *
        have hpl := putAll_len P []
        rw [List.length_nil] at hpl
        clear hc
        generalize l.getD k noEv = ev at *
        obtain ⟨op, day, part, kind, into, slot, key, value, kl, kh, cl, ch, ll, lh⟩ := ev
        replace hrg : wr.rangeAt g (og + k * 14) [.int .i64 op, .int .i64 day, .string part, .string kind, .string into, .string slot, .string key, .string value, .int .i64 kl, .int .i64 kh, .int .i64 cl, .int .i64 ch, .int .i64 ll, .int .i64 lh] := hrg
        have HNM2 : Hid (∀ W, Calls Tryz.prog 33 #[.agg #[.int .i64 op, .int .i64 day, .string part, .string kind, .string into, .string slot, .string key, .string value, .int .i64 kl, .int .i64 kh, .int .i64 cl, .int .i64 ch, .int .i64 ll, .int .i64 lh]] W fun r w' => ∃ v', r = .returned v' ∧ w'.ownsRow W.heap.size 9 1 v' nm.length (nm.map .string) ∧ Below W.heap.size W w') := HNM.out
        clear HNM
        go_wp2_with (first | ((with_reducible show wpList _ _ _ (Oper.mk (some 21) _ _ _ _ _ :: _) _ _); refine wpList_load_mid rfl 49 _ rfl g (og + k * 14) rfl _ _ hrg Tryz.underlying49 rfl rfl ?_) | (go_at_call 33; refine (HNM2.out _).mono ?_; rintro e w5 ⟨nv, rfl, ho5, hb5⟩; have HN5 := Lib.hid (str_own ho5); have HX5 := Lib.hid (HX.out.below hb5 HX.out.lt); have HO5 := Lib.hid (own_keep HO.out hb5); have HB5 := Lib.hid (HB.out.trans (hb5.mono HB.out.size)); clear ho5 hb5 xr yr hrg))
        obtain ⟨A5, c5, rfl, hn5, hc5⟩ := HN5.out
        have HC5 := Lib.hid hc5
        clear hc5
        go_loopw [3, 6] (fun o i wr => ∃ j : Nat, j ≤ nm.length ∧ i = .int .i64 j ∧ Hid (wr.ownsRow w.heap.size 9 1 o (putAll [] (P ++ nm.take j)).length ((putAll [] (P ++ nm.take j)).map .string)) ∧ Hid (Has wr w.heap.size 31 #[.slice (some ⟨g, og, none⟩) l.length c, .bool d]) ∧ Hid (Below w5.heap.size w5 wr)) (fun _ i _ => nm.length - (intOf i).toNat)
        case atStart => exact ⟨0, Nat.zero_le _, rfl, by rw [List.take_zero, List.append_nil]; exact HO5.out, HX5.out, Below.refl _ _⟩
        case round =>
          obtain ⟨j, hj, rfl, HO6, HX6, HB6⟩ := hrel
          obtain ⟨xr6, yr6⟩ := HX6.out.facts
          clear HO5 HX5
          by_cases hjl : j < nm.length
          · rcases HC5.out with h0 | ⟨b5, o5, rfl, hc5⟩
            · omega
            have hji : (j : Int) < (nm.length : Int) := by omega
            have hd : wr.cell? ⟨b5, o5 + j, none⟩ = some (.string (nm.getD j ByteArray.empty)) := cell_later HB6.out (hc5 j (by omega))
            have hpl2 := putAll_len (P ++ nm.take j) []
            rw [List.length_nil, List.length_append, List.length_take] at hpl2
            have HTK := Lib.hid (show putN (putAll [] (P ++ nm.take j)) (nm.getD j ByteArray.empty) = putAll [] (P ++ nm.take (j + 1)) by rw [take_getD nm j ByteArray.empty hjl, ← List.append_assoc, putAll_snoc])
            have HPUT := Lib.hid (fun x => put_any _ (putAll [] (P ++ nm.take j)) x wr w.heap.size (HB5.out.trans (HB6.out.mono HB5.out.size)).size (by omega) HO6.out)
            generalize nm.getD j ByteArray.empty = t at *
            clear hc5
            go_wp2_with (go_at_call 34; refine (HPUT.out t).mono ?_; rintro e w7 ⟨v7, rfl, ho7, hb7⟩; have HX7 := Lib.hid (HX6.out.below hb7 HX6.out.lt); have HB7 := Lib.hid (HB6.out.trans (hb7.mono HB6.out.size)); rw [HTK.out] at ho7; have HO7 := Lib.hid ho7; clear hb7 ho7)
            go_roundw
            case rel => exact ⟨j + 1, by omega, by go_num, HO7.out, HX7.out, HB7.out⟩
            case measure => simp [intOf]; omega
          · have hje : j = nm.length := by omega
            have hji : ¬ (j : Int) < (nm.length : Int) := by omega
            have h8 := HO6.out
            rw [hje, List.take_length, ← HFS.out] at h8
            have HO8 := Lib.hid h8
            clear hje h8
            go_wp2_with fail
            go_roundw
            case rel => exact ⟨k + 1, by omega, by go_num, HO8.out, HX6.out, HB5.out.trans (HB6.out.mono HB5.out.size)⟩
            case measure => simp [intOf]; omega
      · have hke : k = l.length := by omega
        have h8 := HO.out
        rw [hke, List.take_length, ← hr.out] at h8
        have HO8 := Lib.hid h8
        have hki : ¬ (k : Int) < (l.length : Int) := by omega
        clear hke h8
        go_wp2_with fail
        go_ret
        exact ⟨_, rfl, HO8.out, HB.out⟩
end Go.Proofs.YtjlpllnhefafkaaGreatDoor
