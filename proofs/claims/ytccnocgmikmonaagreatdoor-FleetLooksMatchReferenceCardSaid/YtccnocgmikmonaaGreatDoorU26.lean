/- Plain facts of valid states: order, places, seats; what cannot be done to a fitted part. Plain facts of valid states: no part is inside itself; roots; what is inside a part, and on whose way. Plain facts of laying a thing into an ordered list by its key. bogielaw10.head: the chapter's examples come out right. bogieref10.Few: is a state of a moderate size? Arguments of the fleet's laws opened: catalogs, states, events; with what the form's reach gives. No condition. -/
import Derived.BigQuiet
import Derived.Carry
import Derived.Deep.Cut
import Derived.Deep.CutRange
import Derived.Deep.QuietTactic
import Derived.Deep.RegionHeld3
import Derived.Deep.Slices
import Derived.ProofKit
import Derived.SizedLaws
import Derived.Test.YtccnocgmikmonaaGreatDoorU04
import Derived.Test.YtccnocgmikmonaaGreatDoorU05
import Derived.Test.YtccnocgmikmonaaGreatDoorU06
import Derived.Test.YtccnocgmikmonaaGreatDoorU07
import Derived.Test.YtccnocgmikmonaaGreatDoorU24
import Derived.Test.YtccnocgmikmonaaGreatDoorU25
namespace Go.Proofs.YtccnocgmikmonaaGreatDoor
open Go Go.RowKit
theorem srtB_lt {l : List ByteArray} (h : sortedB l = true) {i j : Nat} (hij : i < j) (hj : j < l.length) : ltS (l.getD i eS) (l.getD j eS) = true := by
  unfold sortedB sortTo at h
  rw [List.all_eq_true] at h
  induction j with
  | zero => omega
  | succ j ih =>
    have h1 := h j (by rw [List.mem_range]; omega)
    rcases Nat.lt_or_ge i j with h2 | h2
    · exact ltS_trans (ih h2 (by omega)) h1
    · obtain rfl : i = j := by omega
      exact h1
theorem getD_get {α : Type} (l : List α) (i : Nat) (d : α) (h : i < l.length) : l.getD i d = l[i] := by
  rw [List.getD_eq_getElem?_getD, List.getElem?_eq_getElem h]; rfl
theorem sorted_iff (l : List ByteArray) : sortedB l = true ↔ l.Pairwise fun a b => ltS a b = true := by
  constructor
  · intro h
    rw [List.pairwise_iff_getElem]
    intro i j hi hj hij
    have := srtB_lt h hij hj
    rwa [getD_get _ _ _ hi, getD_get _ _ _ hj] at this
  · intro h
    rw [List.pairwise_iff_getElem] at h
    unfold sortedB sortTo
    rw [List.all_eq_true]
    intro i hi
    rw [List.mem_range] at hi
    have := h i (i + 1) (by omega) (by omega) (by omega)
    rwa [getD_get _ _ _ (by omega), getD_get _ _ _ (by omega)]
/-- Parts in strictly increasing order of their names. -/
def Ord (l : List Pa) : Prop := l.Pairwise fun p q => ltS p.name q.name = true
theorem sorted_ord {l : List Pa} : sortedB (l.map Pa.name) = true ↔ Ord l := by
  rw [sorted_iff, List.pairwise_map]; rfl
theorem pfind_self {l : List Pa} (h : Ord l) {p : Pa} (hp : p ∈ l) : pfind l p.name = some p := by
  induction l with
  | nil => cases hp
  | cons q l ih =>
    unfold Ord at h
    rw [List.pairwise_cons] at h
    unfold pfind
    rw [List.find?_cons]
    rcases List.mem_cons.1 hp with rfl | hp2
    · simp
    · have h1 := h.1 p hp2
      have h2 : ¬ q.name = p.name := by
        intro e; rw [e, ltS_irr] at h1; cases h1
      rw [decide_eq_false h2]
      exact ih h.2 hp2
theorem pfind_mem {l : List Pa} {x : ByteArray} {p : Pa} (h : pfind l x = some p) : p ∈ l ∧ p.name = x := by
  unfold pfind at h
  exact ⟨List.mem_of_find?_eq_some h, by simpa using List.find?_some h⟩
theorem pfind_none {l : List Pa} {x : ByteArray} : pfind l x = none ↔ ∀ p ∈ l, p.name ≠ x := by
  unfold pfind; rw [List.find?_eq_none]; simp
theorem ord_inj {l : List Pa} (h : Ord l) {p q : Pa} (hp : p ∈ l) (hq : q ∈ l) (he : p.name = q.name) : p = q := by
  have h1 := pfind_self h hp
  rw [he, pfind_self h hq] at h1
  exact (Option.some.inj h1).symm
/-- A valid state, taken apart. -/
structure Vld (c : List Kd) (l : List Pa) : Prop where
  cat : catB c = true
  len : l.length ≤ 20000
  ord : Ord l
  right : ∀ p ∈ l, partOk c l p = true
  seat : (seats l).Nodup
theorem vld_iff {c : List Kd} {l : List Pa} : validB c l = true ↔ Vld c l := by
  unfold validB okTo
  simp only [Bool.and_eq_true, decide_eq_true_eq, List.take_length, List.all_eq_true, sorted_ord]
  constructor
  · rintro ⟨⟨h1, h2, h3⟩, h4, h5⟩
    exact ⟨h1, h2, h3, h4, h5⟩
  · intro h
    exact ⟨⟨h.cat, h.len, h.ord⟩, h.right, h.seat⟩
/-- What a fitted part's host is. -/
theorem fit_host {c : List Kd} {l : List Pa} {p : Pa} (hp : partOk c l p = true) (hi : p.into ≠ eS) : ∃ h, pfind l p.into = some h ∧ p.gone = false ∧ h.gone = false ∧ takesB c h.kind p.slot p.kind = true := by
  unfold partOk at hp
  rw [decide_eq_false hi, Bool.false_or, Bool.and_eq_true, Bool.and_eq_true, placeOk_eq] at hp
  have h2 := hp.2.2
  cases hf : pfind l p.into with
  | none => rw [hf] at h2; cases h2
  | some h =>
    rw [hf] at h2
    simp only [Option.isSome_some, Option.getD_some, Bool.true_and, Bool.and_eq_true, Bool.not_eq_true'] at h2
    exact ⟨h, rfl, h2.1, h2.2.1, h2.2.2⟩
theorem part_name {c : List Kd} {l : List Pa} {p : Pa} (hp : partOk c l p = true) : nameB p.name = true := by
  unfold partOk rightB at hp
  simp only [Bool.and_eq_true] at hp
  exact hp.1.1.1.1.2
def fitE (part into slot : ByteArray) : Ev := ⟨2, 0, part, eS, into, slot, eS, eS, 0, 0, 0, 0, 0, 0⟩
def scrapE (part : ByteArray) : Ev := ⟨7, 0, part, eS, eS, eS, eS, eS, 0, 0, 0, 0, 0, 0⟩
theorem evOk_iff {e : Ev} : evOk e = true ↔ (1 ≤ e.op ∧ e.op ≤ 7) ∧ (0 ≤ e.day ∧ e.day ≤ 40000) ∧ nameB e.part = true ∧ evRest e = true := by
  unfold evOk
  simp only [Bool.and_eq_true, decide_eq_true_eq]
theorem rest0_scrap (part : ByteArray) : rest0 (scrapE part) = true := by
  have h : rest0 (scrapE part) = rest0 zeroEv := rfl
  rw [h]; decide +kernel
theorem scrapE_ok {part : ByteArray} (h : nameB part = true) : evOk (scrapE part) = true :=
  evOk_iff.2 ⟨by simp [scrapE], by simp [scrapE], h, rest0_scrap part⟩
theorem turn_held {c : List Kd} {l : List Pa} {e : Ev} (p h : Pa) (ho : e.op = 2) (hh : heldAt l e.into e.slot = true) : (turnL c l e p h).2 ≠ 0 := by
  unfold turnL
  rw [if_pos ho, hh]
  split
  · simp
  · split
    · simp
    · split
      · simp
      · simp
theorem turn_in {c : List Kd} {l : List Pa} {e : Ev} (p h : Pa) (ho : e.op = 2) (hi : p.into ≠ eS) : (turnL c l e p h).2 ≠ 0 := by
  unfold turnL
  rw [if_pos ho, if_pos hi]
  split
  · simp
  · split
    · simp
    · simp
theorem step_fit {c : List Kd} {l : List Pa} {e : Ev} (ho : e.op = 2) (h : ∀ p q, pfind l e.part = some p → pfind l e.into = some q → (turnL c l e p q).2 ≠ 0) : (stepL c l e).2 ≠ 0 := by
  unfold stepL
  rw [if_neg (by omega), if_pos ho]
  cases h1 : pfind l e.part with
  | none => simp
  | some p =>
    cases h2 : pfind l e.into with
    | none => simp
    | some q =>
      have := h p q h1 h2
      simp only [if_neg this]
      exact this
theorem apply_fit {c : List Kd} {l : List Pa} {e : Ev} (ho : e.op = 2) (h : ∀ p q, pfind l e.part = some p → pfind l e.into = some q → (turnL c l e p q).2 ≠ 0) : (applyL c l e).2 ≠ 0 := by
  unfold applyL
  split
  · exact step_fit ho h
  · simp
theorem slots_full {c : List Kd} {l : List Pa} {p : Pa} (hp : p ∈ l) (other : ByteArray) : (applyL c l (fitE other p.into p.slot)).2 ≠ 0 :=
  apply_fit rfl fun q h _ _ => turn_held q h rfl (by unfold heldAt; rw [List.any_eq_true]; exact ⟨p, hp, by simp [fitE]⟩)
theorem slots_in {c : List Kd} {l : List Pa} {p : Pa} (hv : validB c l = true) (hp : p ∈ l) (hi : p.into ≠ eS) (into slot : ByteArray) : (applyL c l (fitE p.name into slot)).2 ≠ 0 :=
  apply_fit rfl fun q h hq _ => turn_in q h rfl (by
    have h1 := pfind_self (vld_iff.1 hv).ord hp
    obtain rfl : p = q := Option.some.inj (h1.symm.trans hq)
    exact hi)
theorem apply_scrapE {c : List Kd} {l : List Pa} (hv : validB c l = true) {p : Pa} (hp : p ∈ l) (h : p.gone = false) (hb : p.into ≠ eS ∨ heldIn l p.name = true) : (applyL c l (scrapE p.name)).2 = 5 := by
  have V := vld_iff.1 hv
  have hok := scrapE_ok (part_name (V.right p hp))
  unfold applyL
  rw [hv, hok, Bool.and_self, if_pos rfl]
  unfold stepL
  rw [if_neg (show ¬ (scrapE p.name).op = 1 by simp [scrapE]), if_neg (show ¬ (scrapE p.name).op = 2 by simp [scrapE])]
  show (match pfind l p.name, pfind l p.name with | some p', some h => _ | _, _ => _ : List Pa × Int).2 = 5
  rw [pfind_self V.ord hp]
  have ht : turnL c l (scrapE p.name) p p = (p, 5) := by
    unfold turnL
    rw [h]
    show (if p.into ≠ eS || heldIn l p.name then (p, (5 : Int)) else _) = _
    rw [if_pos]
    rcases hb with hb | hb
    · simp [hb]
    · simp [hb]
  simp only [ht]
  rfl
theorem slots_scrap {c : List Kd} {l : List Pa} {p : Pa} (hv : validB c l = true) (hp : p ∈ l) (hi : p.into ≠ eS) : (applyL c l (scrapE p.name)).2 = 5 ∧ (applyL c l (scrapE p.into)).2 = 5 := by
  have V := vld_iff.1 hv
  obtain ⟨h, h1, h2, h3, _⟩ := fit_host (V.right p hp) hi
  obtain ⟨hm, hn⟩ := pfind_mem h1
  refine ⟨apply_scrapE hv hp h2 (.inl hi), ?_⟩
  rw [← hn]
  refine apply_scrapE hv hm h3 (.inr ?_)
  unfold heldIn
  rw [List.any_eq_true]
  exact ⟨p, hp, by simpa using hn.symm⟩
end Go.Proofs.YtccnocgmikmonaaGreatDoor
namespace Go.Proofs.YtccnocgmikmonaaGreatDoor
open Go Go.RowKit
/-- The place of a kind in the catalog. -/
def rk (c : List Kd) (k : ByteArray) : Nat := c.findIdx fun q => decide (q.name = k)
theorem takes_rank {c : List Kd} {hk slot pk : ByteArray} (hc : catB c = true) (h : takesB c hk slot pk = true) : rk c pk < rk c hk := by
  unfold takesB at h
  cases hf : kfind c hk with
  | none => rw [hf] at h; simp [sfind, noKd] at h
  | some k =>
    rw [hf, Option.getD_some] at h
    unfold kfind at hf
    obtain ⟨hk1, i, hi, hik, hlt⟩ := List.find?_eq_some_iff_getElem.1 hf
    have hidx : rk c hk = i := by
      unfold rk
      rw [List.findIdx_eq hi]
      exact ⟨by rw [hik]; exact hk1, fun j hj => by simpa using hlt j hj⟩
    rw [hidx]
    unfold catB catTo at hc
    rw [Bool.and_eq_true, List.all_eq_true] at hc
    have h1 := hc.1 i (by rw [List.mem_range]; exact hi)
    rw [getD_get _ _ _ hi, hik] at h1
    unfold kindOk at h1
    simp only [Bool.and_eq_true, List.all_eq_true] at h1
    cases hs : sfind k.slots slot with
    | none => rw [hs] at h; cases h
    | some s =>
      rw [hs] at h
      have h2 := h1.2.1 s (List.mem_of_find?_eq_some hs)
      unfold slotOk at h2
      simp only [Bool.and_eq_true, List.all_eq_true] at h2
      obtain ⟨x, hx, hxe⟩ := List.any_eq_true.1 h
      have h3 := h2.2.2 x hx
      obtain rfl : x = pk := by simpa using hxe
      obtain ⟨q, hq, hqe⟩ := List.any_eq_true.1 h3
      simp only [Bool.and_eq_true, decide_eq_true_eq] at hqe
      obtain ⟨j, hj, hjq⟩ := List.mem_take_iff_getElem.1 hq
      refine Nat.lt_of_le_of_lt (m := j) ?_ (by omega)
      refine Nat.le_of_not_lt fun hlt2 => ?_
      have := List.not_of_lt_findIdx hlt2
      rw [hjq, decide_eq_false_iff_not] at this
      exact this hqe.1
theorem host_rank {c : List Kd} {l : List Pa} (V : Vld c l) {p : Pa} (hp : p ∈ l) (hi : p.into ≠ eS) : ∃ h, h ∈ l ∧ h.name = p.into ∧ pfind l p.into = some h ∧ rk c p.kind < rk c h.kind := by
  obtain ⟨h, h1, _, _, h4⟩ := fit_host (V.right p hp) hi
  obtain ⟨h5, h6⟩ := pfind_mem h1
  exact ⟨h, h5, h6, h1, takes_rank V.cat h4⟩
/-- How many parts have a greater kind. -/
def dep (c : List Kd) (l : List Pa) (p : Pa) : Nat := (l.filter fun q => decide (rk c p.kind < rk c q.kind)).length
theorem dep_lt {c : List Kd} {l : List Pa} {p : Pa} (hp : p ∈ l) : dep c l p < l.length := by
  unfold dep
  rw [List.length_filter_lt_length_iff_exists]
  exact ⟨p, hp, by simp⟩
theorem filter_lt {α : Type} {P Q : α → Bool} : ∀ {l : List α}, (∀ x ∈ l, P x = true → Q x = true) → (∃ x ∈ l, Q x = true ∧ P x = false) → (l.filter P).length < (l.filter Q).length
  | [], _, ⟨x, hx, _⟩ => by cases hx
  | y :: l, hs, ⟨x, hx, h1, h2⟩ => by
    have hle : (l.filter P).length ≤ (l.filter Q).length := by
      rw [← List.countP_eq_length_filter, ← List.countP_eq_length_filter]
      exact List.countP_mono_left fun z hz => hs z (List.mem_cons_of_mem _ hz)
    rw [List.filter_cons, List.filter_cons]
    rcases List.mem_cons.1 hx with rfl | hx2
    · rw [h1, h2]; simp; omega
    · have ih := filter_lt (l := l) (fun z hz => hs z (List.mem_cons_of_mem _ hz)) ⟨x, hx2, h1, h2⟩
      cases hp : P y
      · cases hq : Q y <;> simp <;> omega
      · rw [hs y (List.mem_cons_self ..) hp]; simp; omega
theorem dep_up {c : List Kd} {l : List Pa} {p h : Pa} (hh : h ∈ l) (hr : rk c p.kind < rk c h.kind) : dep c l h < dep c l p :=
  filter_lt (fun x _ hx => by simp only [decide_eq_true_eq] at *; omega) ⟨h, hh, by simpa using hr, by simp⟩
theorem rootGo_succ (l : List Pa) (n : Nat) (a : ByteArray) : rootGo l (n + 1) a = match pfind l a with
    | none => eS
    | some p => if p.into = eS then a else rootGo l n p.into := rfl
theorem root_fuel {c : List Kd} {l : List Pa} (V : Vld c l) : ∀ (n : Nat) (p : Pa), p ∈ l → dep c l p < n → ∃ r ∈ l, r.into = eS ∧ ∀ m, dep c l p < m → rootGo l m p.name = r.name
  | 0, _, _, h => by omega
  | n + 1, p, hp, hd => by
    by_cases hi : p.into = eS
    · refine ⟨p, hp, hi, fun m hm => ?_⟩
      obtain ⟨m, rfl⟩ : ∃ k, m = k + 1 := ⟨m - 1, by omega⟩
      rw [rootGo_succ, pfind_self V.ord hp]
      exact if_pos hi
    · obtain ⟨h, hh, hn, hf, hr⟩ := host_rank V hp hi
      have hd2 := dep_up (c := c) hh hr
      obtain ⟨r, hr1, hr2, hr3⟩ := root_fuel V n h hh (by omega)
      refine ⟨r, hr1, hr2, fun m hm => ?_⟩
      obtain ⟨m, rfl⟩ : ∃ k, m = k + 1 := ⟨m - 1, by omega⟩
      rw [rootGo_succ, pfind_self V.ord hp]
      show (if p.into = eS then p.name else rootGo l m p.into) = r.name
      rw [if_neg hi, ← hn]
      exact hr3 m (by omega)
theorem root_part {c : List Kd} {l : List Pa} (V : Vld c l) {p : Pa} (hp : p ∈ l) : ∃ r ∈ l, r.into = eS ∧ ∀ m, dep c l p < m → rootGo l m p.name = r.name := root_fuel V _ p hp (Nat.lt_succ_self _)
theorem root_up {c : List Kd} {l : List Pa} (V : Vld c l) {p : Pa} (hp : p ∈ l) (hi : p.into ≠ eS) : rootL l p.name = rootL l p.into := by
  obtain ⟨h, hh, hn, hf, hr⟩ := host_rank V hp hi
  obtain ⟨r, _, _, h3⟩ := root_part V hh
  have hd := dep_lt (c := c) hp
  have hd2 := dep_up (c := c) hh hr
  unfold rootL
  rw [← hn, h3 l.length (by omega)]
  obtain ⟨m, hm⟩ : ∃ k, l.length = k + 1 := ⟨l.length - 1, by omega⟩
  rw [hm, rootGo_succ, pfind_self V.ord hp]
  show (if p.into = eS then p.name else rootGo l m p.into) = r.name
  rw [if_neg hi, ← hn]
  exact h3 m (by omega)
/-- Is a part on the way from another one, within n steps? -/
def onGo (l : List Pa) (b : ByteArray) : Nat → ByteArray → Bool
  | 0, _ => false
  | n + 1, a => match pfind l a with
    | none => false
    | some p => if p.into = eS then false else decide (p.into = b) || onGo l b n p.into
theorem onGo_succ (l : List Pa) (b : ByteArray) (n : Nat) (a : ByteArray) : onGo l b (n + 1) a = match pfind l a with
    | none => false
    | some p => if p.into = eS then false else decide (p.into = b) || onGo l b n p.into := rfl
theorem on_fuel {c : List Kd} {l : List Pa} (V : Vld c l) (b : ByteArray) : ∀ (n m : Nat) (p : Pa), p ∈ l → dep c l p < n → dep c l p < m → onGo l b n p.name = onGo l b m p.name
  | 0, _, _, _, h, _ => by omega
  | _, 0, _, _, _, h => by omega
  | n + 1, m + 1, p, hp, h1, h2 => by
    rw [onGo_succ, onGo_succ, pfind_self V.ord hp]
    show (if p.into = eS then false else _) = if p.into = eS then false else _
    by_cases hi : p.into = eS
    · rw [if_pos hi, if_pos hi]
    · obtain ⟨h, hh, hn, hf, hr⟩ := host_rank V hp hi
      have hd2 := dep_up (c := c) hh hr
      rw [if_neg hi, if_neg hi, ← hn, on_fuel V b n m h hh (by omega) (by omega)]
theorem on_rank {c : List Kd} {l : List Pa} (V : Vld c l) (b : Pa) (hb : b ∈ l) : ∀ (n : Nat) (p : Pa), p ∈ l → onGo l b.name n p.name = true → rk c p.kind < rk c b.kind
  | 0, _, _, h => by cases h
  | n + 1, p, hp, ho => by
    rw [onGo_succ, pfind_self V.ord hp] at ho
    change (if p.into = eS then false else _) = true at ho
    by_cases hi : p.into = eS
    · rw [if_pos hi] at ho; cases ho
    · obtain ⟨h, hh, hn, hf, hr⟩ := host_rank V hp hi
      rw [if_neg hi, Bool.or_eq_true, decide_eq_true_iff, ← hn] at ho
      rcases ho with ho | ho
      · rwa [ord_inj V.ord hh hb ho] at hr
      · have := on_rank V b hb n h hh ho
        omega
theorem on_root {c : List Kd} {l : List Pa} (V : Vld c l) (b : ByteArray) : ∀ (n : Nat) (p : Pa), p ∈ l → onGo l b n p.name = true → rootL l p.name = rootL l b
  | 0, _, _, h => by cases h
  | n + 1, p, hp, ho => by
    rw [onGo_succ, pfind_self V.ord hp] at ho
    change (if p.into = eS then false else _) = true at ho
    by_cases hi : p.into = eS
    · rw [if_pos hi] at ho; cases ho
    · obtain ⟨h, hh, hn, hf, hr⟩ := host_rank V hp hi
      rw [if_neg hi, Bool.or_eq_true, decide_eq_true_iff] at ho
      rw [root_up V hp hi]
      rcases ho with ho | ho
      · rw [ho]
      · rw [← hn] at ho ⊢; exact on_root V b n h hh ho
theorem on_part {l : List Pa} {b a : ByteArray} {n : Nat} (h : onGo l b n a = true) : ∃ p ∈ l, p.name = a := by
  cases n with
  | zero => cases h
  | succ n =>
    rw [onGo_succ] at h
    cases hf : pfind l a with
    | none => rw [hf] at h; cases h
    | some p => exact ⟨p, pfind_mem hf⟩
/-- How FleetTrees walks: where it ends, and whether it has met b. -/
def walkGo (l : List Pa) (b : ByteArray) : Nat → ByteArray → Bool → Option (ByteArray × Bool)
  | 0, a, on => some (a, on)
  | n + 1, a, on => match pfind l a with
    | none => none
    | some p => if p.into = eS then some (a, on) else walkGo l b n p.into (on || decide (p.into = b))
theorem walkGo_succ (l : List Pa) (b : ByteArray) (n : Nat) (a : ByteArray) (on : Bool) : walkGo l b (n + 1) a on = match pfind l a with
    | none => none
    | some p => if p.into = eS then some (a, on) else walkGo l b n p.into (on || decide (p.into = b)) := rfl
theorem walk_end {c : List Kd} {l : List Pa} (V : Vld c l) (b : ByteArray) : ∀ (n : Nat) (p : Pa) (on : Bool), p ∈ l → dep c l p < n → walkGo l b n p.name on = some (rootL l p.name, on || onGo l b n p.name)
  | 0, _, _, _, h => by omega
  | n + 1, p, on, hp, hd => by
    rw [walkGo_succ, onGo_succ, pfind_self V.ord hp]
    show (if p.into = eS then some (p.name, on) else walkGo l b n p.into (on || decide (p.into = b))) = some (rootL l p.name, on || if p.into = eS then false else decide (p.into = b) || onGo l b n p.into)
    by_cases hi : p.into = eS
    · rw [if_pos hi, if_pos hi, Bool.or_false]
      have hl := dep_lt (c := c) hp
      obtain ⟨m, hm⟩ : ∃ k, l.length = k + 1 := ⟨l.length - 1, by omega⟩
      unfold rootL
      rw [hm, rootGo_succ, pfind_self V.ord hp]
      show some (p.name, on) = some (if p.into = eS then p.name else _, on)
      rw [if_pos hi]
    · obtain ⟨h, hh, hn, hf, hr⟩ := host_rank V hp hi
      have hd2 := dep_up (c := c) hh hr
      rw [if_neg hi, if_neg hi, root_up V hp hi, ← hn, walk_end V b n h _ hh (by omega), Bool.or_assoc]
/-- Is a name inside a list, by pairs of names with where they are? -/
def look2 (R : List (ByteArray × ByteArray)) (x : ByteArray) : Option ByteArray := (R.find? fun p => decide (p.1 = x)).map (·.2)
def hits (R : List (ByteArray × ByteArray)) (L : List ByteArray) : Nat → ByteArray → Bool
  | 0, _ => false
  | n + 1, x => match look2 R x with
    | none => false
    | some i => inK L i || hits R L n i
theorem hits_succ (R : List (ByteArray × ByteArray)) (L : List ByteArray) (n : Nat) (x : ByteArray) : hits R L (n + 1) x = match look2 R x with
    | none => false
    | some i => inK L i || hits R L n i := rfl
theorem look2_some {R : List (ByteArray × ByteArray)} (hn : (R.map (·.1)).Nodup) {x i : ByteArray} : look2 R x = some i ↔ (x, i) ∈ R := by
  unfold look2
  induction R with
  | nil => simp
  | cons p R ih =>
    rw [List.map_cons, List.nodup_cons] at hn
    rw [List.find?_cons, List.mem_cons]
    by_cases h : p.1 = x
    · rw [decide_eq_true h]
      simp only [Option.map_some, Option.some.injEq]
      subst h
      constructor
      · rintro rfl; exact .inl rfl
      · rintro (h | h)
        · rw [← h]
        · exact absurd (List.mem_map.2 ⟨_, h, rfl⟩) hn.1
    · rw [decide_eq_false h]
      show (List.find? _ R).map _ = _ ↔ _
      rw [ih hn.2]
      constructor
      · exact .inr
      · rintro (h2 | h2)
        · rw [← h2] at h; exact absurd rfl h
        · exact h2
theorem look2_filter {R : List (ByteArray × ByteArray)} (hn : (R.map (·.1)).Nodup) (P : ByteArray × ByteArray → Bool) (x : ByteArray) : look2 (R.filter P) x = match look2 R x with
    | none => none
    | some i => if P (x, i) then some i else none := by
  have hn2 : ((R.filter P).map (·.1)).Nodup := hn.sublist ((List.filter_sublist).map _)
  cases h : look2 R x with
  | none =>
    cases h2 : look2 (R.filter P) x with
    | none => rfl
    | some i =>
      rw [look2_some hn2, List.mem_filter] at h2
      rw [(look2_some hn).2 h2.1] at h; cases h
  | some i =>
    rw [look2_some hn] at h
    by_cases hp : P (x, i) = true
    · show _ = if P (x, i) = true then some i else none
      rw [if_pos hp, look2_some hn2, List.mem_filter]; exact ⟨h, hp⟩
    · show _ = if P (x, i) = true then some i else none
      rw [if_neg hp]
      cases h2 : look2 (R.filter P) x with
      | none => rfl
      | some j =>
        rw [look2_some hn2, List.mem_filter] at h2
        have e := (look2_some hn).2 h2.1
        rw [(look2_some hn).2 h] at e
        cases e
        exact absurd h2.2 hp
def lvl1 (R : List (ByteArray × ByteArray)) (L : List ByteArray) : List ByteArray := (R.filter fun p => inK L p.2).map (·.1)
theorem lvl1_mem {R : List (ByteArray × ByteArray)} (hn : (R.map (·.1)).Nodup) {L : List ByteArray} {x : ByteArray} : inK (lvl1 R L) x = match look2 R x with
    | none => false
    | some i => inK L i := by
  rw [Bool.eq_iff_iff, inK_iff]
  unfold lvl1
  rw [List.mem_map]
  constructor
  · rintro ⟨⟨y, i⟩, hq, rfl⟩
    rw [List.mem_filter] at hq
    rw [(look2_some hn).2 hq.1]
    exact hq.2
  · intro h
    cases h2 : look2 R x with
    | none => rw [h2] at h; cases h
    | some i =>
      rw [h2] at h
      exact ⟨(x, i), List.mem_filter.2 ⟨(look2_some hn).1 h2, h⟩, rfl⟩
theorem hits_step {R : List (ByteArray × ByteArray)} (hn : (R.map (·.1)).Nodup) (L : List ByteArray) : ∀ (n : Nat) (x : ByteArray),
    hits R L (n + 1) x = (inK (lvl1 R L) x || hits (R.filter fun p => !inK L p.2) (lvl1 R L) n x)
  | 0, x => by
    rw [hits_succ, lvl1_mem hn]
    cases look2 R x with
    | none => rfl
    | some i => show (inK L i || false) = (inK L i || false); rfl
  | n + 1, x => by
    rw [hits_succ, lvl1_mem hn, hits_succ, look2_filter hn]
    cases look2 R x with
    | none => rfl
    | some i =>
      show (inK L i || hits R L (n + 1) i) = (inK L i || _)
      cases hi : inK L i
      · rw [Bool.false_or, Bool.false_or]
        show _ = match (if (!inK L i) = true then some i else none) with | none => false | some i => _
        rw [hi]
        exact hits_step hn L n i
      · rfl
theorem bfs_hits : ∀ (f : Nat) (R : List (ByteArray × ByteArray)) (L : List ByteArray), (R.map (·.1)).Nodup → ∀ x, x ∈ bfs f R L ↔ hits R L f x = true
  | 0, _, _, _, x => by simp [bfs, hits]
  | f + 1, R, L, hn, x => by
    rw [bfs_succ, List.mem_append, hits_step hn, Bool.or_eq_true, inK_iff]
    rw [bfs_hits f _ _ (hn.sublist ((List.filter_sublist).map _)) x]
    rfl
theorem bfs_sub : ∀ (f : Nat) (R : List (ByteArray × ByteArray)) (L : List ByteArray) (x : ByteArray), x ∈ bfs f R L → x ∈ R.map (·.1)
  | 0, _, _, x, h => by simp [bfs] at h
  | f + 1, R, L, x, h => by
    rw [bfs_succ, List.mem_append] at h
    rcases h with h | h
    · exact ((List.filter_sublist).map _).subset h
    · exact ((List.filter_sublist).map _).subset (bfs_sub f _ _ x h)
theorem bfs_nodup : ∀ (f : Nat) (R : List (ByteArray × ByteArray)) (L : List ByteArray), (R.map (·.1)).Nodup → (bfs f R L).Nodup
  | 0, _, _, _ => by simp [bfs]
  | f + 1, R, L, hn => by
    rw [bfs_succ, List.nodup_append]
    refine ⟨hn.sublist ((List.filter_sublist).map _), bfs_nodup f _ _ (hn.sublist ((List.filter_sublist).map _)), fun a ha b hb => ?_⟩
    rintro rfl
    have hb2 := bfs_sub f _ _ a hb
    obtain ⟨⟨a1, i⟩, h1, e1⟩ := List.mem_map.1 ha
    obtain ⟨⟨a2, j⟩, h2, e2⟩ := List.mem_map.1 hb2
    rw [List.mem_filter] at h1 h2
    simp only at e1 e2
    subst e1; subst e2
    have e := (look2_some hn).2 h1.1
    rw [(look2_some hn).2 h2.1] at e
    cases e
    have h3 := h1.2
    have h4 := h2.2
    simp only at h3 h4
    rw [h3] at h4; cases h4
/-- The fitted parts, in a state in order. -/
theorem fitted_look {l : List Pa} (h : Ord l) (x : ByteArray) : look2 (fitted l) x = match pfind l x with
    | none => none
    | some p => if p.into = eS then none else some p.into := by
  have hmem : ∀ i, (x, i) ∈ fitted l ↔ ∃ p ∈ l, p.name = x ∧ p.into = i ∧ p.into ≠ eS := by
    intro i
    unfold fitted
    rw [List.mem_map]
    constructor
    · rintro ⟨k, hk, he⟩
      rw [List.mem_filter, List.mem_range] at hk
      simp only [Prod.mk.injEq] at he
      have h2 := hk.2
      rw [Bool.and_eq_true] at h2
      rw [getD_get _ _ _ hk.1] at he h2
      exact ⟨l[k], List.getElem_mem _, he.1, he.2, by simpa using h2.2⟩
    · rintro ⟨p, hp, rfl, rfl, h3⟩
      obtain ⟨k, hk, rfl⟩ := List.mem_iff_getElem.1 hp
      refine ⟨k, ?_, by rw [getD_get _ _ _ hk]⟩
      rw [List.mem_filter, List.mem_range, getD_get _ _ _ hk, Bool.and_eq_true]
      refine ⟨hk, ?_, by simpa using h3⟩
      rw [Bool.not_eq_true', List.any_eq_false]
      intro q hq he
      obtain ⟨j, hj, rfl⟩ := List.mem_take_iff_getElem.1 hq
      have := List.pairwise_iff_getElem.1 h j k (by omega) hk (by omega)
      rw [of_decide_eq_true he, ltS_irr] at this
      cases this
  cases hf : pfind l x with
  | none =>
    cases h2 : look2 (fitted l) x with
    | none => rfl
    | some i =>
      rw [look2_some (fitted_nodup l), hmem] at h2
      obtain ⟨p, hp, he, _⟩ := h2
      exact absurd he (pfind_none.1 hf p hp)
  | some p =>
    obtain ⟨hp, hn⟩ := pfind_mem hf
    by_cases hi : p.into = eS
    · show _ = if p.into = eS then none else some p.into
      rw [if_pos hi]
      cases h2 : look2 (fitted l) x with
      | none => rfl
      | some i =>
        rw [look2_some (fitted_nodup l), hmem] at h2
        obtain ⟨q, hq, he, _, h3⟩ := h2
        obtain rfl := ord_inj h hp hq (hn.trans he.symm)
        exact absurd hi h3
    · show _ = if p.into = eS then none else some p.into
      rw [if_neg hi, look2_some (fitted_nodup l), hmem]
      exact ⟨p, hp, hn, rfl, hi⟩
theorem hits_on {c : List Kd} {l : List Pa} (V : Vld c l) {b : Pa} (hb : b ∈ l) : ∀ (n : Nat) (x : ByteArray), hits ((fitted l).filter fun p => !decide (p.1 = b.name)) [b.name] n x = onGo l b.name n x
  | 0, _ => rfl
  | n + 1, x => by
    by_cases hx : x = b.name
    · subst hx
      have h1 : onGo l b.name (n + 1) b.name = false := by
        rw [Bool.eq_false_iff]; intro h
        have := on_rank V b hb _ b hb h
        omega
      rw [h1, hits_succ, look2_filter (fitted_nodup l), fitted_look V.ord, pfind_self V.ord hb]
      by_cases hi : b.into = eS
      · simp only [if_pos hi]
      · simp only [if_neg hi, decide_true, Bool.not_true, Bool.false_eq_true, if_false]
    · rw [hits_succ, look2_filter (fitted_nodup l), fitted_look V.ord, onGo_succ]
      cases hf : pfind l x with
      | none => rfl
      | some p =>
        by_cases hi : p.into = eS
        · simp only [if_pos hi]
        · simp only [if_neg hi, decide_eq_false hx, Bool.not_false, if_true]
          rw [hits_on V hb n]
          congr 1
          show inK [b.name] p.into = _
          unfold inK
          rw [List.any_cons, List.any_nil, Bool.or_false, Bool.eq_iff_iff, decide_eq_true_iff, decide_eq_true_iff]
          exact ⟨Eq.symm, Eq.symm⟩
/-- What is inside a part: in order, each once, just those on whose way it is, with the same root. -/
theorem data_inj {a b : ByteArray} (h : a.data.toList = b.data.toList) : a = b := by
  cases a; cases b
  simpa using h
theorem inside_law {c : List Kd} {l : List Pa} (V : Vld c l) {b : Pa} (hb : b ∈ l) {ss : List ByteArray} (h : ss.map (fun s => s.data.toList) = insL l b.name) :
    (ss.Pairwise fun x y => ltS x y = true) ∧ (∀ x, x ∈ ss ↔ onGo l b.name (l.length + 1) x = true) ∧ ∀ x ∈ ss, rootL l x = rootL l b.name := by
  unfold insL at h
  rw [pfind_self V.ord hb, Option.isNone_some, if_neg (by decide)] at h
  have hperm : (ss.map fun s => s.data.toList).Perm ((bfs (l.length + 1) ((fitted l).filter fun p => !decide (p.1 = b.name)) [b.name]).map fun s => s.data.toList) := by
    rw [h]; exact List.mergeSort_perm _ _
  have hn : (((fitted l).filter fun p => !decide (p.1 = b.name)).map (·.1)).Nodup := (fitted_nodup l).sublist ((List.filter_sublist).map _)
  have hmem : ∀ x, x ∈ ss ↔ onGo l b.name (l.length + 1) x = true := by
    intro x
    rw [← hits_on V hb, ← bfs_hits _ _ _ hn]
    have := hperm.mem_iff (a := x.data.toList)
    rw [List.mem_map, List.mem_map] at this
    constructor
    · intro hx
      obtain ⟨y, hy, he⟩ := this.1 ⟨x, hx, rfl⟩
      rwa [data_inj he] at hy
    · intro hx
      obtain ⟨y, hy, he⟩ := this.2 ⟨x, hx, rfl⟩
      rwa [data_inj he] at hy
  refine ⟨?_, hmem, fun x hx => ?_⟩
  · have h1 : (ss.map fun s => s.data.toList).Pairwise fun x y => decide (x ≤ y) = true := by
      rw [h]; exact List.pairwise_mergeSort (fun a b c h1 h2 => by simp only [decide_eq_true_eq] at *; exact List.le_trans h1 h2) (fun a b => by
        rw [Bool.or_eq_true, decide_eq_true_iff, decide_eq_true_iff]; exact List.le_total a b) _
    have h2 : (ss.map fun s => s.data.toList).Nodup := by
      rw [hperm.nodup_iff]
      exact List.Pairwise.map _ (fun a b hab e => hab (data_inj e)) (bfs_nodup _ _ _ hn)
    have h3 := h1.and h2
    rw [List.pairwise_map] at h3
    refine h3.imp ?_
    rintro x y ⟨h4, h5⟩
    rw [ltS_iff]
    rw [decide_eq_true_iff] at h4
    rcases Classical.em (x.data.toList < y.data.toList) with h6 | h6
    · exact h6
    · exact absurd (List.le_antisymm h4 (List.not_lt.1 h6)) h5
  · have h1 := (hmem x).1 hx
    obtain ⟨p, hp, rfl⟩ := on_part h1
    exact on_root V b.name _ p hp h1
end Go.Proofs.YtccnocgmikmonaaGreatDoor
namespace Go.Proofs.YtccnocgmikmonaaGreatDoor
open Go Go.RowKit
section
variable {α : Type} (key : α → ByteArray)
def OrdK (l : List α) : Prop := l.Pairwise fun p q => ltS (key p) (key q) = true
theorem putG_cons_lt {l : List α} {y x : α} (h : ltS (key y) (key x) = true) : putG key (y :: l) x = y :: putG key l x := by
  unfold putG
  have e : lowG key (y :: l) (key x) = lowG key l (key x) + 1 := by
    unfold lowG; rw [List.takeWhile_cons, if_pos h, List.length_cons]
  rw [e, List.getElem?_cons_succ]
  split
  · rw [List.set_cons_succ]
  · rw [List.take_succ_cons, List.drop_succ_cons, List.cons_append]
theorem putG_form {l : List α} (h : OrdK key l) (x : α) : ∃ A B, (∀ a ∈ A, ltS (key a) (key x) = true) ∧ (∀ b ∈ B, ltS (key x) (key b) = true) ∧ putG key l x = A ++ x :: B ∧
    (l = A ++ B ∨ ∃ y, key y = key x ∧ l = A ++ y :: B) := by
  induction l with
  | nil => exact ⟨[], [], by simp, by simp, by simp [putG, lowG], .inl rfl⟩
  | cons y l ih =>
    unfold OrdK at h
    rw [List.pairwise_cons] at h
    cases hy : ltS (key y) (key x) with
    | true =>
      obtain ⟨A, B, h1, h2, h3, h4⟩ := ih h.2
      refine ⟨y :: A, B, fun a ha => ?_, h2, by rw [putG_cons_lt key hy, h3]; rfl, ?_⟩
      · rcases List.mem_cons.1 ha with rfl | ha
        · exact hy
        · exact h1 a ha
      · rcases h4 with h4 | ⟨z, h5, h4⟩
        · exact .inl (by rw [h4]; rfl)
        · exact .inr ⟨z, h5, by rw [h4]; rfl⟩
    | false =>
      have e : lowG key (y :: l) (key x) = 0 := by
        unfold lowG; rw [List.takeWhile_cons, hy]; rfl
      unfold putG
      rw [e]
      by_cases hk : key y = key x
      · refine ⟨[], l, by simp, fun b hb => by rw [← hk]; exact h.1 b hb, ?_, .inr ⟨y, hk, rfl⟩⟩
        rw [if_pos (by simp [hk])]; rfl
      · have hlt : ltS (key x) (key y) = true := by
          cases h2 : ltS (key x) (key y) with
          | true => rfl
          | false => exact absurd (ltS_conn hy h2) hk
        refine ⟨[], y :: l, by simp, fun b hb => ?_, ?_, .inl rfl⟩
        · rcases List.mem_cons.1 hb with rfl | hb
          · exact hlt
          · exact ltS_trans hlt (h.1 b hb)
        · rw [if_neg (by simp [hk])]; rfl
theorem ordK_mid {A B : List α} {x : α} (hA : OrdK key A) (hB : OrdK key B) (h1 : ∀ a ∈ A, ltS (key a) (key x) = true) (h2 : ∀ b ∈ B, ltS (key x) (key b) = true) : OrdK key (A ++ x :: B) := by
  unfold OrdK
  rw [List.pairwise_append, List.pairwise_cons]
  refine ⟨hA, ⟨h2, hB⟩, fun a ha b hb => ?_⟩
  rcases List.mem_cons.1 hb with rfl | hb
  · exact h1 a ha
  · exact ltS_trans (h1 a ha) (h2 b hb)
/-- The parts of a list around a key. -/
theorem putG_forms {l : List α} (h : OrdK key l) (x : α) : ∃ A B, putG key l x = A ++ x :: B ∧ OrdK key (A ++ x :: B) ∧ (∀ a ∈ A, ltS (key a) (key x) = true) ∧ (∀ b ∈ B, ltS (key x) (key b) = true) ∧
    (l = A ++ B ∨ ∃ y, key y = key x ∧ l = A ++ y :: B) := by
  obtain ⟨A, B, h1, h2, h3, h4⟩ := putG_form key h x
  refine ⟨A, B, h3, ?_, h1, h2, h4⟩
  rcases h4 with rfl | ⟨y, _, rfl⟩
  · have := List.pairwise_append.1 h
    exact ordK_mid key this.1 this.2.1 h1 h2
  · have := List.pairwise_append.1 h
    exact ordK_mid key this.1 (List.pairwise_cons.1 this.2.1).2 h1 h2
theorem putG_ord {l : List α} (h : OrdK key l) (x : α) : OrdK key (putG key l x) := by
  obtain ⟨A, B, h1, h2, _⟩ := putG_forms key h x
  rw [h1]; exact h2
theorem lt_ne {a b : ByteArray} (h : ltS a b = true) : a ≠ b := by
  rintro rfl; rw [ltS_irr] at h; cases h
theorem putG_mem {l : List α} (h : OrdK key l) (x y : α) : y ∈ putG key l x ↔ y = x ∨ (y ∈ l ∧ key y ≠ key x) := by
  obtain ⟨A, B, h1, _, h2, h3, h4⟩ := putG_forms key h x
  rw [h1, List.mem_append, List.mem_cons]
  have nA : ∀ a ∈ A, key a ≠ key x := fun a ha => lt_ne (h2 a ha)
  have nB : ∀ b ∈ B, key b ≠ key x := fun b hb e => lt_ne (h3 b hb) e.symm
  rcases h4 with rfl | ⟨z, hz, rfl⟩
  · rw [List.mem_append]
    constructor
    · rintro (h | h | h)
      · exact .inr ⟨.inl h, nA y h⟩
      · exact .inl h
      · exact .inr ⟨.inr h, nB y h⟩
    · rintro (h | ⟨h | h, _⟩)
      · exact .inr (.inl h)
      · exact .inl h
      · exact .inr (.inr h)
  · rw [List.mem_append, List.mem_cons]
    constructor
    · rintro (h | h | h)
      · exact .inr ⟨.inl h, nA y h⟩
      · exact .inl h
      · exact .inr ⟨.inr (.inr h), nB y h⟩
    · rintro (h | ⟨h | rfl | h, h5⟩)
      · exact .inr (.inl h)
      · exact .inl h
      · exact absurd hz h5
      · exact .inr (.inr h)
theorem ordK_ext : ∀ {l m : List α}, OrdK key l → OrdK key m → (∀ y, y ∈ l ↔ y ∈ m) → l = m
  | [], [], _, _, _ => rfl
  | [], y :: m, _, _, h => absurd ((h y).2 (List.mem_cons_self ..)) (by simp)
  | x :: l, [], _, _, h => absurd ((h x).1 (List.mem_cons_self ..)) (by simp)
  | x :: l, y :: m, hl, hm, h => by
    unfold OrdK at hl hm
    rw [List.pairwise_cons] at hl hm
    have hxy : x = y := by
      rcases List.mem_cons.1 ((h x).1 (List.mem_cons_self ..)) with h1 | h1
      · exact h1
      · rcases List.mem_cons.1 ((h y).2 (List.mem_cons_self ..)) with h2 | h2
        · exact h2.symm
        · have a1 := hl.1 y h2
          have a2 := hm.1 x h1
          rw [ltS_asymm a1] at a2; cases a2
    subst hxy
    rw [ordK_ext hl.2 hm.2]
    intro z
    have hz := h z
    rw [List.mem_cons, List.mem_cons] at hz
    constructor
    · intro hzl
      rcases hz.1 (.inr hzl) with rfl | h1
      · exact absurd rfl (lt_ne (hl.1 z hzl))
      · exact h1
    · intro hzm
      rcases hz.2 (.inr hzm) with rfl | h1
      · exact absurd rfl (lt_ne (hm.1 z hzm))
      · exact h1
theorem putG_comm {l : List α} (h : OrdK key l) {x y : α} (hn : key x ≠ key y) : putG key (putG key l x) y = putG key (putG key l y) x := by
  refine ordK_ext key (putG_ord key (putG_ord key h x) y) (putG_ord key (putG_ord key h y) x) fun z => ?_
  rw [putG_mem key (putG_ord key h x), putG_mem key (putG_ord key h y), putG_mem key h, putG_mem key h]
  constructor
  · rintro (rfl | ⟨rfl | ⟨h1, h2⟩, h3⟩)
    · exact .inr ⟨.inl rfl, hn.symm⟩
    · exact .inl rfl
    · exact .inr ⟨.inr ⟨h1, h3⟩, h2⟩
  · rintro (rfl | ⟨rfl | ⟨h1, h2⟩, h3⟩)
    · exact .inr ⟨.inl rfl, hn⟩
    · exact .inl rfl
    · exact .inr ⟨.inr ⟨h1, h3⟩, h2⟩
theorem ordK_inj : ∀ {l : List α}, OrdK key l → ∀ {x y : α}, x ∈ l → y ∈ l → key x = key y → x = y
  | z :: l, h, x, y, hx, hy, he => by
    unfold OrdK at h
    rw [List.pairwise_cons] at h
    rcases List.mem_cons.1 hx with hx2 | hx2
    · rcases List.mem_cons.1 hy with hy2 | hy2
      · rw [hx2, hy2]
      · exact absurd he (by rw [hx2]; exact lt_ne (h.1 y hy2))
    · rcases List.mem_cons.1 hy with hy2 | hy2
      · exact absurd he.symm (by rw [hy2]; exact lt_ne (h.1 x hx2))
      · exact ordK_inj h.2 hx2 hy2 he
/-- A thing that is laid back leads back. -/
theorem putG_back {l : List α} (h : OrdK key l) {x : α} (y : α) (hx : x ∈ l) (he : key y = key x) : putG key (putG key l y) x = l := by
  refine ordK_ext key (putG_ord key (putG_ord key h y) x) h fun z => ?_
  rw [putG_mem key (putG_ord key h y), putG_mem key h]
  constructor
  · rintro (rfl | ⟨rfl | ⟨h1, _⟩, h3⟩)
    · exact hx
    · exact absurd he h3
    · exact h1
  · intro hz
    by_cases hk : key z = key x
    · exact .inl (ordK_inj key h hz hx hk)
    · exact .inr ⟨.inr ⟨hz, by rw [he]; exact hk⟩, hk⟩
theorem putG_self {l : List α} (h : OrdK key l) {x : α} (hx : x ∈ l) : putG key l x = l := by
  refine ordK_ext key (putG_ord key h x) h fun z => ?_
  rw [putG_mem key h]
  constructor
  · rintro (rfl | ⟨h1, _⟩)
    · exact hx
    · exact h1
  · intro hz
    by_cases hk : key z = key x
    · exact .inl (ordK_inj key h hz hx hk)
    · exact .inr ⟨hz, hk⟩
theorem putG_len_new {l : List α} (h : OrdK key l) {x : α} (hn : ∀ y ∈ l, key y ≠ key x) : (putG key l x).length = l.length + 1 := by
  obtain ⟨A, B, h1, _, _, _, h4⟩ := putG_forms key h x
  rcases h4 with rfl | ⟨y, hy, rfl⟩
  · rw [h1]; simp; omega
  · exact absurd hy (hn y (by simp))
theorem putG_len_old {l : List α} (h : OrdK key l) {x y : α} (hy : y ∈ l) (he : key y = key x) : (putG key l x).length = l.length := by
  obtain ⟨A, B, h1, _, h2, h3, h4⟩ := putG_forms key h x
  rcases h4 with rfl | ⟨z, hz, rfl⟩
  · rcases List.mem_append.1 hy with h5 | h5
    · exact absurd he (lt_ne (h2 y h5))
    · exact absurd he.symm (lt_ne (h3 y h5))
  · rw [h1]; simp
theorem putG_len {l : List α} (h : OrdK key l) (x : α) : l.length ≤ (putG key l x).length ∧ (putG key l x).length ≤ l.length + 1 := by
  obtain ⟨A, B, h1, _, _, _, h4⟩ := putG_forms key h x
  rw [h1]
  rcases h4 with rfl | ⟨z, hz, rfl⟩ <;> simp <;> omega
/-- A thing in place of the one with its key. -/
theorem putG_old {l : List α} (h : OrdK key l) {x y : α} (hy : y ∈ l) (he : key y = key x) : ∃ A B, l = A ++ y :: B ∧ putG key l x = A ++ x :: B := by
  obtain ⟨A, B, h1, _, h2, h3, h4⟩ := putG_forms key h x
  rcases h4 with rfl | ⟨z, hz, rfl⟩
  · rcases List.mem_append.1 hy with h5 | h5
    · exact absurd he (lt_ne (h2 y h5))
    · exact absurd he.symm (lt_ne (h3 y h5))
  · obtain rfl : y = z := ordK_inj key h hy (by simp) (he.trans hz.symm)
    exact ⟨A, B, rfl, h1⟩
theorem putG_new {l : List α} (h : OrdK key l) {x : α} (hn : ∀ y ∈ l, key y ≠ key x) : ∃ A B, l = A ++ B ∧ putG key l x = A ++ x :: B := by
  obtain ⟨A, B, h1, _, _, _, h4⟩ := putG_forms key h x
  rcases h4 with rfl | ⟨y, hy, rfl⟩
  · exact ⟨A, B, rfl, h1⟩
  · exact absurd hy (hn y (by simp))
end
theorem putP_ord {l : List Pa} (h : Ord l) (x : Pa) : Ord (putP l x) := putG_ord Pa.name h x
theorem putP_mem {l : List Pa} (h : Ord l) (x y : Pa) : y ∈ putP l x ↔ y = x ∨ (y ∈ l ∧ y.name ≠ x.name) := putG_mem Pa.name h x y
theorem pfind_put_same {l : List Pa} (h : Ord l) (x : Pa) : pfind (putP l x) x.name = some x := pfind_self (putP_ord h x) ((putP_mem h x x).2 (.inl rfl))
theorem pfind_put_other {l : List Pa} (h : Ord l) {x : Pa} {n : ByteArray} (hn : n ≠ x.name) : pfind (putP l x) n = pfind l n := by
  cases hf : pfind l n with
  | none =>
    rw [pfind_none] at hf ⊢
    intro p hp
    rcases (putP_mem h x p).1 hp with rfl | ⟨h1, _⟩
    · exact Ne.symm hn
    · exact hf p h1
  | some p =>
    obtain ⟨hp, rfl⟩ := pfind_mem hf
    exact pfind_self (putP_ord h x) ((putP_mem h x p).2 (.inr ⟨hp, hn⟩))
end Go.Proofs.YtccnocgmikmonaaGreatDoor
namespace Go.Proofs.YtccnocgmikmonaaGreatDoor
open Go Go.RowKit
theorem made_any (a b : ByteArray) (w : World) : Calls Tryz.prog 23 #[.string a, .string b] w fun e w' => e = .returned (.agg #[.int .i64 1, .int .i64 0, .string a, .string b, .string ⟨#[]⟩, .string ⟨#[]⟩, .string ⟨#[]⟩, .string ⟨#[]⟩, .int .i64 0, .int .i64 0, .int .i64 0, .int .i64 0, .int .i64 0, .int .i64 0]) ∧ Below w.heap.size w w' := by
  go_enter Tryz.func23, Tryz.ntmps23
  go_wp2_with fail
  refine bodyPost_ret (v := .agg #[.int .i64 1, .int .i64 0, .string a, .string b, .string ⟨#[]⟩, .string ⟨#[]⟩, .string ⟨#[]⟩, .string ⟨#[]⟩, .int .i64 0, .int .i64 0, .int .i64 0, .int .i64 0, .int .i64 0, .int .i64 0]) (by simp [results, Tryz.results23, go_sem]) rfl ⟨rfl, ?_⟩
  exact (Below.refl _ _).alloc (Nat.le_refl _) _
theorem fits_any (a b c : ByteArray) (w : World) : Calls Tryz.prog 24 #[.string a, .string b, .string c] w fun e w' => e = .returned (.agg #[.int .i64 2, .int .i64 0, .string a, .string ⟨#[]⟩, .string b, .string c, .string ⟨#[]⟩, .string ⟨#[]⟩, .int .i64 0, .int .i64 0, .int .i64 0, .int .i64 0, .int .i64 0, .int .i64 0]) ∧ Below w.heap.size w w' := by
  go_enter Tryz.func24, Tryz.ntmps24
  go_wp2_with fail
  refine bodyPost_ret (v := .agg #[.int .i64 2, .int .i64 0, .string a, .string ⟨#[]⟩, .string b, .string c, .string ⟨#[]⟩, .string ⟨#[]⟩, .int .i64 0, .int .i64 0, .int .i64 0, .int .i64 0, .int .i64 0, .int .i64 0]) (by simp [results, Tryz.results24, go_sem]) rfl ⟨rfl, ?_⟩
  exact (Below.refl _ _).alloc (Nat.le_refl _) _
theorem ev5_row : (#[.int .i64 1, .int .i64 0, .string ⟨#[97]⟩, .string ⟨#[97, 120, 108, 101]⟩, .string ⟨#[]⟩, .string ⟨#[]⟩, .string ⟨#[]⟩, .string ⟨#[]⟩, .int .i64 0, .int .i64 0, .int .i64 0, .int .i64 0, .int .i64 0, .int .i64 0, .int .i64 1, .int .i64 0, .string ⟨#[119]⟩, .string ⟨#[119, 104, 101, 101, 108, 115, 101, 116]⟩, .string ⟨#[]⟩, .string ⟨#[]⟩, .string ⟨#[]⟩, .string ⟨#[]⟩, .int .i64 0, .int .i64 0, .int .i64 0, .int .i64 0, .int .i64 0, .int .i64 0, .int .i64 2, .int .i64 0, .string ⟨#[97]⟩, .string ⟨#[]⟩, .string ⟨#[119]⟩, .string ⟨#[97, 120, 108, 101]⟩, .string ⟨#[]⟩, .string ⟨#[]⟩, .int .i64 0, .int .i64 0, .int .i64 0, .int .i64 0, .int .i64 0, .int .i64 0, .int .i64 1, .int .i64 0, .string ⟨#[99]⟩, .string ⟨#[99, 111, 97, 99, 104]⟩, .string ⟨#[]⟩, .string ⟨#[]⟩, .string ⟨#[]⟩, .string ⟨#[]⟩, .int .i64 0, .int .i64 0, .int .i64 0, .int .i64 0, .int .i64 0, .int .i64 0, .int .i64 2, .int .i64 0, .string ⟨#[119]⟩, .string ⟨#[]⟩, .string ⟨#[99]⟩, .string ⟨#[102, 114, 111, 110, 116]⟩, .string ⟨#[]⟩, .string ⟨#[]⟩, .int .i64 0, .int .i64 0, .int .i64 0, .int .i64 0, .int .i64 0, .int .i64 0] : Array Value) = row 70 (evF exEv) := by kernel_rfl
theorem ev2_row : (#[.int .i64 1, .int .i64 0, .string ⟨#[98]⟩, .string ⟨#[97, 120, 108, 101]⟩, .string ⟨#[]⟩, .string ⟨#[]⟩, .string ⟨#[]⟩, .string ⟨#[]⟩, .int .i64 0, .int .i64 0, .int .i64 0, .int .i64 0, .int .i64 0, .int .i64 0, .int .i64 2, .int .i64 0, .string ⟨#[98]⟩, .string ⟨#[]⟩, .string ⟨#[119]⟩, .string ⟨#[97, 120, 108, 101]⟩, .string ⟨#[]⟩, .string ⟨#[]⟩, .int .i64 0, .int .i64 0, .int .i64 0, .int .i64 0, .int .i64 0, .int .i64 0] : Array Value) = row 28 (evF [madeE nB tAxle, fitsE nB nW tAxle]) := by kernel_rfl
theorem row_sl {w : World} {g t : Nat} {l : List Ev} (h : Has w g t (row (l.length * 14) (evF l))) : Sl w (.slice (some ⟨g, 0, none⟩) l.length l.length) l.length 14 (evF l) :=
  Sl.has h (Nat.le_refl _) fun _ hj => row_get _ _ _ hj
theorem exEw_short : ∀ e ∈ exEw, e.short := by
  have h : ∀ e ∈ exEw, (decide (e.part.size ≤ 100) && decide (e.kind.size ≤ 100) && decide (e.into.size ≤ 100) && decide (e.slot.size ≤ 100) && decide (e.key.size ≤ 100) && decide (e.value.size ≤ 100)) = true := by decide +kernel
  intro e he
  have := h e he
  simp only [Bool.and_eq_true, decide_eq_true_eq] at this
  unfold Ev.short maxLen
  omega
theorem exS_short : ∀ k, k < 7 → (exS k).length ≤ 99999 ∧ ∀ p ∈ exS k, p.short := by
  have h : ∀ k, k < 7 → (decide ((exS k).length ≤ 10) && (exS k).all fun p => decide (p.name.size ≤ 100) && decide (p.kind.size ≤ 100) && decide (p.into.size ≤ 100) && decide (p.slot.size ≤ 100) && decide (p.props = [])) = true := by decide +kernel
  intro k hk
  have := h k hk
  rw [Bool.and_eq_true, decide_eq_true_iff, List.all_eq_true] at this
  refine ⟨by omega, fun p hp => ?_⟩
  have h2 := this.2 p hp
  simp only [Bool.and_eq_true, decide_eq_true_eq] at h2
  obtain ⟨⟨⟨⟨a1, a2⟩, a3⟩, a4⟩, a5⟩ := h2
  unfold Pa.short maxLen
  rw [a5]
  exact ⟨by omega, by omega, by omega, by omega, by simp, by simp⟩
theorem exC_short : ∀ k ∈ exC, k.short := by
  have h : fewCa exC = true := by decide +kernel
  exact (fewCa_short h).2
theorem ev_app (l m : List Ev) : slCells (l.length * 14) (evF l) ++ slCells (m.length * 14) (evF m) = slCells ((l ++ m).length * 14) (evF (l ++ m)) := by
  apply List.ext_getElem?
  intro j
  rw [List.getElem?_append, slCells_len]
  by_cases h1 : j < l.length * 14
  · rw [if_pos h1, slCells_get _ _ _ h1, slCells_get _ _ _ (by rw [List.length_append]; omega)]
    unfold evF
    rw [List.getD_eq_getElem?_getD, List.getD_eq_getElem?_getD, List.getElem?_append_left (by omega)]
  · rw [if_neg h1]
    by_cases h2 : j < (l ++ m).length * 14
    · rw [List.length_append] at h2
      rw [slCells_get _ _ _ (by omega), slCells_get _ _ _ (by rw [List.length_append]; omega)]
      unfold evF
      rw [List.getD_eq_getElem?_getD, List.getD_eq_getElem?_getD, List.getElem?_append_right (by omega), show (j - l.length * 14) / 14 = j / 14 - l.length by omega, show (j - l.length * 14) % 14 = j % 14 by omega]
    · rw [List.length_append] at h2
      rw [List.getElem?_eq_none (by rw [slCells_len]; omega), List.getElem?_eq_none (by rw [slCells_len, List.length_append]; omega)]
theorem exEv_get : ∀ k, k < 5 → exEv.getD k noEv = exEw.getD k noEv := by decide +kernel
theorem exEv_step (k : Nat) (hk : k < 5) : applyL exC (exS k) (exEv.getD k noEv) = (exS (k + 1), 0) := by
  rw [exEv_get k hk]; exact exS_step k (by omega)
theorem after5 (cv : Value) (g : Nat) (w : World) (hcat : Cat w cv exC) (hx : Has w g 51 (row (exEv.length * 14) (evF exEv))) :
    Calls Tryz.prog 25 #[.agg #[cv], .slice (some ⟨g, 0, none⟩) 5 5] w fun e w' => ∃ A c, e = .returned (.tuple #[.agg #[.slice A 3 c], .int .i64 0]) ∧ Sta w' (.slice A 3 c) (exS 5) ∧ Below w.heap.size w w' :=
  (after_any cv _ exC exEv exS 5 0 w hcat (by decide) exC_short (row_sl hx) (by decide) (fun e he => exEw_short e (by unfold exEw; exact List.mem_append_left _ he)) (by decide) rfl exEv_step (fun k hk => exS_short k (by omega)) (.inl ⟨rfl, rfl⟩)).mono fun e w' ⟨A, n, c, h1, h2, h3⟩ => by
    have h4 := h2 rfl
    obtain ⟨A', c', he, hn⟩ := Rd.form h4
    have h5 : (exS 5).length = 3 := by decide +kernel
    rw [h5] at he
    injection he with e1 e2 e3
    subst e1; subst e2; subst e3
    exact ⟨A, c, h1, h4, h3⟩
theorem after7 (cv ev : Value) (w : World) (hcat : Cat w cv exC) (hx : Sl w ev exEw.length 14 (evF exEw)) :
    Calls Tryz.prog 25 #[.agg #[cv], ev] w fun e w' => ∃ A n c, e = .returned (.tuple #[.agg #[.slice A n c], .int .i64 6]) ∧ Below w.heap.size w w' :=
  (after_any cv _ exC exEw exS 6 6 w hcat (by decide) exC_short hx (by decide) exEw_short (by decide) rfl exS_step (fun k hk => exS_short k (by omega)) (.inr ⟨by decide, exS_end, by decide⟩)).mono fun e w' ⟨A, n, c, h1, h2, h3⟩ => ⟨A, n, c, h1, h3⟩
theorem scrap5 (w0 : World) (cv : Value) (A : Option Addr) (c : Nat) (w : World) (hb0 : Below w0.heap.size w0 w) (hcat : Cat w0 cv exC) (hsta : Sta w0 (.slice A 3 c) (exS 5)) :
    Calls Tryz.prog 27 #[.agg #[cv], .agg #[.slice A 3 c], .agg #[.int .i64 7, .int .i64 0, .string ⟨#[119]⟩, .string ⟨#[]⟩, .string ⟨#[]⟩, .string ⟨#[]⟩, .string ⟨#[]⟩, .string ⟨#[]⟩, .int .i64 0, .int .i64 0, .int .i64 0, .int .i64 0, .int .i64 0, .int .i64 0]] w fun r w' => ∃ A n c, r = .returned (.tuple #[.agg #[.slice A n c], .int .i64 5]) ∧ Below w.heap.size w w' :=
  (apply_any w0 cv _ exC (exS 5) ⟨7, 0, nW, eS, eS, eS, eS, eS, 0, 0, 0, 0, 0, 0⟩ w hb0 hcat (by decide) exC_short hsta (exS_short 5 (by omega)).1 (exS_short 5 (by omega)).2 (by unfold Ev.short maxLen; decide +kernel)).mono fun e w' ⟨v, h1, h2, h3⟩ => by
    obtain ⟨A', c', rfl, hn⟩ := Rd.form h2
    rw [show (applyL exC (exS 5) ⟨7, 0, nW, eS, eS, eS, eS, eS, 0, 0, 0, 0, 0, 0⟩).2 = 5 from exS_scrap] at h1
    exact ⟨_, _, _, h1, h3⟩
theorem exS_names : ∀ p ∈ exS 5, p.name = nA ∨ p.name = nC ∨ p.name = nW := by decide +kernel
theorem exS_on : onGo (exS 5) nC ((exS 5).length + 1) nA = true ∧ onGo (exS 5) nC ((exS 5).length + 1) nC = false ∧ onGo (exS 5) nC ((exS 5).length + 1) nW = true := by decide +kernel
theorem exS_coach : ∃ p ∈ exS 5, p.name = nC := by decide +kernel
theorem exS_in {ss : List ByteArray} (h : ss.map (fun s => s.data.toList) = insL (exS 5) nC) : ss = [nA, nW] := by
  have V : Vld exC (exS 5) := vld_iff.1 exS_valid
  obtain ⟨p, hp, hn⟩ := exS_coach
  rw [← hn] at h
  obtain ⟨h1, h2, _⟩ := inside_law V hp h
  rw [hn] at h2
  refine ordK_ext (fun x => x) h1 ?_ fun x => ?_
  · unfold OrdK
    rw [List.pairwise_cons, List.pairwise_cons]
    exact ⟨fun y hy => by rw [List.mem_singleton] at hy; subst hy; decide +kernel, fun y hy => (by cases hy), List.Pairwise.nil⟩
  · rw [h2]
    obtain ⟨a1, a2, a3⟩ := exS_on
    constructor
    · intro hx
      obtain ⟨q, hq, rfl⟩ := on_part hx
      rcases exS_names q hq with e | e | e
      · rw [e]; simp
      · rw [e, a2] at hx; cases hx
      · rw [e]; simp
    · intro hx
      rcases List.mem_cons.1 hx with rfl | hx
      · exact a1
      · rw [List.mem_singleton] at hx; subst hx; exact a3
theorem insideE (A : Option Addr) (c : Nat) (w : World) (hsta : Sta w (.slice A 3 c) (exS 5)) : Calls Tryz.prog 13 #[.agg #[.slice A 3 c], .string ⟨#[99]⟩] w fun r w' => ∃ A c, r = .returned (.slice A 2 c) ∧ Sl w' (.slice A 2 c) 2 1 (strF [nA, nW]) ∧ Below w.heap.size w w' :=
  (inside_any w _ (exS 5) nC w (Below.refl _ _) hsta (by decide +kernel)).mono fun e w' ⟨v, ss, h1, h2, h3, h4⟩ => by
    obtain rfl := exS_in h3
    obtain ⟨A, c, rfl, _⟩ := id h2
    exact ⟨A, c, h1, h2, h4⟩
theorem rootE (w0 : World) (A : Option Addr) (c : Nat) (w : World) (hb0 : Below w0.heap.size w0 w) (hsta : Sta w0 (.slice A 3 c) (exS 5)) : Calls Tryz.prog 10 #[.agg #[.slice A 3 c], .string ⟨#[97]⟩] w fun r w' => r = .returned (.string ⟨#[99]⟩) ∧ Below w.heap.size w w' :=
  (root_any w0 _ (exS 5) nA w hb0 hsta (by decide +kernel)).mono fun e w' ⟨h1, h2⟩ => by
    rw [exS_root] at h1
    exact ⟨h1, h2⟩
theorem sameE (A : Option Addr) (c g : Nat) (w : World) (h1 : Sl w (.slice A 2 c) 2 1 (strF [nA, nW])) (h2 : Has w g 9 #[.string ⟨#[97]⟩, .string ⟨#[119]⟩]) : Calls Tryz.prog 12 #[.slice A 2 c, .slice (some ⟨g, 0, none⟩) 2 2] w fun r w' => r = .returned (.bool true) ∧ Below w.heap.size w w' :=
  (sameS_any _ _ [nA, nW] [nA, nW] w h1 (Sl.has h2 (Nat.le_refl _) fun j hj => by match j, hj with | 0, _ => rfl | 1, _ => rfl) (by decide) (by decide)).mono fun e w' ⟨h1, h2⟩ => by
    rw [show sameS [nA, nW] [nA, nW] = true from decide_eq_true rfl] at h1
    exact ⟨h1, h2⟩
theorem validE (w0 : World) (cv : Value) (A : Option Addr) (c : Nat) (w : World) (hb0 : Below w0.heap.size w0 w) (hcat : Cat w0 cv exC) (hsta : Sta w0 (.slice A 3 c) (exS 5)) :
    Calls Tryz.prog 28 #[.agg #[cv], .agg #[.slice A 3 c]] w fun r w' => r = .returned (.bool true) ∧ Below w.heap.size w w' :=
  (fvalid_any w0 cv _ exC (exS 5) w hb0 hcat (by decide) exC_short hsta (Nat.le_succ_of_le (exS_short 5 (by omega)).1) (exS_short 5 (by omega)).2).mono fun e w' ⟨h1, h2⟩ => by
    rw [show validB exC (exS 5) = true from exS_valid] at h1
    exact ⟨h1, h2⟩
def exM : List Ev := [madeE nB tAxle, fitsE nB nW tAxle]
theorem ex_xs : ∀ j, j < exEw.length * 14 → (([] ++ slCells (exEv.length * 14) (evF exEv) ++ slCells (exM.length * 14) (evF exM))[j]?).getD undef = evF exEw j := by
  intro j hj
  rw [List.nil_append, ev_app exEv exM]
  show ((slCells (exEw.length * 14) (evF exEw))[j]?).getD undef = _
  rw [slCells_get _ _ _ hj]; rfl
theorem world_name {w w1 : World} {t B : Nat} {cs cs' : Array Value} (h : cs = cs') (hb : Below B w w1) (hB : B ≤ w1.heap.size) : ∃ W, w1.alloc (.cells cs t) = W ∧ Has W w1.heap.size t cs' ∧ Below B w W ∧ W.heap.size = w1.heap.size + 1 ∧ Below w1.heap.size w1 W := by
  subst h
  exact ⟨_, rfl, Has.new w1 t cs, hb.alloc hB _, by simp, (Below.refl _ _).alloc (Nat.le_refl _) _⟩
theorem info_evE : (Tryz.prog.info? 51).map (fun i => (i.zero, i.size, i.bytes)) = some (some (.agg zeroEv.cells), 14, 160) := by kernel_rfl
theorem Own0.below {w w' : World} {base e size n B : Nat} {v : Value} {xs : List Value} (h : Own0 w base e size v n xs) (hb : Below B w w') (hs : w.heap.size ≤ B) : Own0 w' base e size v n xs := h.elim (fun h => .inl (own_below h hb hs)) .inr
theorem wpList_app0 {P : Program} {w : World} {ops : Array Oper} {rest : List Oper} {o : Oper} {a : Act} {Q : Exit → Act → World → Prop} (hgd : o.guard = none) (s x : Operand) (t : TypeId)
    (ho : o.op = .call { callee := .builtin .append, args := #[s, x], argTypes := #[t, t] })
    (base : Nat) (e : TypeId) (i : TypeInfo) (z : Value) (size bytes : Nat) (ht : P.underlying t = some (.slice e)) (hi : P.info? e = some i) (hz : i.zero = some z)
    (hsize : i.size = size) (hby : i.bytes = bytes) (hzs : z.cells.size = size) (hsz : 0 < size)
    (v : Value) (n : Nat) (xs : List Value) (hs : a.eval s = v) (hown : Own0 w base e size v n xs)
    (A : Option Addr) (m c : Nat) (news : List Value) (hx : a.eval x = .slice A m c) (hl : news.length = m * size) (hA : m = 0 ∨ ∃ ad, A = some ad ∧ ∀ j u, news[j]? = some u → w.cell? (ad.add j) = some u)
    (h1 : ∀ u ∈ news, u.oneCell' = true) (h63 : n + m ≤ maxLen) (hbytes : (n + m) * bytes ≤ 140737488355328) (hbase : base ≤ w.heap.size)
    (h : ∀ v' w', Own0 w' base e size v' (n + m) (xs ++ news) → Grew w w' base e → wpList P ops Q rest (a.put o.dst v') w') : wpList P ops Q (o :: rest) a w :=
  wpList_plain hgd fun _ hK => wp_app0 s x t ho base e i z size bytes ht hi hz hsize hby hzs hsz v n xs hs hown A m c news hx hl hA h1 h63 hbytes hbase fun v' w' a b => hK _ _ (h v' w' a b)
theorem ev2_has (w : World) : Has (w.alloc (.cells #[.int .i64 1, .int .i64 0, .string ⟨#[98]⟩, .string ⟨#[97, 120, 108, 101]⟩, .string ⟨#[]⟩, .string ⟨#[]⟩, .string ⟨#[]⟩, .string ⟨#[]⟩, .int .i64 0, .int .i64 0, .int .i64 0, .int .i64 0, .int .i64 0, .int .i64 0, .int .i64 2, .int .i64 0, .string ⟨#[98]⟩, .string ⟨#[]⟩, .string ⟨#[119]⟩, .string ⟨#[97, 120, 108, 101]⟩, .string ⟨#[]⟩, .string ⟨#[]⟩, .int .i64 0, .int .i64 0, .int .i64 0, .int .i64 0, .int .i64 0, .int .i64 0] 51)) w.heap.size 51 (row 28 (evF exM)) := by
  have h := Has.new w 51 (row 28 (evF exM))
  have e : row 28 (evF exM) = #[.int .i64 1, .int .i64 0, .string ⟨#[98]⟩, .string ⟨#[97, 120, 108, 101]⟩, .string ⟨#[]⟩, .string ⟨#[]⟩, .string ⟨#[]⟩, .string ⟨#[]⟩, .int .i64 0, .int .i64 0, .int .i64 0, .int .i64 0, .int .i64 0, .int .i64 0, .int .i64 2, .int .i64 0, .string ⟨#[98]⟩, .string ⟨#[]⟩, .string ⟨#[119]⟩, .string ⟨#[97, 120, 108, 101]⟩, .string ⟨#[]⟩, .string ⟨#[]⟩, .int .i64 0, .int .i64 0, .int .i64 0, .int .i64 0, .int .i64 0, .int .i64 0] := ev2_row.symm
  have h2 := Has.new w 51 #[.int .i64 1, .int .i64 0, .string ⟨#[98]⟩, .string ⟨#[97, 120, 108, 101]⟩, .string ⟨#[]⟩, .string ⟨#[]⟩, .string ⟨#[]⟩, .string ⟨#[]⟩, .int .i64 0, .int .i64 0, .int .i64 0, .int .i64 0, .int .i64 0, .int .i64 0, .int .i64 2, .int .i64 0, .string ⟨#[98]⟩, .string ⟨#[]⟩, .string ⟨#[119]⟩, .string ⟨#[97, 120, 108, 101]⟩, .string ⟨#[]⟩, .string ⟨#[]⟩, .int .i64 0, .int .i64 0, .int .i64 0, .int .i64 0, .int .i64 0, .int .i64 0]
  rwa [show (#[.int .i64 1, .int .i64 0, .string ⟨#[98]⟩, .string ⟨#[97, 120, 108, 101]⟩, .string ⟨#[]⟩, .string ⟨#[]⟩, .string ⟨#[]⟩, .string ⟨#[]⟩, .int .i64 0, .int .i64 0, .int .i64 0, .int .i64 0, .int .i64 0, .int .i64 0, .int .i64 2, .int .i64 0, .string ⟨#[98]⟩, .string ⟨#[]⟩, .string ⟨#[119]⟩, .string ⟨#[97, 120, 108, 101]⟩, .string ⟨#[]⟩, .string ⟨#[]⟩, .int .i64 0, .int .i64 0, .int .i64 0, .int .i64 0, .int .i64 0, .int .i64 0] : Array Value) = row 28 (evF exM) from ev2_row] at h2 ⊢
theorem row_src {w : World} {g t n : Nat} {f : Nat → Value} (h : Has w g t (row n f)) : ∀ j u, (slCells n f)[j]? = some u → w.cell? ((⟨g, 0, none⟩ : Addr).add j) = some u := by
  intro j u hu
  rw [Addr.add_mid, Nat.zero_add, h.facts.1]
  unfold row
  unfold slCells at hu
  simpa using hu
theorem ev_one (l : List Ev) : ∀ u ∈ slCells (l.length * 14) (evF l), u.oneCell' = true := by
  intro u hu
  unfold slCells at hu
  obtain ⟨j, hj, rfl⟩ := List.mem_map.1 hu
  rw [List.mem_range] at hj
  unfold evF
  have h1 : j % 14 < 14 := Nat.mod_lt _ (by omega)
  generalize l.getD (j / 14) noEv = e
  have h2 : ∀ i, i < 14 → ((e.cells[i]?).getD undef).oneCell' = true := by
    intro i hi
    match i, hi with
    | 0, _ | 1, _ | 2, _ | 3, _ | 4, _ | 5, _ | 6, _ | 7, _ | 8, _ | 9, _ | 10, _ | 11, _ | 12, _ | 13, _ => rfl
  exact h2 _ h1
set_option maxRecDepth 100000 in
set_option maxHeartbeats 4000000 in
theorem head_any (w : World) : Calls Tryz.prog 5 #[] w fun e w' => e = .returned (.bool true) ∧ Below w.heap.size w w' := by
  have HB : Hid (Below w.heap.size w w) := Below.refl _ _
  go_enter Tryz.func5, Tryz.ntmps5
  go_wp2_with (first | (go_at_call 23; refine (made_any _ _ _).mono ?_; rintro e w1 ⟨rfl, hb1⟩; have HB := Lib.hid (HB.out.trans (hb1.mono HB.out.size)); clear hb1) | (go_at_call 24; refine (fits_any _ _ _ _).mono ?_; rintro e w1 ⟨rfl, hb1⟩; have HB := Lib.hid (HB.out.trans (hb1.mono HB.out.size)); clear hb1))
  obtain ⟨W1, hW1, hx1, hB1, _⟩ := world_name (t := 51) ev5_row HB.out HB.out.size
  rw [hW1]
  generalize w1.heap.size = x at *
  clear hW1
  have hxl := hx1.lt
  refine (example_any _).mono ?_
  rintro e w2 ⟨g, rfl, hC2, hb2⟩
  have HX2 := Lib.hid (hx1.below hb2 hxl)
  have HB2 := Lib.hid (hB1.trans (hb2.mono hB1.size))
  have HC2 := Lib.hid hC2
  clear hb2 hC2 hx1 hB1 hxl
  go_wp2_with fail
  refine (after5 _ _ _ HC2.out HX2.out).mono ?_
  rintro e w3 ⟨A3, c3, rfl, hS3, hb3⟩
  have HX3 := Lib.hid (HX2.out.below hb3 HX2.out.lt)
  have HB3 := Lib.hid (HB2.out.trans (hb3.mono HB2.out.size))
  have HS3 := Lib.hid hS3
  clear hb3 hS3 HC2 HX2 HB2
  go_wp2_with fail
  obtain ⟨W3, hW3, hx3, hB3, _, hb33⟩ := world_name (t := 24) (rfl : (#[Value.slice A3 3 c3] : Array Value) = _) HB3.out HB3.out.size
  rw [hW3]
  have HX4 := Lib.hid (HX3.out.below hb33 HX3.out.lt)
  have HS4 := Lib.hid (HS3.out.below hb33)
  clear HX3 HS3 HB3 hb33
  generalize w3.heap.size = y at *
  clear hW3
  have hyl := hx3.lt
  refine (example_any _).mono ?_
  rintro e w4 ⟨g4, rfl, hC4, hb4⟩
  have HP4 := Lib.hid (hx3.below hb4 hyl)
  have HX5 := Lib.hid (HX4.out.below hb4 HX4.out.lt)
  have HS5 := Lib.hid (HS4.out.below hb4)
  have HB5 := Lib.hid (hB3.trans (hb4.mono hB3.size))
  have HC5 := Lib.hid hC4
  have hx5l := HX5.out.lt
  have hp4l := HP4.out.lt
  clear hb4 hC4 hx3 hB3 hyl HX4 HS4
  have BB := Lib.hid (Below.refl w4.heap.size w4)
  obtain ⟨ie, hie, hze, he1, he2⟩ := info_parts info_evE
  have HI := Lib.hid hie
  have HZ := Lib.hid hze
  clear hie hze
  go_wp2_with (first | ((with_reducible show wpList _ _ _ (Oper.mk (some 32) _ _ _ _ _ :: _) _ _); refine wpList_app0 rfl _ _ 54 rfl w4.heap.size 51 ie (.agg zeroEv.cells) 14 160 Tryz.underlying54 HI.out HZ.out he1 he2 rfl (by decide) _ 0 [] rfl (.inr ⟨rfl, rfl, _, rfl⟩) (some ⟨x, 0, none⟩) 5 5 (slCells (exEv.length * 14) (evF exEv)) rfl (slCells_len _ _) (.inr ⟨_, rfl, row_src (by first | exact HX5.out | exact HX5.out.alloc _)⟩) (ev_one _) (by unfold maxLen; omega) (by omega) (by first | exact Nat.le_refl _ | simp) ?_; intro v5 w5 ho5 hg5; have BB := Lib.hid (hg5.below (by first | exact BB.out | exact BB.out.alloc (Nat.le_refl _) _) (by first | exact Nat.le_refl _ | simp) (Nat.le_refl _)); have O5 := Lib.hid ho5; clear ho5 hg5) | (go_at_call 23; refine (made_any _ _ _).mono ?_; rintro e w6 ⟨rfl, hb6⟩; have O6 := Lib.hid (O5.out.below hb6 (Nat.le_refl _)); have BB := Lib.hid (BB.out.trans (hb6.mono BB.out.size)); clear hb6) | (go_at_call 24; refine (fits_any _ _ _ _).mono ?_; rintro e w7 ⟨rfl, hb7⟩; have O7 := Lib.hid (O6.out.below hb7 (Nat.le_refl _)); have BB := Lib.hid (BB.out.trans (hb7.mono BB.out.size)); clear hb7) | ((with_reducible show wpList _ _ _ (Oper.mk (some 38) _ _ _ _ _ :: _) _ _); refine wpList_app0 rfl _ _ 54 rfl w4.heap.size 51 ie (.agg zeroEv.cells) 14 160 Tryz.underlying54 HI.out HZ.out he1 he2 rfl (by decide) _ 5 _ rfl (O7.out.alloc _) (some ⟨w7.heap.size, 0, none⟩) 2 2 (slCells (exM.length * 14) (evF exM)) rfl (slCells_len _ _) (.inr ⟨_, rfl, row_src (ev2_has _)⟩) (ev_one _) (by unfold maxLen; omega) (by omega) (by have := BB.out.size; simp; omega) ?_; intro v8 w8 ho8 hg8; have BB := Lib.hid (hg8.below (BB.out.alloc BB.out.size _) (by have := BB.out.size; simp; omega) (Nat.le_refl _)); obtain ⟨A8, c8, rfl⟩ := ho8.form; have O8 := Lib.hid (ho8.sl.congr ex_xs); clear ho8 hg8))
  refine (after7 _ _ _ (HC5.out.below BB.out) O8.out).mono ?_
  rintro e w9 ⟨A9, n9, c9, rfl, hb9⟩
  have BB9 := Lib.hid (BB.out.trans (hb9.mono BB.out.size))
  have HP9 := Lib.hid (HP4.out.below BB9.out hp4l)
  have HS9 := Lib.hid (HS5.out.below BB9.out)
  have HB9 := Lib.hid (HB5.out.trans (BB9.out.mono HB5.out.size))
  clear hb9 HC5 O8 O5 O6 O7 HX5 HI HZ HP4 HS5 HB5
  go_wp2_with fail
  obtain ⟨wx, hwx, hbx⟩ : ∃ wx, w9.alloc (.cells #[.slice A9 n9 c9] 24) = wx ∧ Below w9.heap.size w9 wx := ⟨_, rfl, (Below.refl _ _).alloc (Nat.le_refl _) _⟩
  rw [hwx]
  have HPx := Lib.hid (HP9.out.below hbx HP9.out.lt)
  have HSx := Lib.hid (HS9.out.below hbx)
  have HBx := Lib.hid (HB9.out.trans (hbx.mono HB9.out.size))
  clear HP9 HS9 HB9 BB BB9 hbx
  generalize w9.heap.size = z at *
  clear hwx
  obtain ⟨w9, rfl⟩ : ∃ w9, w9 = wx := ⟨_, rfl⟩
  have HS9 := Lib.hid HSx.out
  have hp9 : w9.cell? ⟨y, 0, none⟩ = some (.slice A3 3 c3) := HPx.out.facts.1 0
  have hbb : Below w9.heap.size w9 w9 := Below.refl _ _
  go_cut [8, 9] from 42 to 48 (fun p e wc => e = .int .i64 5 ∧ Below w9.heap.size w9 wc)
  case first =>
    go_region_held3 (fun w' => Below w9.heap.size w9 w' ∧ w'.cell? ⟨y, 0, none⟩ = some (.slice A3 3 c3))
      (refine ⟨?_, ?_⟩ <;> first | assumption | exact hbb.drew | exact hbb.alloc (Nat.le_refl _) _ | exact (hbb.alloc (Nat.le_refl _) _).drew | exact hbw10 | exact hbw10.drew | exact hbw10.alloc hbw10.size _ | exact (hbw10.alloc hbw10.size _).drew | exact hbw11 | exact hbw11.drew | exact hbw11.alloc hbw11.size _ | exact hbw11.setCell (Nat.le_refl _) _ | exact hbw11.setCell hbw10.size _ | exact cell_later (hbb.drew) hp9 | exact cell_later (hbb.alloc (Nat.le_refl _) _) hp9 | exact cell_later ((hbb.alloc (Nat.le_refl _) _).drew) hp9 | exact cell_later (hbw10) hp9 | exact cell_later (hbw10.drew) hp9 | exact cell_later (hbw10.alloc hbw10.size _) hp9 | exact cell_later ((hbw10.alloc hbw10.size _).drew) hp9 | exact cell_later (hbw11) hp9 | exact cell_later (hbw11.drew) hp9 | exact cell_later (hbw11.alloc hbw11.size _) hp9 | exact cell_later (hbw11.setCell (Nat.le_refl _) _) hp9 | exact cell_later (hbw11.setCell hbw10.size _) hp9)
      ((first | (go_at_call 26; refine (example_any _).mono ?_; rintro e w10 ⟨g10, rfl, hC10, hb10⟩; have hbw10 : Below w9.heap.size w9 w10 := (by first | exact hb10 | exact hbb.drew.trans hb10 | exact (hbb.alloc (Nat.le_refl _) _).drew.trans (hb10.mono (by simp)) | exact (hbb.alloc (Nat.le_refl _) _).trans (hb10.mono (by simp))); have HC10 := Lib.hid hC10; clear hC10; first | (have h8 : Has w10 w9.heap.size 24 #[.slice none 0 0] := (((Has.new w9 24 #[.slice none 0 0]).drew).below hb10 (by simp)); have H8 := Lib.hid h8; obtain ⟨z1, z2⟩ := h8.facts; clear h8) | (have h8 : Has w10 w9.heap.size 24 #[.slice none 0 0] := ((Has.new w9 24 #[.slice none 0 0]).below hb10 (by simp)); have H8 := Lib.hid h8; obtain ⟨z1, z2⟩ := h8.facts; clear h8) | skip) | (go_at_call 27; refine (scrap5 w10 _ A3 c3 _ (by first | exact Below.refl _ _ | exact (Below.refl _ _).drew | exact (Below.refl _ _).alloc (Nat.le_refl _) _ | exact ((Below.refl _ _).alloc (Nat.le_refl _) _).drew) HC10.out (HS9.out.below hbw10)).mono ?_; rintro e w11 ⟨A11, n11, c11, rfl, hb11⟩; have hb12 : Below w10.heap.size w10 w11 := (by first | exact hb11 | exact (Below.refl _ _).drew.trans hb11 | exact ((Below.refl w10.heap.size w10).alloc (Nat.le_refl _) _).trans (hb11.mono (by simp)) | exact ((Below.refl w10.heap.size w10).alloc (Nat.le_refl _) _).drew.trans (hb11.mono (by simp))); have hbw11 := hbw10.trans (hb12.mono hbw10.size); first | (have h9 : Has w11 w9.heap.size 24 #[.slice none 0 0] := H8.out.below hb12 H8.out.lt; obtain ⟨z3, z4⟩ := h9.facts; clear h9) | (have h9 : Has w11 w10.heap.size 24 #[.slice none 0 0] := (((Has.new w10 24 #[.slice none 0 0]).drew).below hb11 (by simp)); obtain ⟨z3, z4⟩ := h9.facts; clear h9) | (have h9 : Has w11 w10.heap.size 24 #[.slice none 0 0] := ((Has.new w10 24 #[.slice none 0 0]).below hb11 (by simp)); obtain ⟨z3, z4⟩ := h9.facts; clear h9) | skip)))
    all_goals
      rename_i hHeld
      have hBW := hHeld.1
      clear hHeld
    all_goals (go_wp2_with fail; go_meet)
    all_goals exact ⟨rfl, hBW⟩
  case rest =>
    obtain ⟨rfl, hBc⟩ := hcut
    have hpc := cell_later hBc hp9
    have HSc := Lib.hid (HS9.out.below hBc)
    have HBc := Lib.hid (HBx.out.trans (hBc.mono HBx.out.size))
    clear hBc hp9 hbb HS9 HBx HSx HPx
    go_wp2_with fail
    refine (insideE A3 c3 _ HSc.out).mono ?_
    rintro e w12 ⟨A12, c12, rfl, hI12, hb12⟩
    have hp12 := cell_later hb12 hpc
    have HS12 := Lib.hid (HSc.out.below hb12)
    have HB12 := Lib.hid (HBc.out.trans (hb12.mono HBc.out.size))
    have HI12 := Lib.hid hI12
    clear hb12 hI12 hpc HSc HBc hx5l hp4l he1 he2
    go_wp2_with fail
    go_region_held3 (fun w' => w'.cell? ⟨y, 0, none⟩ = some (.slice A3 3 c3))
      (first | assumption | exact hp12 | exact hp13 | exact hp14 | exact hp15 | exact hp16 | exact cell_later (BR.out.drew) hp12 | exact cell_later (BR.out.alloc BR.out.size _) hp12 | exact cell_later ((BR.out.alloc BR.out.size _).drew) hp12 | exact cell_later BS.out hp12 | exact cell_later BS.out.drew hp12 | exact cell_later BE.out.drew hp12)
      ((first | (go_at_call 10; refine (rootE w12 A3 c3 _ (by first | exact Below.refl _ _ | exact (Below.refl _ _).drew) HS12.out).mono ?_; rintro e w13 ⟨rfl, hb13⟩; have BR : Hid (Below w12.heap.size w12 w13) := (by first | exact hb13 | exact (Below.refl _ _).drew.trans hb13); have HI13 := Lib.hid (HI12.out.below BR.out); have hp13 := cell_later BR.out hp12; clear hb13) | (go_at_call 12; refine (sameE A12 c12 _ _ (by first | exact HI13.out.below ((Below.refl _ _).alloc (Nat.le_refl _) _) | exact HI13.out.below ((Below.refl _ _).alloc (Nat.le_refl _) _).drew) (by first | exact Has.new _ _ _ | exact (Has.new _ _ _).drew)).mono ?_; rintro e w14 ⟨rfl, hb14⟩; have BS : Hid (Below w12.heap.size w12 w14) := (by first | exact BR.out.trans ((((Below.refl _ _).alloc (Nat.le_refl _) _).trans (hb14.mono (by simp))).mono BR.out.size) | exact BR.out.trans ((((Below.refl _ _).alloc (Nat.le_refl _) _).drew.trans (hb14.mono (by simp))).mono BR.out.size)); have hp14 := cell_later BS.out hp12; clear hb14) | (go_at_call 26; refine (example_any _).mono ?_; rintro e w15 ⟨g15, rfl, hC15, hb15⟩; have BE : Hid (Below w12.heap.size w12 w15) := (by first | exact BS.out.trans (hb15.mono BS.out.size) | exact BS.out.drew.trans (hb15.mono BS.out.drew.size)); have HC15 := Lib.hid hC15; have hp15 := cell_later BE.out hp12; clear hb15 hC15) | (go_at_call 28; refine (validE w15 _ A3 c3 _ (by first | exact Below.refl _ _ | exact (Below.refl _ _).drew) HC15.out (HS12.out.below BE.out)).mono ?_; rintro e w16 ⟨rfl, hb16⟩; have BV : Hid (Below w12.heap.size w12 w16) := (by first | exact BE.out.trans (hb16.mono BE.out.size) | exact BE.out.drew.trans (hb16.mono BE.out.drew.size)); have hp16 := cell_later BV.out hp12; clear hb16)))
    all_goals (try go_wp2_with fail)
    all_goals
      go_ret
      have hB := HB12.out.trans (BV.out.mono HB12.out.size)
      first | exact ⟨rfl, hB⟩ | exact ⟨rfl, below_drewN hB _⟩
end Go.Proofs.YtccnocgmikmonaaGreatDoor
namespace Go.Proofs.YtccnocgmikmonaaGreatDoor
open Go Go.RowKit
def fewPr (x : Pr) : Bool := decide (x.key.size + x.val.size ≤ 300)
def fewPa (p : Pa) : Bool := decide (p.name.size + p.kind.size + p.into.size + p.slot.size ≤ 300) && (decide (p.props.length ≤ 65) && p.props.all fewPr)
def fewSt (l : List Pa) (m : Nat) : Bool := decide (l.length ≤ m) && l.all fewPa
/-- The greatest string that lies in memory. -/
def big : Nat := 140737488351232
/-- Their strings lie in memory. -/
def Pr.wide (x : Pr) : Prop := x.key.size ≤ big ∧ x.val.size ≤ big
def Pa.wide (p : Pa) : Prop := p.name.size ≤ big ∧ p.kind.size ≤ big ∧ p.into.size ≤ big ∧ p.slot.size ≤ big ∧ p.props.length ≤ maxLen ∧ ∀ x ∈ p.props, x.wide
theorem fewPa_short {p : Pa} (h : fewPa p = true) : p.short := by
  unfold fewPa at h
  simp only [Bool.and_eq_true, decide_eq_true_eq, List.all_eq_true] at h
  obtain ⟨h1, h2, h3⟩ := h
  have hm : (300 : Nat) ≤ maxLen := by unfold maxLen; omega
  refine ⟨by omega, by omega, by omega, by omega, by omega, fun x hx => ?_⟩
  have := h3 x hx
  unfold fewPr at this
  rw [decide_eq_true_iff] at this
  exact ⟨by omega, by omega⟩
theorem fewSt_short {l : List Pa} {m : Nat} (h : fewSt l m = true) : l.length ≤ m ∧ ∀ p ∈ l, p.short := by
  unfold fewSt at h
  rw [Bool.and_eq_true, decide_eq_true_iff, List.all_eq_true] at h
  exact ⟨h.1, fun p hp => fewPa_short (h.2 p hp)⟩
theorem fewSt_bad {l : List Pa} {m k : Nat} (hk : k < l.length) (h : fewPa (l.getD k noPa) = false) : fewSt l m = false := by
  have : l.all fewPa = false := by rw [List.all_eq_false]; exact ⟨_, getD_mem l k noPa hk, by rw [h]; decide⟩
  unfold fewSt; rw [this, Bool.and_false]
theorem fewSt_end {l : List Pa} {m : Nat} (hm : l.length ≤ m) (h : ∀ p ∈ l, fewPa p = true) : fewSt l m = true := by
  unfold fewSt; rw [Bool.and_eq_true, decide_eq_true_iff, List.all_eq_true]; exact ⟨hm, h⟩
theorem fewPa_prop {p : Pa} {k : Nat} (hk : k < p.props.length) (h : fewPr (p.props.getD k noPr) = false) : fewPa p = false := by
  have : p.props.all fewPr = false := by rw [List.all_eq_false]; exact ⟨_, getD_mem p.props k noPr hk, by rw [h]; decide⟩
  unfold fewPa; rw [this, Bool.and_false, Bool.and_false]
set_option maxRecDepth 100000 in
set_option maxHeartbeats 4000000 in
theorem few10_any (w0 : World) (v : Value) (l : List Pa) (m : Nat) (w : World) (hb0 : Below w0.heap.size w0 w) (hv : Sta w0 v l) (hl : l.length ≤ maxLen) (hps : ∀ p ∈ l, p.wide) :
    Calls Tryz.prog 6 #[.agg #[v], .int .i64 m] w fun e w' => e = .returned (.bool (fewSt l m)) ∧ Below w.heap.size w w' := by
  obtain ⟨A, c, rfl, hn⟩ := Rd.form hv
  have HV := Lib.hid hv
  have HB0 := Lib.hid hb0
  have HB0s := hb0.size
  have HPS := Lib.hid hps
  have HS1 := Lib.hid (Has.new w 24 #[.slice A l.length c])
  have HB1 := Lib.hid ((Below.refl w.heap.size w).alloc (Nat.le_refl _) (.cells #[.slice A l.length c] 24))
  clear hb0 hv hps
  unfold maxLen at hl
  by_cases hm : l.length ≤ m
  · have hm' : ¬ (m : Int) < (l.length : Int) := by omega
    go_enter Tryz.func6, Tryz.ntmps6
    go_wp2_with fail
    go_loopw [5] (fun i wr => ∃ k : Nat, k ≤ l.length ∧ i = .int .i64 k ∧ Hid (∀ p ∈ l.take k, fewPa p = true) ∧ Hid (Has wr w.heap.size 24 #[.slice A l.length c]) ∧ Hid (Below w.heap.size w wr)) (fun i _ => l.length - (intOf i).toNat)
    case atStart => exact ⟨0, Nat.zero_le _, rfl, fun p hp => by simp at hp, HS1.out, HB1.out⟩
    case round =>
      obtain ⟨k, hk, rfl, HT, HS, HB⟩ := hrel
      clear HS1 HB1
      obtain ⟨y1, y2⟩ := HS.out.facts
      have hwr : w.heap.size ≤ wr.heap.size := HB.out.size
      by_cases hlt : k < l.length
      · obtain ⟨b, o, c', cs, he, _, ⟨sv, rfl, hsv⟩, _, hrg⟩ := HV.out.get hlt noPa
        injection he with e1 e2 e3
        subst e1; subst e3
        have hrg' := range_later hrg (HB0.out.trans (HB.out.mono HB0s))
        obtain ⟨A2, c2, rfl, hn2⟩ := hsv.form
        have HSV := Lib.hid hsv
        have hsh := HPS.out _ (getD_mem l k noPa hlt)
        have hbad := Lib.hid (fun h => fewSt_bad (m := m) hlt h)
        have htake := Lib.hid (take_getD l k noPa hlt)
        have hki : (k : Int) < (l.length : Int) := by omega
        clear hrg hsv
        generalize l.getD k noPa = p at *
        obtain ⟨pname, pkind, pinto, pslot, pmade, psince, pgone, pprops, pkl, pkh, pcl, pch, pdl, pdh⟩ := p
        obtain ⟨s1, s2, s3, s4, s5, s6⟩ := hsh
        have HS6 := Lib.hid s6
        clear s6
        unfold big at s1 s2 s3 s4
        unfold maxLen at s5
        unfold Pa.cells at hrg'
        simp only at HSV hn2 HS6 s1 s2 s3 s4 s5 hrg'
        have hs1 : IntKind.i64.wrap ((pname.size : Int) + (pkind.size : Int)) = (pname.size : Int) + (pkind.size : Int) := by rw [IntKind.wrap_i64]; omega
        have hs2 : IntKind.i64.wrap ((pname.size : Int) + (pkind.size : Int) + (pinto.size : Int)) = (pname.size : Int) + (pkind.size : Int) + (pinto.size : Int) := by rw [IntKind.wrap_i64]; omega
        have hs3 : IntKind.i64.wrap ((pname.size : Int) + (pkind.size : Int) + (pinto.size : Int) + (pslot.size : Int)) = (pname.size : Int) + (pkind.size : Int) + (pinto.size : Int) + (pslot.size : Int) := by rw [IntKind.wrap_i64]; omega
        have HP0 := Lib.hid (Has.new wr 33 #[.string pname, .string pkind, .string pinto, .string pslot, .int .i64 pmade, .int .i64 psince, .bool pgone, .slice A2 pprops.length c2, .int .i64 pkl, .int .i64 pkh, .int .i64 pcl, .int .i64 pch, .int .i64 pdl, .int .i64 pdh])
        obtain ⟨p1, p2⟩ := HP0.out.facts
        have HS2 := Lib.hid (HS.out.alloc (.cells #[.string pname, .string pkind, .string pinto, .string pslot, .int .i64 pmade, .int .i64 psince, .bool pgone, .slice A2 pprops.length c2, .int .i64 pkl, .int .i64 pkh, .int .i64 pcl, .int .i64 pch, .int .i64 pdl, .int .i64 pdh] 33))
        have HB2 := Lib.hid (HB.out.alloc hwr (.cells #[.string pname, .string pkind, .string pinto, .string pslot, .int .i64 pmade, .int .i64 psince, .bool pgone, .slice A2 pprops.length c2, .int .i64 pkl, .int .i64 pkh, .int .i64 pcl, .int .i64 pch, .int .i64 pdl, .int .i64 pdh] 33))
        obtain ⟨w1, rfl⟩ : ∃ w1, w1 = wr := ⟨_, rfl⟩
        by_cases h300 : (300 : Int) < (pname.size : Int) + (pkind.size : Int) + (pinto.size : Int) + (pslot.size : Int)
        · go_wp2_with ((with_reducible show wpList _ _ _ (Oper.mk (some 24) _ _ _ _ _ :: _) _ _); refine wpList_load_mid rfl 33 _ rfl b (o + k * 14) rfl _ _ hrg' Tryz.underlying33 rfl rfl ?_)
          go_ret
          exact ⟨ret_bool (by rw [hbad.out]; unfold fewPa; rw [decide_eq_false (by simp only; omega), Bool.false_and]), HB2.out⟩
        · by_cases h65 : (65 : Int) < (pprops.length : Int)
          · go_wp2_with ((with_reducible show wpList _ _ _ (Oper.mk (some 24) _ _ _ _ _ :: _) _ _); refine wpList_load_mid rfl 33 _ rfl b (o + k * 14) rfl _ _ hrg' Tryz.underlying33 rfl rfl ?_)
            go_ret
            exact ⟨ret_bool (by rw [hbad.out]; unfold fewPa; rw [decide_eq_false (p := pprops.length ≤ 65) (by omega), Bool.false_and, Bool.and_false]), HB2.out⟩
          · have HA := Lib.hid (show decide (pname.size + pkind.size + pinto.size + pslot.size ≤ 300) = true from decide_eq_true (by omega))
            have HA2 := Lib.hid (show decide (pprops.length ≤ 65) = true from decide_eq_true (by omega))
            go_wp2_with ((with_reducible show wpList _ _ _ (Oper.mk (some 24) _ _ _ _ _ :: _) _ _); refine wpList_load_mid rfl 33 _ rfl b (o + k * 14) rfl _ _ hrg' Tryz.underlying33 rfl rfl ?_)
            go_loopw [7] (fun j wq => ∃ n : Nat, n ≤ pprops.length ∧ j = .int .i64 n ∧ Hid (∀ x ∈ pprops.take n, fewPr x = true) ∧ Hid (Has wq w1.heap.size 33 #[.string pname, .string pkind, .string pinto, .string pslot, .int .i64 pmade, .int .i64 psince, .bool pgone, .slice A2 pprops.length c2, .int .i64 pkl, .int .i64 pkh, .int .i64 pcl, .int .i64 pch, .int .i64 pdl, .int .i64 pdh]) ∧ Hid (Has wq w.heap.size 24 #[.slice (some ⟨b, o, none⟩) l.length c]) ∧ Hid (Below w.heap.size w wq)) (fun j _ => pprops.length - (intOf j).toNat)
            case atStart => exact ⟨0, Nat.zero_le _, rfl, fun p hp => by simp at hp, HP0.out, HS2.out, HB2.out⟩
            case round =>
              obtain ⟨n, hnn, rfl, HT2, HPq, HSq, HBq⟩ := hrel
              obtain ⟨y3, y4⟩ := HSq.out.facts
              obtain ⟨p3, p4⟩ := HPq.out.facts
              by_cases hlt2 : n < pprops.length
              · obtain ⟨b3, o3, c3, cs3, he3, _, hcs, _, hrg3⟩ := HSV.out.get hlt2 noPr
                injection he3 with e4 e5 e6
                subst e4; subst e6
                unfold PrR at hcs
                subst hcs
                have hrg4 := range_later hrg3 (HB0.out.trans (HBq.out.mono HB0s))
                have hsh3 := HS6.out _ (getD_mem pprops n noPr hlt2)
                have hbad3 := Lib.hid (fun h => hbad.out (fewPa_prop (p := ⟨pname, pkind, pinto, pslot, pmade, psince, pgone, pprops, pkl, pkh, pcl, pch, pdl, pdh⟩) hlt2 h))
                have htake3 := Lib.hid (take_getD pprops n noPr hlt2)
                have hni : (n : Int) < (pprops.length : Int) := by omega
                change Hid (fewPr (pprops.getD n noPr) = false → _) at hbad3
                clear hrg3
                generalize pprops.getD n noPr = x at *
                obtain ⟨xk, xv⟩ := x
                obtain ⟨s7, s8⟩ := hsh3
                unfold big at s7 s8
                simp only at s7 s8
                have q0 : wr.cell? ⟨b3, o3 + n * 2, none⟩ = some (.string xk) := hrg4 0 _ rfl
                have q1 : wr.cell? ⟨b3, o3 + n * 2 + 1, none⟩ = some (.string xv) := hrg4 1 _ rfl
                have hs4 : IntKind.i64.wrap ((xk.size : Int) + (xv.size : Int)) = (xk.size : Int) + (xv.size : Int) := by rw [IntKind.wrap_i64]; omega
                by_cases hx : (300 : Int) < (xk.size : Int) + (xv.size : Int)
                · go_wp2_with fail
                  go_quiet (fail)
                  go_wp2_with fail
                  go_ret
                  exact ⟨ret_bool (by rw [hbad3.out]; unfold fewPr; exact decide_eq_false (by simp only; omega)), below_drewN HBq.out _⟩
                · go_wp2_with fail
                  go_quiet (fail)
                  go_wp2_with fail
                  go_roundw
                  case rel => exact ⟨n + 1, hlt2, by go_num, (by
                    intro a ha
                    rw [htake3.out, List.mem_append, List.mem_singleton] at ha
                    rcases ha with ha | rfl
                    · exact HT2.out a ha
                    · exact decide_eq_true (by simp only; omega)), HPq.out, HSq.out, below_drewN HBq.out _⟩
                  case measure => simp [intOf]; omega
              · obtain rfl : n = pprops.length := by omega
                go_wp2_with fail
                go_roundw
                case rel => exact ⟨k + 1, hlt, by go_num, (by
                  intro a ha
                  rw [htake.out, List.mem_append, List.mem_singleton] at ha
                  rcases ha with ha | rfl
                  · exact HT.out a ha
                  · unfold fewPa
                    rw [show decide _ = true from HA.out, show decide (pprops.length ≤ 65) = true from HA2.out, Bool.true_and, Bool.true_and, List.all_eq_true]
                    have := HT2.out
                    rw [List.take_length] at this
                    exact this), HSq.out, HBq.out⟩
                case measure => simp [intOf]; omega
      · obtain rfl : k = l.length := by omega
        have HE := Lib.hid (fewSt_end hm (by have := HT.out; rw [List.take_length] at this; exact this))
        go_wp2_with fail
        go_ret
        exact ⟨ret_bool HE.out.symm, HB.out⟩
  · have hm' : (m : Int) < (l.length : Int) := by omega
    go_enter Tryz.func6, Tryz.ntmps6
    go_wp2_with fail
    go_ret
    exact ⟨ret_bool (by unfold fewSt; rw [decide_eq_false hm, Bool.false_and]), HB1.out⟩
end Go.Proofs.YtccnocgmikmonaaGreatDoor
namespace Go.Proofs.YtccnocgmikmonaaGreatDoor
open Go Go.RowKit Go.ChangeShapes Go.WideShapes Go.Deep
theorem addr_plain {w : World} {a : Addr} {v : Value} (h : w.cell? a = some v) : a = ⟨a.block, a.off, none⟩ := by
  obtain ⟨b, o, sp⟩ := a
  cases sp with
  | none => rfl
  | some s => simp [World.cell?] at h; split at h <;> simp at h
section
variable {H : Type} {enc : TypeId × Value → H} {P : Program} {w : World} {base : Nat} {spare : Nat → Bool} {held : Bool}
/-- All that is read takes no more than what lies in memory. -/
def Light (P : Program) (t : TypeId) (d : DataW H) : Prop := ∀ n ∈ d.weights P t, n ≤ reachBytes
theorem all_mem {t : TypeId} : ∀ {l : List (DataW H)} {d : DataW H} {n : Nat}, d ∈ l → n ∈ d.weights P t → n ∈ DataW.weightsAll P t l
  | x :: l, d, n, hd, hn => by
    simp only [DataW.weightsAll, List.mem_append]
    rcases List.mem_cons.1 hd with rfl | hd
    · exact .inl hn
    · exact .inr (all_mem hd hn)
theorem light_elem {t e : TypeId} {elems rest : List (DataW H)} {d : DataW H} (ht : P.underlying t = some (.slice e)) (h : Light P t (.slice elems rest)) (hd : d ∈ elems) : Light P e d := by
  intro n hn
  refine h n ?_
  simp only [DataW.weights, ht, List.mem_cons, List.mem_append]
  exact .inr (.inl (all_mem hd hn))
/-- The fields of a struct. -/
theorem light_fields {t : TypeId} {fs : Array Field} {fuel : Nat} {cs : List Value} {x : DataW H × List MemPlace} (ht : P.underlying t = some (.struct fs)) (h : DataW.trod enc P w base spare held fuel t cs = some x) (hw : Light P t x.1) :
    ∃ n, ∀ (i : Nat) (f : Field), fs[i]? = some f → ∃ z, DataW.trod enc P w base spare held n f.type ((cs.drop f.offset).take (P.cellsOf f.type)) = some z ∧ Light P f.type z.1 := by
  obtain ⟨xs, n, _, rfl, _, hxl, hf⟩ := DataW.trod_struct ht h
  refine ⟨n, fun i f hi => ?_⟩
  have hlt : i < fs.size := by
    rcases Nat.lt_or_ge i fs.size with h1 | h1
    · exact h1
    · rw [Array.getElem?_eq_none (by omega)] at hi; cases hi
  have hx : xs[i]? = some (xs[i]'(by omega)) := List.getElem?_eq_getElem (by omega)
  refine ⟨_, (hf i f hi).trans hx, fun m hm => hw m ?_⟩
  simp only [DataW.weights, ht]
  refine DataW.weights_mem_each (j := i) (t := f.type) (d := (xs[i]'(by omega)).1) ?_ ?_ m hm
  · rw [List.getElem?_map, Array.getElem?_toList, hi]; rfl
  · rw [List.getElem?_map, hx]; rfl
theorem open_int1 {t : TypeId} {n : Nat} {c : Value} {z : DataW H × List MemPlace} (ht : P.underlying t = some (.int .i64)) (h : DataW.trod enc P w base spare held n t [c] = some z) : ∃ a : Int, c = .int .i64 a := by
  obtain ⟨a, ha, _⟩ := DataW.trod_int ht h; exact ⟨a, by simpa using ha⟩
theorem open_bool1 {t : TypeId} {n : Nat} {c : Value} {z : DataW H × List MemPlace} (ht : P.underlying t = some .bool) (h : DataW.trod enc P w base spare held n t [c] = some z) : ∃ a : Bool, c = .bool a := by
  obtain ⟨a, ha, _⟩ := DataW.trod_bool ht h; exact ⟨a, by simpa using ha⟩
theorem open_str1 {t : TypeId} {n : Nat} {c : Value} {z : DataW H × List MemPlace} (ht : P.underlying t = some .string) (h : DataW.trod enc P w base spare held n t [c] = some z) (hw : Light P t z.1) : ∃ a : ByteArray, c = .string a ∧ a.size ≤ big := by
  obtain ⟨a, ha, hx, hs⟩ := DataW.trod_string ht h
  refine ⟨a, by simpa using ha, ?_⟩
  have := hw a.data.toList.length (by rw [hx]; simp [DataW.weights])
  have e : a.data.toList.length = a.size := by cases a; simp [ByteArray.size]
  rw [e] at this
  exact this
/-- A slice whose elements are of C cells, each of which reads as something. -/
theorem open_rowsW {α : Type} (d : α) {t e C fuel : Nat} {v : Value} {x : DataW H × List MemPlace} (R : World → List Value → α → Prop) (S : α → Prop) (ht : P.underlying t = some (.slice e)) (hC : P.cellsOf e = C) (h0 : 0 < C)
    (hR : ∀ n cs y, DataW.trod enc P w base spare held n e cs = some y → Light P e y.1 → cs.length = C → ∃ a, R w cs a ∧ S a)
    (h : DataW.trod enc P w base spare held fuel t [v] = some x) (hw : Light P t x.1) :
    ∃ l : List α, Rd C R w v l ∧ l.length ≤ maxLen ∧ ∀ a ∈ l, S a := by
  subst hC
  rcases open_slice ht h with ⟨h1, _⟩ | ⟨a, len, cap, m, n, D, Pl, hcs, _, hl, hm, hmm, hx, hi⟩
  · have hv : v = .slice none 0 0 := by simpa using h1
    subst hv
    exact ⟨[], Rd.nil none 0, by simp [maxLen], by simp⟩
  · have hv : v = .slice (some a) len cap := by simpa using hcs
    have hlm : len ≤ m := by rw [hmm]; split <;> omega
    have hex : ∀ i, i < len → ∃ q : List Value × α, (R w q.1 q.2 ∧ S q.2) ∧ q.1.length = P.cellsOf e ∧ ∀ j u, q.1[j]? = some u → w.cell? ((a.add (i * P.cellsOf e)).add j) = some u := by
      intro i hi'
      obtain ⟨cs', hc, ht'⟩ := hi i (by omega)
      obtain ⟨_, hcl, hat⟩ := World.cells?_some hc
      obtain ⟨y, hy⟩ := hR _ _ _ ht' (by
        rw [hx] at hw
        exact light_elem ht hw (List.mem_map.2 ⟨i, by simpa using hi', rfl⟩)) hcl
      refine ⟨(cs', y), hy, hcl, fun j u hu => ?_⟩
      have hj : j < P.cellsOf e := by
        rcases Nat.lt_or_ge j (P.cellsOf e) with h1 | h1
        · exact h1
        · rw [List.getElem?_eq_none (by show cs'.length ≤ j; omega)] at hu; cases hu
      rw [hat j hj]; exact hu
    let f : Nat → List Value × α := fun i => if h : i < len then Classical.choose (hex i h) else ([], d)
    have hf : ∀ i, i < len → (R w (f i).1 (f i).2 ∧ S (f i).2) ∧ (f i).1.length = P.cellsOf e ∧ ∀ j u, (f i).1[j]? = some u → w.cell? ((a.add (i * P.cellsOf e)).add j) = some u := by
      intro i hi'
      have : f i = Classical.choose (hex i hi') := dif_pos hi'
      rw [this]; exact Classical.choose_spec (hex i hi')
    have hll : ((List.range len).map fun i => (f i).2).length = len := by simp
    refine ⟨(List.range len).map fun i => (f i).2, ⟨some a, cap, by rw [hll]; exact hv, by omega, ?_⟩, by omega, fun y hy => ?_⟩
    · by_cases hz : len = 0
      · exact .inl (by omega)
      · right
        obtain ⟨_, hl0, hc0⟩ := hf 0 (by omega)
        have hp : a = ⟨a.block, a.off, none⟩ := by
          have h1 := hc0 0 ((f 0).1[0]'(by omega)) (List.getElem?_eq_getElem (by omega))
          have e1 : (a.add (0 * P.cellsOf e)).add 0 = a := by simp [Addr.add]
          rw [e1] at h1
          exact addr_plain h1
        refine ⟨a.block, a.off, congrArg some hp, fun i y hy => ?_⟩
        have hi' : i < len := by
          rcases Nat.lt_or_ge i len with h1 | h1
          · exact h1
          · rw [List.getElem?_eq_none (by omega)] at hy; cases hy
        have hyi : (f i).2 = y := by simpa [hi'] using hy
        obtain ⟨⟨h1, _⟩, h2, h3⟩ := hf i hi'
        refine ⟨(f i).1, hyi ▸ h1, h2, fun j u hu => ?_⟩
        have := h3 j u hu
        rw [hp] at this
        rwa [Addr.add_mid, Addr.add_mid] at this
    · obtain ⟨i, hi', rfl⟩ := List.mem_map.1 hy
      exact (hf i (by simpa using hi')).1.2
end
section
variable {H : Type} {enc : TypeId × Value → H} {w : World} {base : Nat} {spare : Nat → Bool} {held : Bool}
theorem cSt : Tryz.prog.cellsOf 9 = 1 := by kernel_rfl
theorem cIn : Tryz.prog.cellsOf 3 = 1 := by kernel_rfl
theorem cBo : Tryz.prog.cellsOf 4 = 1 := by kernel_rfl
theorem cSs : Tryz.prog.cellsOf 39 = 1 := by kernel_rfl
theorem cSl : Tryz.prog.cellsOf 93 = 1 := by kernel_rfl
theorem cPr : Tryz.prog.cellsOf 27 = 1 := by kernel_rfl
theorem cLi : Tryz.prog.cellsOf 31 = 6 := by kernel_rfl
theorem cIv : Tryz.prog.cellsOf 29 = 2 := by kernel_rfl
theorem cUs : Tryz.prog.cellsOf 49 = 6 := by kernel_rfl
theorem cKs : Tryz.prog.cellsOf 58 = 1 := by kernel_rfl
theorem cPs : Tryz.prog.cellsOf 22 = 1 := by kernel_rfl
theorem open_strsW {n : Nat} {v : Value} {y : DataW H × List MemPlace} (h : DataW.trod enc Tryz.prog w base spare held n 39 [v] = some y) (hw : Light Tryz.prog 39 y.1) :
    ∃ l : List ByteArray, Sl w v l.length 1 (strF l) ∧ l.length ≤ maxLen ∧ ∀ x ∈ l, x.size ≤ big := by
  obtain ⟨l, ⟨A, c, hv, hn, h1⟩, hl, hs⟩ := open_rowsW eS (fun _ cs (a : ByteArray) => cs = [.string a]) (fun a => a.size ≤ big) Tryz.underlying39 cSt (by omega) (fun n cs y h hw hl => by
    match cs, hl with
    | [c], _ =>
      obtain ⟨a, rfl, hs⟩ := open_str1 Tryz.underlying9 h hw
      exact ⟨a, rfl, hs⟩) h hw
  refine ⟨l, ⟨A, c, hv, hn, ?_⟩, hl, hs⟩
  rcases h1 with h0 | ⟨b, o, hA, hc⟩
  · exact .inl h0
  · refine .inr ⟨b, o, hA, fun j hj => ?_⟩
    obtain ⟨cs, rfl, _, hr⟩ := hc j (l[j]'(by omega)) (List.getElem?_eq_getElem (by omega))
    have := hr 0 _ rfl
    rw [Nat.mul_one, Nat.add_zero] at this
    rw [this]
    unfold strF
    rw [List.getD_eq_getElem?_getD, List.getElem?_eq_getElem (by omega)]; rfl
set_option maxRecDepth 100000 in
theorem open_sk {n : Nat} {cs : List Value} {y : DataW H × List MemPlace} (h : DataW.trod enc Tryz.prog w base spare held n 95 cs = some y) (hw : Light Tryz.prog 95 y.1) (hl : cs.length = 3) : ∃ s : Sk, SkR w cs s ∧ True := by
  obtain ⟨m, hf⟩ := light_fields Tryz.underlying95 h hw
  match cs, hl with
  | [c0, c1, c2], _ =>
    obtain ⟨z0, f0, w0⟩ := hf 0 _ rfl
    obtain ⟨z1, f1, w1⟩ := hf 1 _ rfl
    obtain ⟨z2, f2, w2⟩ := hf 2 _ rfl
    change DataW.trod enc Tryz.prog w base spare held m 9 (([c0, c1, c2].drop 0).take (Tryz.prog.cellsOf 9)) = some z0 at f0
    change DataW.trod enc Tryz.prog w base spare held m 39 (([c0, c1, c2].drop 1).take (Tryz.prog.cellsOf 39)) = some z1 at f1
    change DataW.trod enc Tryz.prog w base spare held m 3 (([c0, c1, c2].drop 2).take (Tryz.prog.cellsOf 3)) = some z2 at f2
    rw [cSt] at f0
    rw [cSs] at f1
    rw [cIn] at f2
    obtain ⟨a, rfl, _⟩ := open_str1 Tryz.underlying9 f0 w0
    obtain ⟨l, hs, _, _⟩ := open_strsW f1 w1
    obtain ⟨i, rfl⟩ := open_int1 Tryz.underlying3 f2
    exact ⟨⟨a, l, i⟩, ⟨c1, rfl, hs⟩, trivial⟩
set_option maxRecDepth 100000 in
theorem open_kd {n : Nat} {cs : List Value} {y : DataW H × List MemPlace} (h : DataW.trod enc Tryz.prog w base spare held n 98 cs = some y) (hw : Light Tryz.prog 98 y.1) (hl : cs.length = 3) : ∃ k : Kd, KdR w cs k ∧ True := by
  obtain ⟨m, hf⟩ := light_fields Tryz.underlying98 h hw
  match cs, hl with
  | [c0, c1, c2], _ =>
    obtain ⟨z0, f0, w0⟩ := hf 0 _ rfl
    obtain ⟨z1, f1, w1⟩ := hf 1 _ rfl
    obtain ⟨z2, f2, w2⟩ := hf 2 _ rfl
    change DataW.trod enc Tryz.prog w base spare held m 9 (([c0, c1, c2].drop 0).take (Tryz.prog.cellsOf 9)) = some z0 at f0
    change DataW.trod enc Tryz.prog w base spare held m 4 (([c0, c1, c2].drop 1).take (Tryz.prog.cellsOf 4)) = some z1 at f1
    change DataW.trod enc Tryz.prog w base spare held m 93 (([c0, c1, c2].drop 2).take (Tryz.prog.cellsOf 93)) = some z2 at f2
    rw [cSt] at f0
    rw [cBo] at f1
    rw [cSl] at f2
    obtain ⟨a, rfl, _⟩ := open_str1 Tryz.underlying9 f0 w0
    obtain ⟨b, rfl⟩ := open_bool1 Tryz.underlying4 f1
    obtain ⟨l, hs, _, _⟩ := open_rowsW noSk SkR (fun _ => True) Tryz.underlying93 (by kernel_rfl : Tryz.prog.cellsOf 95 = 3) (by omega) (fun n cs y h hw hl => open_sk h hw hl) f2 w2
    exact ⟨⟨a, b, l⟩, ⟨c2, rfl, hs⟩, trivial⟩
set_option maxRecDepth 100000 in
theorem open_pr {n : Nat} {cs : List Value} {y : DataW H × List MemPlace} (h : DataW.trod enc Tryz.prog w base spare held n 65 cs = some y) (hw : Light Tryz.prog 65 y.1) (hl : cs.length = 2) : ∃ p : Pr, PrR w cs p ∧ p.wide := by
  obtain ⟨m, hf⟩ := light_fields Tryz.underlying65 h hw
  match cs, hl with
  | [c0, c1], _ =>
    obtain ⟨z0, f0, w0⟩ := hf 0 _ rfl
    obtain ⟨z1, f1, w1⟩ := hf 1 _ rfl
    change DataW.trod enc Tryz.prog w base spare held m 9 (([c0, c1].drop 0).take (Tryz.prog.cellsOf 9)) = some z0 at f0
    change DataW.trod enc Tryz.prog w base spare held m 9 (([c0, c1].drop 1).take (Tryz.prog.cellsOf 9)) = some z1 at f1
    rw [cSt] at f0 f1
    obtain ⟨a, rfl, h1⟩ := open_str1 Tryz.underlying9 f0 w0
    obtain ⟨b, rfl, h2⟩ := open_str1 Tryz.underlying9 f1 w1
    exact ⟨⟨a, b⟩, rfl, h1, h2⟩
set_option maxRecDepth 100000 in
theorem open_iv {n : Nat} {c0 c1 : Value} {y : DataW H × List MemPlace} (h : DataW.trod enc Tryz.prog w base spare held n 29 [c0, c1] = some y) (hw : Light Tryz.prog 29 y.1) : ∃ a b : Int, c0 = .int .i64 a ∧ c1 = .int .i64 b := by
  obtain ⟨m, hf⟩ := light_fields Tryz.underlying29 h hw
  obtain ⟨z0, f0, w0⟩ := hf 0 _ rfl
  obtain ⟨z1, f1, w1⟩ := hf 1 _ rfl
  change DataW.trod enc Tryz.prog w base spare held m 3 (([c0, c1].drop 0).take (Tryz.prog.cellsOf 3)) = some z0 at f0
  change DataW.trod enc Tryz.prog w base spare held m 3 (([c0, c1].drop 1).take (Tryz.prog.cellsOf 3)) = some z1 at f1
  rw [cIn] at f0 f1
  obtain ⟨a, ha⟩ := open_int1 Tryz.underlying3 f0
  obtain ⟨b, hb⟩ := open_int1 Tryz.underlying3 f1
  exact ⟨a, b, ha, hb⟩
set_option maxRecDepth 100000 in
theorem open_three {n t : Nat} {c0 c1 c2 c3 c4 c5 : Value} {y : DataW H × List MemPlace} {fs : Array Field} (ht : Tryz.prog.underlying t = some (.struct fs)) (h0 : ∃ f, fs[0]? = some f ∧ f.type = 29 ∧ f.offset = 0) (h1 : ∃ f, fs[1]? = some f ∧ f.type = 29 ∧ f.offset = 2) (h2 : ∃ f, fs[2]? = some f ∧ f.type = 29 ∧ f.offset = 4)
    (h : DataW.trod enc Tryz.prog w base spare held n t [c0, c1, c2, c3, c4, c5] = some y) (hw : Light Tryz.prog t y.1) : ∃ a b c d e f : Int, c0 = .int .i64 a ∧ c1 = .int .i64 b ∧ c2 = .int .i64 c ∧ c3 = .int .i64 d ∧ c4 = .int .i64 e ∧ c5 = .int .i64 f := by
  obtain ⟨m, hf⟩ := light_fields ht h hw
  obtain ⟨g0, a0, b0, d0⟩ := h0
  obtain ⟨g1, a1, b1, d1⟩ := h1
  obtain ⟨g2, a2, b2, d2⟩ := h2
  obtain ⟨z0, f0, w0⟩ := hf 0 _ a0
  obtain ⟨z1, f1, w1⟩ := hf 1 _ a1
  obtain ⟨z2, f2, w2⟩ := hf 2 _ a2
  rw [b0, d0, cIv] at f0
  rw [b1, d1, cIv] at f1
  rw [b2, d2, cIv] at f2
  rw [b0] at w0
  rw [b1] at w1
  rw [b2] at w2
  obtain ⟨a, b, e0, e1⟩ := open_iv (c0 := c0) (c1 := c1) f0 w0
  obtain ⟨c, d, e2, e3⟩ := open_iv (c0 := c2) (c1 := c3) f1 w1
  obtain ⟨e, f, e4, e5⟩ := open_iv (c0 := c4) (c1 := c5) f2 w2
  exact ⟨a, b, c, d, e, f, e0, e1, e2, e3, e4, e5⟩
set_option maxRecDepth 100000 in
set_option maxHeartbeats 1000000 in
theorem open_pa {n : Nat} {cs : List Value} {y : DataW H × List MemPlace} (h : DataW.trod enc Tryz.prog w base spare held n 33 cs = some y) (hw : Light Tryz.prog 33 y.1) (hl : cs.length = 14) : ∃ p : Pa, PaR w cs p ∧ p.wide := by
  obtain ⟨m, hf⟩ := light_fields Tryz.underlying33 h hw
  match cs, hl with
  | [c0, c1, c2, c3, c4, c5, c6, c7, c8, c9, c10, c11, c12, c13], _ =>
    obtain ⟨z0, f0, w0⟩ := hf 0 _ rfl
    obtain ⟨z1, f1, w1⟩ := hf 1 _ rfl
    obtain ⟨z2, f2, w2⟩ := hf 2 _ rfl
    obtain ⟨z3, f3, w3⟩ := hf 3 _ rfl
    obtain ⟨z4, f4, w4⟩ := hf 4 _ rfl
    obtain ⟨z5, f5, w5⟩ := hf 5 _ rfl
    obtain ⟨z6, f6, w6⟩ := hf 6 _ rfl
    obtain ⟨z7, f7, w7⟩ := hf 7 _ rfl
    obtain ⟨z8, f8, w8⟩ := hf 8 _ rfl
    change DataW.trod enc Tryz.prog w base spare held m 9 (([c0, c1, c2, c3, c4, c5, c6, c7, c8, c9, c10, c11, c12, c13].drop 0).take (Tryz.prog.cellsOf 9)) = some z0 at f0
    change DataW.trod enc Tryz.prog w base spare held m 9 (([c0, c1, c2, c3, c4, c5, c6, c7, c8, c9, c10, c11, c12, c13].drop 1).take (Tryz.prog.cellsOf 9)) = some z1 at f1
    change DataW.trod enc Tryz.prog w base spare held m 9 (([c0, c1, c2, c3, c4, c5, c6, c7, c8, c9, c10, c11, c12, c13].drop 2).take (Tryz.prog.cellsOf 9)) = some z2 at f2
    change DataW.trod enc Tryz.prog w base spare held m 9 (([c0, c1, c2, c3, c4, c5, c6, c7, c8, c9, c10, c11, c12, c13].drop 3).take (Tryz.prog.cellsOf 9)) = some z3 at f3
    change DataW.trod enc Tryz.prog w base spare held m 3 (([c0, c1, c2, c3, c4, c5, c6, c7, c8, c9, c10, c11, c12, c13].drop 4).take (Tryz.prog.cellsOf 3)) = some z4 at f4
    change DataW.trod enc Tryz.prog w base spare held m 3 (([c0, c1, c2, c3, c4, c5, c6, c7, c8, c9, c10, c11, c12, c13].drop 5).take (Tryz.prog.cellsOf 3)) = some z5 at f5
    change DataW.trod enc Tryz.prog w base spare held m 4 (([c0, c1, c2, c3, c4, c5, c6, c7, c8, c9, c10, c11, c12, c13].drop 6).take (Tryz.prog.cellsOf 4)) = some z6 at f6
    change DataW.trod enc Tryz.prog w base spare held m 27 (([c0, c1, c2, c3, c4, c5, c6, c7, c8, c9, c10, c11, c12, c13].drop 7).take (Tryz.prog.cellsOf 27)) = some z7 at f7
    change DataW.trod enc Tryz.prog w base spare held m 31 (([c0, c1, c2, c3, c4, c5, c6, c7, c8, c9, c10, c11, c12, c13].drop 8).take (Tryz.prog.cellsOf 31)) = some z8 at f8
    rw [cSt] at f0 f1 f2 f3
    rw [cIn] at f4 f5
    rw [cBo] at f6
    rw [cPr] at f7
    rw [cLi] at f8
    obtain ⟨s0, rfl, b0⟩ := open_str1 Tryz.underlying9 f0 w0
    obtain ⟨s1, rfl, b1⟩ := open_str1 Tryz.underlying9 f1 w1
    obtain ⟨s2, rfl, b2⟩ := open_str1 Tryz.underlying9 f2 w2
    obtain ⟨s3, rfl, b3⟩ := open_str1 Tryz.underlying9 f3 w3
    obtain ⟨i4, rfl⟩ := open_int1 Tryz.underlying3 f4
    obtain ⟨i5, rfl⟩ := open_int1 Tryz.underlying3 f5
    obtain ⟨i6, rfl⟩ := open_bool1 Tryz.underlying4 f6
    obtain ⟨l, hs, hl, hp⟩ := open_rowsW noPr PrR Pr.wide Tryz.underlying27 (by kernel_rfl : Tryz.prog.cellsOf 65 = 2) (by omega) (fun n cs y h hw hl => open_pr h hw hl) f7 w7
    obtain ⟨a, b, c, d, e, f, rfl, rfl, rfl, rfl, rfl, rfl⟩ := open_three (t := 31) (c0 := c8) (c1 := c9) (c2 := c10) (c3 := c11) (c4 := c12) (c5 := c13) Tryz.underlying31 ⟨_, rfl, rfl, rfl⟩ ⟨_, rfl, rfl, rfl⟩ ⟨_, rfl, rfl, rfl⟩ f8 w8
    exact ⟨⟨s0, s1, s2, s3, i4, i5, i6, l, a, b, c, d, e, f⟩, ⟨c7, rfl, hs⟩, b0, b1, b2, b3, hl, hp⟩
set_option maxRecDepth 100000 in
/-- A catalog by value. -/
theorem open_cat {n : Nat} {cs : List Value} {y : DataW H × List MemPlace} (h : DataW.trod enc Tryz.prog w base spare held n 60 cs = some y) (hw : Light Tryz.prog 60 y.1) (hl : cs.length = 1) : ∃ v c, cs = [v] ∧ Cat w v c := by
  obtain ⟨m, hf⟩ := light_fields Tryz.underlying60 h hw
  match cs, hl with
  | [c0], _ =>
    obtain ⟨z0, f0, w0⟩ := hf 0 _ rfl
    change DataW.trod enc Tryz.prog w base spare held m 58 (([c0].drop 0).take (Tryz.prog.cellsOf 58)) = some z0 at f0
    rw [cKs] at f0
    obtain ⟨l, hs, _, _⟩ := open_rowsW noKd KdR (fun _ => True) Tryz.underlying58 (by kernel_rfl : Tryz.prog.cellsOf 98 = 3) (by omega) (fun n cs y h hw hl => open_kd h hw hl) f0 w0
    exact ⟨c0, l, rfl, hs⟩
set_option maxRecDepth 100000 in
/-- A state by value. -/
theorem open_sta {n : Nat} {cs : List Value} {y : DataW H × List MemPlace} (h : DataW.trod enc Tryz.prog w base spare held n 24 cs = some y) (hw : Light Tryz.prog 24 y.1) (hl : cs.length = 1) : ∃ v l, cs = [v] ∧ Sta w v l ∧ l.length ≤ maxLen ∧ ∀ p ∈ l, p.wide := by
  obtain ⟨m, hf⟩ := light_fields Tryz.underlying24 h hw
  match cs, hl with
  | [c0], _ =>
    obtain ⟨z0, f0, w0⟩ := hf 0 _ rfl
    change DataW.trod enc Tryz.prog w base spare held m 22 (([c0].drop 0).take (Tryz.prog.cellsOf 22)) = some z0 at f0
    rw [cPs] at f0
    obtain ⟨l, hs, hl, hp⟩ := open_rowsW noPa PaR Pa.wide Tryz.underlying22 (by kernel_rfl : Tryz.prog.cellsOf 33 = 14) (by omega) (fun n cs y h hw hl => open_pa h hw hl) f0 w0
    exact ⟨c0, l, rfl, hs, hl, hp⟩
end
end Go.Proofs.YtccnocgmikmonaaGreatDoor
