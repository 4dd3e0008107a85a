/- bogieref10.At: what it returns. No condition but sizes. Ways, roots and what is inside, as the reference finds them: plain laws. No condition. bogieref10.Find, way, Root, in. No condition but sizes. -/
import Derived.Test.YtccnocgmikmonaaGreatDoorU25
import Derived.Test.YtccnocgmikmonaaGreatDoorU26
import Derived.Test.YtccnocgmikmonaaGreatDoorU27
namespace Go.Proofs.YtccnocgmikmonaaGreatDoor
open Go Go.RowKit
def atP (l : List Pa) (x : ByteArray) : Int := if (pfind l x).isSome then (l.findIdx fun p => decide (p.name = x) : Nat) else -1
theorem atP_at {l : List Pa} {x : ByteArray} {k : Nat} (hk : k < l.length) (h : ∀ q ∈ l.take k, q.name ≠ x) (he : (l.getD k noPa).name = x) : atP l x = k := by
  have hf : pfind l x = some (l.getD k noPa) := pfind_at hk h he
  unfold atP
  rw [hf]
  have hg : l.getD k noPa = l[k] := by rw [List.getD_eq_getElem?_getD, List.getElem?_eq_getElem hk]; rfl
  rw [hg] at he
  have : l.findIdx (fun p => decide (p.name = x)) = k := by
    rw [List.findIdx_eq hk]
    refine ⟨by simpa using he, fun j hj => ?_⟩
    have := h l[j] (List.mem_take_iff_getElem.2 ⟨j, by omega, rfl⟩)
    simpa using this
  rw [this]; rfl
theorem atP_no {l : List Pa} {x : ByteArray} (h : pfind l x = none) : atP l x = -1 := by
  unfold atP; rw [h]; rfl
theorem atP_yes {l : List Pa} {x : ByteArray} {p : Pa} (h : pfind l x = some p) : ∃ k, k < l.length ∧ atP l x = (k : Int) ∧ l.getD k noPa = p := by
  unfold pfind at h
  rw [List.find?_eq_some_iff_getElem] at h
  obtain ⟨h1, k, hk, he, hj⟩ := h
  have hg : l.getD k noPa = p := by rw [List.getD_eq_getElem?_getD, List.getElem?_eq_getElem hk, ← he]; rfl
  refine ⟨k, hk, atP_at hk (fun q hq => ?_) (by rw [hg]; simpa using h1), hg⟩
  obtain ⟨j, hj2, rfl⟩ := List.mem_take_iff_getElem.1 hq
  have := hj j (by omega)
  simpa using this
set_option maxRecDepth 100000 in
set_option maxHeartbeats 2000000 in
theorem refAt_any (w0 : World) (v : Value) (l : List Pa) (x : ByteArray) (w : World) (hb0 : Below w0.heap.size w0 w) (hv : Sta w0 v l) (hl : l.length ≤ 100000) :
    Calls Tryz.prog 29 #[.agg #[v], .string x] w fun e w' => e = .returned (.int .i64 (atP l x)) ∧ Below w.heap.size w w' := by
  obtain ⟨A, cc, rfl, hn⟩ := Rd.form hv
  have h1 := Has.new w 24 #[.slice A l.length cc]
  have hb : Below w.heap.size w (w.alloc (.cells #[.slice A l.length cc] 24)) := (Below.refl _ _).alloc (Nat.le_refl _) _
  have HV := Lib.hid hv
  have HB0 := Lib.hid hb0
  have HC1 := Lib.hid h1
  have HB1 := Lib.hid hb
  clear hv hb0 h1 hb
  go_enter Tryz.func29, Tryz.ntmps29
  go_wp2_with fail
  go_loopw [5] (fun i wr => ∃ k : Nat, k ≤ l.length ∧ i = .int .i64 k ∧ Hid (∀ q ∈ l.take k, q.name ≠ x) ∧ Hid (Has wr w.heap.size 24 #[.slice A l.length cc]) ∧ Hid (Below w.heap.size w wr)) (fun i _ => l.length - (intOf i).toNat)
  case atStart => exact ⟨0, Nat.zero_le _, rfl, fun q hq => by simp at hq, HC1.out, HB1.out⟩
  case round =>
    obtain ⟨k, hk, rfl, HT, HC, HB⟩ := hrel
    clear HC1 HB1
    obtain ⟨x1, y1⟩ := HC.out.facts
    by_cases hlt : k < l.length
    · obtain ⟨b, o, c', cs, he, _, ⟨sv, rfl, hsv⟩, _, hrg⟩ := Rd.get HV.out hlt noPa
      injection he with e1 e2 e3
      subst e1; subst e3
      have hrg' := range_later hrg (HB0.out.trans (HB.out.mono HB0.out.size))
      have HAT := Lib.hid (fun he => atP_at hlt HT.out he)
      have HNX := Lib.hid (fun he => take_next hlt HT.out he)
      have hki : (k : Int) < (l.length : Int) := by omega
      have r0 : wr.cell? ⟨b, o + k * 14, none⟩ = some (.string (l.getD k noPa).name) := hrg' 0 _ rfl
      clear hrg hsv hrg'
      generalize (l.getD k noPa).name = name at *
      cases he : (name.toList == x.toList)
      · have hne : name ≠ x := by rw [beq_bytes] at he; exact of_decide_eq_false he
        have HN := Lib.hid (HNX.out hne)
        clear hne
        go_wp2_with fail
        go_roundw
        case rel => exact ⟨k + 1, by omega, by go_num, HN.out, HC.out, HB.out⟩
        case measure => simp [intOf]; omega
      · have heq : name = x := by rw [beq_bytes] at he; exact of_decide_eq_true he
        have HE := Lib.hid (HAT.out heq)
        clear heq
        go_wp2_with fail
        go_ret
        exact ⟨ret_int (by rw [HE.out]), HB.out⟩
    · obtain rfl : k = l.length := by omega
      have HE := Lib.hid (atP_no (pfind_all HT.out))
      go_wp2_with fail
      go_ret
      exact ⟨ret_int (by rw [HE.out]), HB.out⟩
end Go.Proofs.YtccnocgmikmonaaGreatDoor
namespace Go.Proofs.YtccnocgmikmonaaGreatDoor
open Go Go.RowKit
/-- A road on which each step is given: is its end reached in some steps? -/
def rch (nx : ByteArray → Option ByteArray) (T : ByteArray → Bool) : Nat → ByteArray → Bool
  | 0, _ => false
  | n + 1, x => T x || match nx x with
    | none => false
    | some y => rch nx T n y
theorem rch_succ (nx : ByteArray → Option ByteArray) (T : ByteArray → Bool) (n : Nat) (x : ByteArray) : rch nx T (n + 1) x = (T x || match nx x with
    | none => false
    | some y => rch nx T n y) := rfl
theorem rch_mono (nx : ByteArray → Option ByteArray) (T : ByteArray → Bool) : ∀ (n : Nat) (x : ByteArray), rch nx T n x = true → rch nx T (n + 1) x = true
  | 0, _, h => by cases h
  | n + 1, x, h => by
    rw [rch_succ, Bool.or_eq_true] at h
    rw [rch_succ, Bool.or_eq_true]
    refine h.imp id fun h => ?_
    cases hx : nx x with
    | none => rw [hx] at h; cases h
    | some y => rw [hx] at h; exact rch_mono nx T n y h
theorem rch_count {nx : ByteArray → Option ByteArray} {T : ByteArray → Bool} {D : List ByteArray} (hD : ∀ x, T x = true ∨ (nx x).isSome = true → x ∈ D) : ∀ (n : Nat) (x : ByteArray), rch nx T (n + 1) x = true → rch nx T n x = false →
    n + 1 ≤ (D.filter (rch nx T (n + 1))).length
  | 0, x, h, _ => by
    have hx : x ∈ D := hD x (.inl (by
      rw [rch_succ, Bool.or_eq_true] at h
      rcases h with h | h
      · exact h
      · cases hx : nx x with
        | none => rw [hx] at h; cases h
        | some y => rw [hx] at h; cases h))
    exact List.length_pos_of_mem (List.mem_filter.2 ⟨hx, h⟩)
  | n + 1, x, h, h0 => by
    have h' := h
    have h0' := h0
    rw [rch_succ, Bool.or_eq_true] at h
    rw [rch_succ, Bool.or_eq_false_iff] at h0
    rcases h with h | h
    · rw [h0.1] at h; cases h
    cases hx : nx x with
    | none => rw [hx] at h; cases h
    | some y =>
      rw [hx] at h h0
      have ih := rch_count hD n y h h0.2
      have hm : x ∈ D := hD x (.inr (by rw [hx]; rfl))
      have := filter_lt (l := D) (P := rch nx T (n + 1)) (Q := rch nx T (n + 1 + 1)) (fun z _ hz => rch_mono nx T _ z hz) ⟨x, hm, h', h0'⟩
      omega
theorem rch_stop {nx : ByteArray → Option ByteArray} {T : ByteArray → Bool} {D : List ByteArray} (hD : ∀ x, T x = true ∨ (nx x).isSome = true → x ∈ D) {N : Nat} (hN : D.length ≤ N) (x : ByteArray) : rch nx T (N + 1) x = rch nx T N x := by
  cases h : rch nx T N x with
  | true => exact rch_mono nx T N x h
  | false =>
    cases h2 : rch nx T (N + 1) x with
    | false => rfl
    | true =>
      have h3 := rch_count hD N x h2 h
      have h4 := List.length_filter_le (rch nx T (N + 1)) D
      omega
/-- The names to which one comes from a part, itself first, and whether there is an end. -/
def wayGo (l : List Pa) : Nat → ByteArray → List ByteArray × Bool
  | 0, _ => ([], false)
  | n + 1, a => match pfind l a with
    | none => ([], false)
    | some p => if p.into = eS then ([a], true) else (a :: (wayGo l n p.into).1, (wayGo l n p.into).2)
theorem wayGo_succ (l : List Pa) (n : Nat) (a : ByteArray) : wayGo l (n + 1) a = match pfind l a with
    | none => ([], false)
    | some p => if p.into = eS then ([a], true) else (a :: (wayGo l n p.into).1, (wayGo l n p.into).2) := rfl
theorem way_len (l : List Pa) : ∀ (n : Nat) (a : ByteArray), (wayGo l n a).1.length ≤ n
  | 0, _ => Nat.le_refl _
  | n + 1, a => by
    rw [wayGo_succ]
    cases pfind l a with
    | none => exact Nat.zero_le _
    | some p =>
      show (if p.into = eS then ([a], true) else (a :: (wayGo l n p.into).1, (wayGo l n p.into).2)).1.length ≤ _
      split
      · exact Nat.succ_le_succ (Nat.zero_le _)
      · exact Nat.succ_le_succ (way_len l n p.into)
def wayL (l : List Pa) (a : ByteArray) : List ByteArray × Bool := wayGo l (l.length + 1) a
def nxtR (l : List Pa) (x : ByteArray) : Option ByteArray := match pfind l x with
  | none => none
  | some p => if p.into = eS then none else some p.into
def endR (l : List Pa) (x : ByteArray) : Bool := match pfind l x with
  | none => false
  | some p => decide (p.into = eS)
theorem find_name {l : List Pa} {x : ByteArray} {p : Pa} (h : pfind l x = some p) : x ∈ l.map Pa.name := by
  obtain ⟨h1, h2⟩ := pfind_mem h
  exact List.mem_map.2 ⟨p, h1, h2⟩
theorem dom_R {l : List Pa} (x : ByteArray) (h : endR l x = true ∨ (nxtR l x).isSome = true) : x ∈ l.map Pa.name := by
  cases hf : pfind l x with
  | some p => exact find_name hf
  | none =>
    unfold endR nxtR at h
    rw [hf] at h
    rcases h with h | h <;> cases h
theorem way_rch (l : List Pa) : ∀ (n : Nat) (x : ByteArray), (wayGo l n x).2 = rch (nxtR l) (endR l) n x ∧ (rch (nxtR l) (endR l) n x = true → (wayGo l n x).1.getLast? = some (rootGo l n x)) ∧ (rch (nxtR l) (endR l) n x = false → rootGo l n x = eS) ∧ (rch (nxtR l) (endR l) n x = true → rootGo l (n + 1) x = rootGo l n x)
  | 0, x => ⟨rfl, fun h => (by cases h), fun _ => rfl, fun h => (by cases h)⟩
  | n + 1, x => by
    cases hf : pfind l x with
    | none =>
      have e1 : endR l x = false := by unfold endR; rw [hf]
      have e2 : nxtR l x = none := by unfold nxtR; rw [hf]
      have e3 : wayGo l (n + 1) x = ([], false) := by rw [wayGo_succ, hf]
      have e4 : rch (nxtR l) (endR l) (n + 1) x = false := by rw [rch_succ, e1, e2]; rfl
      have e5 : ∀ k, rootGo l (k + 1) x = eS := fun k => by rw [rootGo_succ, hf]
      rw [e3, e4, e5, e5]
      exact ⟨rfl, fun h => (by cases h), fun _ => rfl, fun _ => rfl⟩
    | some p =>
      by_cases hi : p.into = eS
      · have e1 : endR l x = true := by unfold endR; rw [hf]; exact decide_eq_true hi
        have e3 : wayGo l (n + 1) x = ([x], true) := by rw [wayGo_succ, hf]; exact if_pos hi
        have e4 : rch (nxtR l) (endR l) (n + 1) x = true := by rw [rch_succ, e1]; rfl
        have e5 : ∀ k, rootGo l (k + 1) x = x := fun k => by rw [rootGo_succ, hf]; exact if_pos hi
        rw [e3, e4, e5, e5]
        exact ⟨rfl, fun _ => rfl, fun h => (by cases h), fun _ => rfl⟩
      · have e1 : endR l x = false := by unfold endR; rw [hf]; exact decide_eq_false hi
        have e2 : nxtR l x = some p.into := by unfold nxtR; rw [hf]; exact if_neg hi
        have e3 : wayGo l (n + 1) x = (x :: (wayGo l n p.into).1, (wayGo l n p.into).2) := by rw [wayGo_succ, hf]; exact if_neg hi
        have e4 : rch (nxtR l) (endR l) (n + 1) x = rch (nxtR l) (endR l) n p.into := by rw [rch_succ, e1, e2]; rfl
        have e5 : ∀ k, rootGo l (k + 1) x = rootGo l k p.into := fun k => by rw [rootGo_succ, hf]; exact if_neg hi
        obtain ⟨h1, h2, h3, h4⟩ := way_rch l n p.into
        rw [e3, e4, e5, e5]
        refine ⟨h1, fun h => ?_, h3, h4⟩
        have := h2 h
        show (x :: (wayGo l n p.into).1).getLast? = _
        rw [List.getLast?_cons, this]; rfl
/-- The root, as the reference finds it. -/
theorem way_root (l : List Pa) (a : ByteArray) : ((wayL l a).2 = true → (wayL l a).1.getLast? = some (rootL l a)) ∧ ((wayL l a).2 = false → rootL l a = eS) := by
  unfold wayL rootL
  obtain ⟨h1, h2, h3, h4⟩ := way_rch l (l.length + 1) a
  obtain ⟨k1, k2, k3, k4⟩ := way_rch l l.length a
  have hs := rch_stop (nx := nxtR l) (T := endR l) (D := l.map Pa.name) dom_R (N := l.length) (by rw [List.length_map]; exact Nat.le_refl _) a
  rw [h1]
  constructor
  · intro h
    rw [h2 h]
    rw [hs] at h
    rw [k4 h]
  · intro h
    rw [hs] at h
    exact k3 h
/-- What is inside by the reference: the texts laid into a list in order. -/
def idS : ByteArray → ByteArray := fun s => s
def insTo (l : List Pa) (a : ByteArray) : Nat → List ByteArray
  | 0 => []
  | k + 1 => if !decide ((l.getD k noPa).name = a) && inK (wayL l (l.getD k noPa).name).1 a then putG idS (insTo l a k) (l.getD k noPa).name else insTo l a k
theorem insTo_succ (l : List Pa) (a : ByteArray) (k : Nat) : insTo l a (k + 1) = if !decide ((l.getD k noPa).name = a) && inK (wayL l (l.getD k noPa).name).1 a then putG idS (insTo l a k) (l.getD k noPa).name else insTo l a k := rfl
def insR (l : List Pa) (a : ByteArray) : List ByteArray := if (pfind l a).isNone then [] else insTo l a l.length
theorem insTo_law (l : List Pa) (a : ByteArray) : ∀ k, k ≤ l.length → OrdK idS (insTo l a k) ∧ ∀ x, x ∈ insTo l a k ↔ ∃ p ∈ l.take k, p.name = x ∧ x ≠ a ∧ inK (wayL l x).1 a = true
  | 0, _ => ⟨List.Pairwise.nil, fun x => ⟨fun h => (by cases h), fun ⟨p, hp, _⟩ => (by simp at hp)⟩⟩
  | k + 1, hk => by
    obtain ⟨h1, h2⟩ := insTo_law l a k (by omega)
    have ht : l.take (k + 1) = l.take k ++ [l.getD k noPa] := by
      rw [List.take_add_one, getD_get _ _ _ (by omega), List.getElem?_eq_getElem (by omega)]; rfl
    rw [insTo_succ, ht]
    cases hc : (!decide ((l.getD k noPa).name = a) && inK (wayL l (l.getD k noPa).name).1 a) with
    | true =>
      rw [if_pos rfl]
      rw [Bool.and_eq_true, Bool.not_eq_true', decide_eq_false_iff_not] at hc
      refine ⟨putG_ord idS h1 _, fun x => ?_⟩
      rw [putG_mem idS h1, h2]
      show x = (l.getD k noPa).name ∨ _ ∧ x ≠ (l.getD k noPa).name ↔ _
      constructor
      · rintro (rfl | ⟨⟨p, hp, h3⟩, _⟩)
        · exact ⟨_, List.mem_append_right _ (List.mem_singleton.2 rfl), rfl, hc⟩
        · exact ⟨p, List.mem_append_left _ hp, h3⟩
      · rintro ⟨p, hp, h3⟩
        by_cases hx : x = (l.getD k noPa).name
        · exact .inl hx
        · rcases List.mem_append.1 hp with hp | hp
          · exact .inr ⟨⟨p, hp, h3⟩, hx⟩
          · rw [List.mem_singleton] at hp; subst hp; exact absurd h3.1.symm hx
    | false =>
      rw [if_neg (by decide)]
      refine ⟨h1, fun x => ?_⟩
      rw [h2]
      constructor
      · rintro ⟨p, hp, h3⟩; exact ⟨p, List.mem_append_left _ hp, h3⟩
      · rintro ⟨p, hp, h3⟩
        rcases List.mem_append.1 hp with hp | hp
        · exact ⟨p, hp, h3⟩
        · rw [List.mem_singleton] at hp
          subst hp
          rw [← h3.1] at h3
          rw [h3.2.2, decide_eq_false h3.2.1] at hc
          cases hc
theorem insTo_len (l : List Pa) (a : ByteArray) : ∀ k, k ≤ l.length → (insTo l a k).length ≤ k
  | 0, _ => Nat.le_refl _
  | k + 1, hk => by
    rw [insTo_succ]
    have := insTo_len l a k (by omega)
    split
    · have := (putG_len idS (insTo_law l a k (by omega)).1 (l.getD k noPa).name).2; omega
    · omega
theorem fitted_any (l : List Pa) (x : ByteArray) : look2 (fitted l) x = nxtR l x := by
  have hmem : ∀ i, (x, i) ∈ fitted l ↔ ∃ p, pfind l x = some p ∧ p.into = i ∧ p.into ≠ eS := by
    intro i
    unfold fitted
    rw [List.mem_map]
    constructor
    · rintro ⟨k, hk, he⟩
      rw [List.mem_filter, List.mem_range] at hk
      simp only [Prod.mk.injEq] at he
      have h2 := hk.2
      rw [Bool.and_eq_true, Bool.not_eq_true', List.any_eq_false] at h2
      rw [getD_get _ _ _ hk.1] at he h2
      refine ⟨l[k], ?_, he.2, by simpa using h2.2⟩
      unfold pfind
      rw [List.find?_eq_some_iff_getElem]
      refine ⟨by simpa using he.1, k, hk.1, rfl, fun j hj => ?_⟩
      have h3 := h2.1 l[j] (List.mem_take_iff_getElem.2 ⟨j, by omega, rfl⟩)
      rw [← he.1]
      simpa using h3
    · rintro ⟨p, hp, rfl, h3⟩
      unfold pfind at hp
      rw [List.find?_eq_some_iff_getElem] at hp
      obtain ⟨h1, k, hk, rfl, h2⟩ := hp
      have h1 := of_decide_eq_true h1
      refine ⟨k, ?_, by rw [getD_get _ _ _ hk, h1]⟩
      rw [List.mem_filter, List.mem_range, getD_get _ _ _ hk, Bool.and_eq_true]
      refine ⟨hk, ?_, by simpa using h3⟩
      rw [Bool.not_eq_true', List.any_eq_false]
      intro q hq he
      obtain ⟨j, hj, rfl⟩ := List.mem_take_iff_getElem.1 hq
      have := h2 j (by omega)
      rw [← h1, he] at this
      cases this
  unfold nxtR
  cases hf : pfind l x with
  | none =>
    cases h2 : look2 (fitted l) x with
    | none => rfl
    | some i =>
      rw [look2_some (fitted_nodup l), hmem, hf] at h2
      obtain ⟨p, hp, _⟩ := h2
      cases hp
  | some p =>
    by_cases hi : p.into = eS
    · simp only [if_pos hi]
      cases h2 : look2 (fitted l) x with
      | none => rfl
      | some i =>
        rw [look2_some (fitted_nodup l), hmem, hf] at h2
        obtain ⟨q, hq, he, h3⟩ := h2
        cases hq
        exact absurd hi h3
    · simp only [if_neg hi]
      rw [look2_some (fitted_nodup l), hmem]
      exact ⟨p, hf, rfl, hi⟩
def restR (l : List Pa) (a : ByteArray) : List (ByteArray × ByteArray) := (fitted l).filter fun p => !decide (p.1 = a)
theorem look_rest (l : List Pa) (a x : ByteArray) : look2 (restR l a) x = if x = a then none else nxtR l x := by
  unfold restR
  rw [look2_filter (fitted_nodup l), fitted_any]
  cases nxtR l x with
  | none => simp
  | some i => by_cases h : x = a <;> simp [h]
theorem hits_rch (R : List (ByteArray × ByteArray)) (a : ByteArray) : ∀ (n : Nat) (x : ByteArray), hits R [a] n x = rch (look2 R) (fun x => decide (look2 R x = some a)) n x
  | 0, _ => rfl
  | n + 1, x => by
    rw [hits_succ, rch_succ]
    cases h : look2 R x with
    | none => rfl
    | some i =>
      show (inK [a] i || hits R [a] n i) = (decide (some i = some a) || rch _ _ n i)
      rw [hits_rch R a n i]
      congr 1
      rw [Bool.eq_iff_iff, inK_iff, List.mem_singleton, decide_eq_true_iff, Option.some.injEq]
theorem way_hits {l : List Pa} {a : ByteArray} (ha : (pfind l a).isSome = true) : ∀ (n : Nat) (x : ByteArray), x ≠ a → inK (wayGo l (n + 1) x).1 a = hits (restR l a) [a] n x
  | n, x, hx => by
    have hl := look_rest l a x
    rw [if_neg hx] at hl
    unfold nxtR at hl
    rw [wayGo_succ]
    cases hf : pfind l x with
    | none =>
      rw [hf] at hl
      cases n with
      | zero => rfl
      | succ n => rw [hits_succ, hl]; rfl
    | some p =>
      rw [hf] at hl
      by_cases hi : p.into = eS
      · simp only [if_pos hi] at hl ⊢
        have e : inK [x] a = false := by
          rw [Bool.eq_false_iff]; intro h
          rw [inK_iff, List.mem_singleton] at h; exact hx h.symm
        rw [e]
        cases n with
        | zero => rfl
        | succ n => rw [hits_succ, hl]
      · simp only [if_neg hi] at hl ⊢
        have e : inK (x :: (wayGo l n p.into).1) a = inK (wayGo l n p.into).1 a := by
          rw [Bool.eq_iff_iff, inK_iff, inK_iff, List.mem_cons]
          exact ⟨fun h => h.resolve_left fun h => hx h.symm, .inr⟩
        rw [e]
        cases n with
        | zero => rfl
        | succ n =>
          rw [hits_succ, hl]
          show _ = (inK [a] p.into || hits (restR l a) [a] n p.into)
          by_cases hp : p.into = a
          · rw [hp]
            have e1 : inK [a] a = true := (inK_iff _ _).2 (List.mem_singleton.2 rfl)
            rw [e1, Bool.true_or, inK_iff, wayGo_succ]
            obtain ⟨q, hq⟩ := Option.isSome_iff_exists.1 ha
            rw [hq]
            show a ∈ (if q.into = eS then ([a], true) else (a :: (wayGo l n q.into).1, (wayGo l n q.into).2)).1
            split
            · exact List.mem_singleton.2 rfl
            · exact List.mem_cons_self ..
          · have e1 : inK [a] p.into = false := by
              rw [Bool.eq_false_iff]; intro h
              rw [inK_iff, List.mem_singleton] at h; exact hp h
            rw [e1, Bool.false_or, way_hits ha n p.into hp]
/-- What the program finds inside a part is what the reference finds. -/
theorem inside_ref {l : List Pa} {a : ByteArray} {ss : List ByteArray} (h : ss.map (fun s => s.data.toList) = insL l a) : ss = insR l a := by
  unfold insL at h
  unfold insR
  cases hf : (pfind l a).isNone with
  | true =>
    rw [hf, if_pos rfl] at h
    rw [if_pos rfl]
    exact List.map_eq_nil_iff.1 h
  | false =>
    rw [hf, if_neg (by decide)] at h
    rw [if_neg (by decide)]
    have ha : (pfind l a).isSome = true := by
      cases hq : pfind l a with
      | none => rw [hq] at hf; cases hf
      | some p => rfl
    have hperm : (ss.map fun s => s.data.toList).Perm ((bfs (l.length + 1) (restR l a) [a]).map fun s => s.data.toList) := by
      rw [h]; exact List.mergeSort_perm _ _
    have hn : ((restR l a).map (·.1)).Nodup := (fitted_nodup l).sublist ((List.filter_sublist).map _)
    have hmem : ∀ x, x ∈ ss ↔ hits (restR l a) [a] (l.length + 1) x = true := by
      intro x
      rw [← bfs_hits _ _ _ hn]
      have := hperm.mem_iff (a := x.data.toList)
      rw [List.mem_map, List.mem_map] at this
      constructor
      · intro hx
        obtain ⟨y, hy, he⟩ := this.1 ⟨x, hx, rfl⟩
        rwa [data_inj he] at hy
      · intro hx
        obtain ⟨y, hy, he⟩ := this.2 ⟨x, hx, rfl⟩
        rwa [data_inj he] at hy
    have hord : OrdK idS ss := by
      have h1 : (ss.map fun s => s.data.toList).Pairwise fun x y => decide (x ≤ y) = true := by
        rw [h]; exact List.pairwise_mergeSort (fun a b c h1 h2 => by simp only [decide_eq_true_eq] at *; exact List.le_trans h1 h2) (fun a b => by
          rw [Bool.or_eq_true, decide_eq_true_iff, decide_eq_true_iff]; exact List.le_total a b) _
      have h2 : (ss.map fun s => s.data.toList).Nodup := by
        rw [hperm.nodup_iff]
        exact List.Pairwise.map _ (fun a b hab e => hab (data_inj e)) (bfs_nodup _ _ _ hn)
      have h3 := h1.and h2
      rw [List.pairwise_map] at h3
      refine h3.imp ?_
      rintro x y ⟨h4, h5⟩
      simp only [decide_eq_true_eq] at h4
      show ltS x y = true
      rw [ltS_iff]
      exact List.not_le.1 fun h6 => h5 (List.le_antisymm h4 h6)
    obtain ⟨h1, h2⟩ := insTo_law l a l.length (Nat.le_refl _)
    refine ordK_ext idS hord h1 fun x => ?_
    rw [hmem, h2, List.take_length]
    have hdom : ∀ x, (decide (look2 (restR l a) x = some a) = true ∨ (look2 (restR l a) x).isSome = true) → x ∈ l.map Pa.name := by
      intro x hx
      have hs : (look2 (restR l a) x).isSome = true := by
        rcases hx with hx | hx
        · rw [of_decide_eq_true hx]; rfl
        · exact hx
      rw [look_rest] at hs
      split at hs
      · cases hs
      · exact dom_R x (.inr hs)
    have hstop := rch_stop hdom (N := l.length) (by rw [List.length_map]; exact Nat.le_refl _) x
    rw [← hits_rch, ← hits_rch] at hstop
    rw [hstop]
    constructor
    · intro hx
      have hxa : x ≠ a := by
        rintro rfl
        cases hl : l.length with
        | zero => rw [hl] at hx; cases hx
        | succ n => rw [hl, hits_succ, look_rest, if_pos rfl] at hx; cases hx
      have hw := way_hits ha l.length x hxa
      have hin : x ∈ l.map Pa.name := by
        cases hl : l.length with
        | zero => rw [hl] at hx; cases hx
        | succ n =>
          rw [hl, hits_succ] at hx
          refine hdom x (.inr ?_)
          cases hk : look2 (restR l a) x with
          | none => rw [hk] at hx; cases hx
          | some i => rfl
      obtain ⟨p, hp, hpx⟩ := List.mem_map.1 hin
      exact ⟨p, hp, hpx, hxa, by unfold wayL; rw [hw]; exact hx⟩
    · rintro ⟨p, hp, hpx, hxa, hin⟩
      unfold wayL at hin
      rw [way_hits ha l.length x hxa] at hin
      exact hin
end Go.Proofs.YtccnocgmikmonaaGreatDoor
namespace Go.Proofs.YtccnocgmikmonaaGreatDoor
open Go Go.RowKit
theorem rowS_form {w : World} {base t sz n : Nat} {v : Value} {xs : List Value} (h : w.ownsRow base t sz v n xs) : ∃ A c, v = .slice A n c := by
  rcases h.2 with ⟨rfl, rfl⟩ | ⟨g, cap, cur, rfl, _⟩
  · exact ⟨_, _, rfl⟩
  · exact ⟨_, _, rfl⟩
theorem take_has {l : List ByteArray} {x : ByteArray} {k : Nat} (hk : k < l.length) (h : inK (l.take k) x = false) : l.getD k eS ≠ x → inK (l.take (k + 1)) x = false := by
  intro hne
  rw [Bool.eq_false_iff] at *
  intro h2
  rw [inK_iff, List.take_succ_eq_append_getElem hk, List.mem_append, List.mem_singleton] at h2
  rcases h2 with h2 | rfl
  · exact h ((inK_iff _ _).2 h2)
  · exact hne (getD_get _ _ _ hk)
theorem at_has {l : List ByteArray} {x : ByteArray} {k : Nat} (hk : k < l.length) (h : l.getD k eS = x) : inK l x = true := by
  rw [inK_iff, ← h, getD_get _ _ _ hk]; exact List.getElem_mem _
set_option maxRecDepth 100000 in
set_option maxHeartbeats 2000000 in
theorem refHas_any (v : Value) (l : List ByteArray) (x : ByteArray) (w : World) (hv : Sl w v l.length 1 (strF l)) (hl : l.length ≤ 1000000) :
    Calls Tryz.prog 35 #[v, .string x] w fun e w' => e = .returned (.bool (inK l x)) ∧ w' = w := by
  obtain ⟨A, c, rfl, hn, hc⟩ := hv
  have HC := Lib.hid hc
  clear hc
  go_enter Tryz.func35, Tryz.ntmps35
  go_wp2_with fail
  go_loopw [5] (fun i wr => ∃ k : Nat, k ≤ l.length ∧ i = .int .i64 k ∧ Hid (inK (l.take k) x = false) ∧ wr = w) (fun i _ => l.length - (intOf i).toNat)
  case atStart => exact ⟨0, Nat.zero_le _, rfl, rfl, rfl⟩
  case round =>
    obtain ⟨k, hk, rfl, HT, rfl⟩ := hrel
    by_cases hlt : k < l.length
    · rcases HC.out with h0 | ⟨b, o, rfl, hcc⟩
      · omega
      have hck : wr.cell? ⟨b, o + k, none⟩ = some (.string (l.getD k eS)) := hcc k (by omega)
      have HNX := Lib.hid (take_has hlt HT.out)
      have HAT := Lib.hid (fun he => at_has (x := x) hlt he)
      have hki : (k : Int) < (l.length : Int) := by omega
      clear hcc
      generalize l.getD k eS = q at *
      cases he : (q.toList == x.toList)
      · have hne : q ≠ x := by rw [beq_bytes] at he; exact of_decide_eq_false he
        have HN := Lib.hid (HNX.out hne)
        clear hne
        go_wp2_with fail
        go_roundw
        case rel => exact ⟨k + 1, by omega, by go_num, HN.out, trivial⟩
        case measure => simp [intOf]; omega
      · have heq : q = x := by rw [beq_bytes] at he; exact of_decide_eq_true he
        have HE := Lib.hid (HAT.out heq)
        clear heq
        go_wp2_with fail
        go_ret
        exact ⟨ret_bool (by rw [HE.out]), rfl⟩
    · obtain rfl : k = l.length := by omega
      have HE := Lib.hid (show inK l x = false by have := HT.out; rwa [List.take_length] at this)
      go_wp2_with fail
      go_ret
      exact ⟨ret_bool (by rw [HE.out]), rfl⟩
set_option maxRecDepth 100000 in
set_option maxHeartbeats 2000000 in
theorem refFind10_any (w0 : World) (v : Value) (l : List Pa) (x : ByteArray) (w : World) (hb0 : Below w0.heap.size w0 w) (hv : Sta w0 v l) (hl : l.length ≤ 100000) :
    Calls Tryz.prog 8 #[.agg #[v], .string x] w fun e w' => ∃ A m, e = .returned (.tuple #[.agg #[.string ((pfind l x).getD noPa).name, .string ((pfind l x).getD noPa).kind, .string ((pfind l x).getD noPa).into, .string ((pfind l x).getD noPa).slot, .int .i64 ((pfind l x).getD noPa).made, .int .i64 ((pfind l x).getD noPa).since, .bool ((pfind l x).getD noPa).gone, .slice A ((pfind l x).getD noPa).props.length m, .int .i64 ((pfind l x).getD noPa).kl, .int .i64 ((pfind l x).getD noPa).kh, .int .i64 ((pfind l x).getD noPa).cl, .int .i64 ((pfind l x).getD noPa).ch, .int .i64 ((pfind l x).getD noPa).dl, .int .i64 ((pfind l x).getD noPa).dh], .bool (pfind l x).isSome]) ∧ Rd 2 PrR w0 (.slice A ((pfind l x).getD noPa).props.length m) ((pfind l x).getD noPa).props ∧ Below w.heap.size w w' := by
  obtain ⟨A, cc, rfl, hn⟩ := Rd.form hv
  have h1 := (Has.new w 24 #[.slice A l.length cc]).alloc (.cells #[.string ⟨#[]⟩, .string ⟨#[]⟩, .string ⟨#[]⟩, .string ⟨#[]⟩, .int .i64 0, .int .i64 0, .bool false, .slice none 0 0, .int .i64 0, .int .i64 0, .int .i64 0, .int .i64 0, .int .i64 0, .int .i64 0] 33)
  have h2 := Has.new (w.alloc (.cells #[.slice A l.length cc] 24)) 33 #[.string ⟨#[]⟩, .string ⟨#[]⟩, .string ⟨#[]⟩, .string ⟨#[]⟩, .int .i64 0, .int .i64 0, .bool false, .slice none 0 0, .int .i64 0, .int .i64 0, .int .i64 0, .int .i64 0, .int .i64 0, .int .i64 0]
  simp only [World.size_alloc] at h2
  have hb : Below w.heap.size w ((w.alloc (.cells #[.slice A l.length cc] 24)).alloc (.cells #[.string ⟨#[]⟩, .string ⟨#[]⟩, .string ⟨#[]⟩, .string ⟨#[]⟩, .int .i64 0, .int .i64 0, .bool false, .slice none 0 0, .int .i64 0, .int .i64 0, .int .i64 0, .int .i64 0, .int .i64 0, .int .i64 0] 33)) := ((Below.refl _ _).alloc (Nat.le_refl _) _).alloc (by simp) _
  obtain ⟨z1, z2⟩ := h1.facts
  have hsz : w.heap.size + 1 < ((w.alloc (.cells #[.slice A l.length cc] 24)).alloc (.cells #[.string ⟨#[]⟩, .string ⟨#[]⟩, .string ⟨#[]⟩, .string ⟨#[]⟩, .int .i64 0, .int .i64 0, .bool false, .slice none 0 0, .int .i64 0, .int .i64 0, .int .i64 0, .int .i64 0, .int .i64 0, .int .i64 0] 33)).heap.size := h2.lt
  have HV := Lib.hid hv
  have HB0 := Lib.hid hb0
  have HC1 := Lib.hid h1
  have HP1 := Lib.hid h2
  have HB1 := Lib.hid hb
  have HAT := Lib.hid (fun W (h : Below w0.heap.size w0 W) => refAt_any w0 _ l x W h hv hl)
  clear hv hb0 h1 h2 hb
  cases hf : pfind l x with
  | none =>
    have HA := Lib.hid (atP_no hf)
    clear hf
    go_enter Tryz.func8, Tryz.ntmps8
    go_wp2_with (first | (go_at_call 29; refine (HAT.out _ (HB0.out.trans (HB1.out.mono HB0.out.size))).mono ?_; rintro e w3 ⟨rfl, hb3⟩; rw [HA.out]; have HP3 := Lib.hid (HP1.out.below hb3 hsz); have HB3 := Lib.hid (HB1.out.trans (hb3.mono HB1.out.size)); have HT7 := Lib.hid (thereH (n := 14) HP3.out (by simp)); obtain ⟨W, hWe, hW, hB⟩ := stored HP3.out HB3.out (by omega : w.heap.size ≤ w.heap.size + 1) #[.string ⟨#[]⟩, .string ⟨#[]⟩, .string ⟨#[]⟩, .string ⟨#[]⟩, .int .i64 0, .int .i64 0, .bool false, .slice none 0 0, .int .i64 0, .int .i64 0, .int .i64 0, .int .i64 0, .int .i64 0, .int .i64 0] rfl; obtain ⟨n4, n5⟩ := hW.facts; have HB9 := Lib.hid hB; clear hB hW hb3) | ((with_reducible show wpList _ _ _ (Oper.mk none (Op.store 33 (Operand.tmp 4) _) _ _ _ _ :: _) _ _); refine wpList_store_mid rfl 33 _ _ rfl (w.heap.size + 1) 0 #[.string ⟨#[]⟩, .string ⟨#[]⟩, .string ⟨#[]⟩, .string ⟨#[]⟩, .int .i64 0, .int .i64 0, .bool false, .slice none 0 0, .int .i64 0, .int .i64 0, .int .i64 0, .int .i64 0, .int .i64 0, .int .i64 0] rfl rfl HT7.out sizePt (onePt ..) ?_; rw [hWe]))
    refine bodyPost_ret (v := .tuple #[.agg #[.string ⟨#[]⟩, .string ⟨#[]⟩, .string ⟨#[]⟩, .string ⟨#[]⟩, .int .i64 0, .int .i64 0, .bool false, .slice none 0 0, .int .i64 0, .int .i64 0, .int .i64 0, .int .i64 0, .int .i64 0, .int .i64 0], .bool false]) (by simp [results, Tryz.results8, go_sem, n4]) rfl ?_
    exact ⟨none, 0, rfl, Rd.nil _ _, HB9.out⟩
  | some p =>
    obtain ⟨k, hlt, hat, hp⟩ := atP_yes hf
    obtain ⟨b, o, c', cs, he, _, ⟨sv, rfl, hsv⟩, _, hrg⟩ := Rd.get HV.out hlt noPa
    injection he with e1 e2 e3
    subst e1; subst e3
    obtain ⟨A2, c2, rfl, hn2⟩ := hsv.form
    rw [hp] at hsv hrg
    have HA := Lib.hid hat
    have HSV := Lib.hid hsv
    have HRG := Lib.hid hrg
    have hki : (k : Int) < (l.length : Int) := by omega
    have hk0 : ¬ ((k : Int) < 0) := by omega
    clear hf hat hrg hsv hp hn2
    obtain ⟨name, kind, into, slot, made, since, gone, props, kl, kh, cl, ch, dl, dh⟩ := p
    go_enter Tryz.func8, Tryz.ntmps8
    go_wp2_with (first | (go_at_call 29; refine (HAT.out _ (HB0.out.trans (HB1.out.mono HB0.out.size))).mono ?_; rintro e w3 ⟨rfl, hb3⟩; rw [HA.out]; have hC3 := HC1.out.below hb3 (by omega); obtain ⟨y1, y2⟩ := hC3.facts; have HP3 := Lib.hid (HP1.out.below hb3 hsz); have HB3 := Lib.hid (HB1.out.trans (hb3.mono HB1.out.size)); have hrg' : w3.rangeAt b (o + k * 14) [.string name, .string kind, .string into, .string slot, .int .i64 made, .int .i64 since, .bool gone, .slice A2 props.length c2, .int .i64 kl, .int .i64 kh, .int .i64 cl, .int .i64 ch, .int .i64 dl, .int .i64 dh] := range_later HRG.out (HB0.out.trans (HB3.out.mono HB0.out.size)); have HT7 := Lib.hid (thereH (n := 14) HP3.out (by simp)); obtain ⟨W, hWe, hW, hB⟩ := stored HP3.out HB3.out (by omega : w.heap.size ≤ w.heap.size + 1) #[.string name, .string kind, .string into, .string slot, .int .i64 made, .int .i64 since, .bool gone, .slice A2 props.length c2, .int .i64 kl, .int .i64 kh, .int .i64 cl, .int .i64 ch, .int .i64 dl, .int .i64 dh] rfl; obtain ⟨n4, n5⟩ := hW.facts; have HB9 := Lib.hid hB; clear hB hW hb3) | ((with_reducible show wpList _ _ _ (Oper.mk (some 17) _ _ _ _ _ :: _) _ _); refine wpList_load_mid rfl 33 _ rfl b (o + k * 14) rfl _ _ hrg' Tryz.underlying33 rfl rfl ?_) | ((with_reducible show wpList _ _ _ (Oper.mk none (Op.store 33 (Operand.tmp 4) _) _ _ _ _ :: _) _ _); refine wpList_store_mid rfl 33 _ _ rfl (w.heap.size + 1) 0 #[.string name, .string kind, .string into, .string slot, .int .i64 made, .int .i64 since, .bool gone, .slice A2 props.length c2, .int .i64 kl, .int .i64 kh, .int .i64 cl, .int .i64 ch, .int .i64 dl, .int .i64 dh] rfl rfl HT7.out sizePt (onePt ..) ?_; rw [hWe]))
    refine bodyPost_ret (v := .tuple #[.agg #[.string name, .string kind, .string into, .string slot, .int .i64 made, .int .i64 since, .bool gone, .slice A2 props.length c2, .int .i64 kl, .int .i64 kh, .int .i64 cl, .int .i64 ch, .int .i64 dl, .int .i64 dh], .bool true]) (by simp [results, Tryz.results8, go_sem, n4]) rfl ?_
    exact ⟨A2, c2, rfl, HSV.out, HB9.out⟩
theorem way_some {l : List Pa} {x : ByteArray} {n : Nat} {a : ByteArray} {p : Pa} {o : List ByteArray} (hw : wayL l x = (o ++ (wayGo l (n + 1) a).1, (wayGo l (n + 1) a).2)) (hf : pfind l a = some p) (hi : ¬ p.into = eS) : wayL l x = ((o ++ [a]) ++ (wayGo l n p.into).1, (wayGo l n p.into).2) := by
  rw [hw, wayGo_succ, hf]
  simp only [if_neg hi, List.append_assoc, List.cons_append, List.nil_append]
theorem way_last {l : List Pa} {x : ByteArray} {n : Nat} {a : ByteArray} {p : Pa} {o : List ByteArray} (hw : wayL l x = (o ++ (wayGo l (n + 1) a).1, (wayGo l (n + 1) a).2)) (hf : pfind l a = some p) (hi : p.into = eS) : wayL l x = (o ++ [a], true) := by
  rw [hw, wayGo_succ, hf]
  simp only [if_pos hi]
theorem way_none {l : List Pa} {x : ByteArray} {n : Nat} {a : ByteArray} {o : List ByteArray} (hw : wayL l x = (o ++ (wayGo l (n + 1) a).1, (wayGo l (n + 1) a).2)) (hf : pfind l a = none) : wayL l x = (o, false) := by
  rw [hw, wayGo_succ, hf]
  simp
set_option maxRecDepth 100000 in
set_option maxHeartbeats 4000000 in
theorem way_any (w0 : World) (v : Value) (l : List Pa) (x : ByteArray) (w : World) (hb0 : Below w0.heap.size w0 w) (hv : Sta w0 v l) (hl : l.length ≤ 10000) :
    Calls Tryz.prog 32 #[.agg #[v], .string x] w fun e w' => ∃ v', e = .returned (.tuple #[v', .bool (wayL l x).2]) ∧ w'.ownsRow w.heap.size 9 1 v' (wayL l x).1.length ((wayL l x).1.map .string) ∧ Below w.heap.size w w' := by
  obtain ⟨A, cc, rfl, hn⟩ := Rd.form hv
  obtain ⟨i0, hi, hz0, hq1, hq2⟩ := info_parts info_strI
  have hI := Lib.hid hi
  have hZ := Lib.hid hz0
  have HB0 := Lib.hid hb0
  have HC1 := Lib.hid (Has.new w 24 #[.slice A l.length cc])
  have HB1 := Lib.hid ((Below.refl w.heap.size w).alloc (Nat.le_refl _) (.cells #[.slice A l.length cc] 24))
  have HFD := Lib.hid (fun a W (h : Below w0.heap.size w0 W) => refFind10_any w0 _ l a W h hv (by omega))
  clear hv hb0 hi hz0
  go_enter Tryz.func32, Tryz.ntmps32
  go_wp2_with fail
  go_loopw [1, 6] (fun y out wr => ∃ (o : List ByteArray) (a : ByteArray), y = .string a ∧ o.length ≤ l.length + 1 ∧ Hid (wayL l x = (o ++ (wayGo l (l.length + 1 - o.length) a).1, (wayGo l (l.length + 1 - o.length) a).2)) ∧ Hid (wr.ownsRow (w.heap.size + 1) 9 1 out o.length (o.map .string)) ∧ Hid (Has wr w.heap.size 24 #[.slice A l.length cc]) ∧ Hid (Below w.heap.size w wr)) (fun _ out _ => l.length + 1 - lenV out)
  case atStart => exact ⟨[], x, rfl, Nat.zero_le _, rfl, World.ownsRow_nil _ _ _ _, HC1.out, HB1.out⟩
  case round =>
    obtain ⟨o, a, rfl, hol, HW, HO, HC, HB⟩ := hrel
    clear HC1 HB1
    obtain ⟨A6, c6, rfl⟩ := rowS_form HO.out
    obtain ⟨x1, y1⟩ := HC.out.facts
    have hwr : w.heap.size < wr.heap.size := HC.out.lt
    by_cases hle : o.length ≤ l.length
    · have hki : (o.length : Int) ≤ (l.length : Int) := by omega
      have hfu : l.length + 1 - o.length = (l.length - o.length) + 1 := by omega
      rw [hfu] at HW
      have HFA := Lib.hid (HFD.out a _ (HB0.out.trans (HB.out.mono HB0.out.size)))
      clear HFD hfu
      cases hf : pfind l a with
      | none =>
        rw [hf] at HFA
        simp only [Option.getD_none, Option.isSome_none, noPa, List.length_nil] at HFA
        have HE := Lib.hid (way_none HW.out hf)
        clear hf
        go_wp2_with (go_at_call 8; refine HFA.out.mono ?_; rintro e w4 ⟨A1, m1, rfl, hr1, hb4⟩; have HB4 := Lib.hid (HB.out.trans (hb4.mono HB.out.size)); have z4 := hb4.size; have HO4 := Lib.hid ((own_below HO.out hb4 (Nat.le_refl _)).alloc (.cells #[.string ⟨#[]⟩, .string ⟨#[]⟩, .string ⟨#[]⟩, .string ⟨#[]⟩, .int .i64 0, .int .i64 0, .bool false, .slice A1 0 m1, .int .i64 0, .int .i64 0, .int .i64 0, .int .i64 0, .int .i64 0, .int .i64 0] 33)); clear hb4 hr1)
        refine bodyPost_ret (v := .tuple #[.slice A6 o.length c6, .bool false]) (by simp [results, Tryz.results32, go_sem]) rfl ?_
        exact ⟨_, by rw [HE.out], by rw [HE.out]; exact own_low HO4.out (by omega), HB4.out.alloc HB4.out.size _⟩
      | some p =>
        rw [hf] at HFA
        simp only [Option.getD_some, Option.isSome_some] at HFA
        have HF := Lib.hid hf
        have hie := emp_iff p.into
        clear hf
        cases hi : p.into.toList.isEmpty
        · have HI : Hid (¬ p.into = eS) := fun e => by rw [hi, decide_eq_true e] at hie; cases hie
          clear hie
          have HE := Lib.hid (way_some HW.out HF.out HI.out)
          clear HF HI HW
          obtain ⟨pname, pkind, pinto, pslot, pmade, psince, pgone, pprops, pkl, pkh, pcl, pch, pdl, pdh⟩ := p
          go_upto_region 3 with fail
          generalize Value.slice A6 o.length c6 = ov at *
          go_wp2_with (first | (go_at_call 8; refine HFA.out.mono ?_; rintro e w4 ⟨A1, m1, rfl, hr1, hb4⟩; have z4 := hb4.size; have HC4 := Lib.hid ((HC.out.below hb4 hwr).alloc (.cells #[.string pname, .string pkind, .string pinto, .string pslot, .int .i64 pmade, .int .i64 psince, .bool pgone, .slice A1 pprops.length m1, .int .i64 pkl, .int .i64 pkh, .int .i64 pcl, .int .i64 pch, .int .i64 pdl, .int .i64 pdh] 33)); have HB4 := Lib.hid ((HB.out.trans (hb4.mono HB.out.size)).alloc (by omega) (.cells #[.string pname, .string pkind, .string pinto, .string pslot, .int .i64 pmade, .int .i64 psince, .bool pgone, .slice A1 pprops.length m1, .int .i64 pkl, .int .i64 pkh, .int .i64 pcl, .int .i64 pch, .int .i64 pdl, .int .i64 pdh] 33)); have HO4 := Lib.hid ((own_below HO.out hb4 (Nat.le_refl _)).alloc (.cells #[.string pname, .string pkind, .string pinto, .string pslot, .int .i64 pmade, .int .i64 psince, .bool pgone, .slice A1 pprops.length m1, .int .i64 pkl, .int .i64 pkh, .int .i64 pcl, .int .i64 pch, .int .i64 pdl, .int .i64 pdh] 33)); have HP4 := Lib.hid (Has.new w4 33 #[.string pname, .string pkind, .string pinto, .string pslot, .int .i64 pmade, .int .i64 psince, .bool pgone, .slice A1 pprops.length m1, .int .i64 pkl, .int .i64 pkh, .int .i64 pcl, .int .i64 pch, .int .i64 pdl, .int .i64 pdh]); have z5 : (w4.alloc (.cells #[.string pname, .string pkind, .string pinto, .string pslot, .int .i64 pmade, .int .i64 psince, .bool pgone, .slice A1 pprops.length m1, .int .i64 pkl, .int .i64 pkh, .int .i64 pcl, .int .i64 pch, .int .i64 pdl, .int .i64 pdh] 33)).heap.size = w4.heap.size + 1 := World.size_alloc ..; have ho4 := Lib.hid (fun j hj => (own_below HO.out hb4 (Nat.le_refl _)).lt j hj); clear hb4 hr1) | ((with_reducible show wpList _ _ _ (Oper.mk (some 27) _ _ _ _ _ :: _) _ _); refine wpList_app rfl (.tmp 24) (.tmp 26) 39 rfl (w.heap.size + 1) 9 i0 (.string ⟨#[]⟩) 1 16 Tryz.underlying39 hI.out hZ.out hq1 hq2 rfl (by decide) _ o.length (o.map .string) rfl (HO4.out.alloc _) (some ⟨w4.heap.size + 1, 0, none⟩) 1 1 [.string a] rfl rfl (.inr ⟨_, rfl, (by have h := own_src (w4.alloc (.cells #[.string pname, .string pkind, .string pinto, .string pslot, .int .i64 pmade, .int .i64 psince, .bool pgone, .slice A1 pprops.length m1, .int .i64 pkl, .int .i64 pkh, .int .i64 pcl, .int .i64 pch, .int .i64 pdl, .int .i64 pdh] 33)) (.string a) 9; rw [World.size_alloc] at h; exact h)⟩) (one_str _) (by unfold maxLen; omega) (by omega) (by simp; omega) ?_; intro v9 w9 hown9 hg9; have HO9 := Lib.hid hown9; have HC9 := Lib.hid ((HC4.out.alloc (.cells #[.string a] 9)).grown hg9 (fun h => by have := (HO.out.lt _ h.symm).1; omega)); have hP9 := (HP4.out.alloc (.cells #[.string a] 9)).grown hg9 (fun h => by have := (ho4.out _ h.symm).2; omega); obtain ⟨n9, m9⟩ := hP9.facts; have HB9 := Lib.hid ((HB4.out.alloc HB4.out.size (.cells #[.string a] 9)).grown hg9 (by simp; omega) (fun j hj => by have := (HO.out.lt _ hj).1; omega)); clear hown9 hg9 hP9))
          go_roundw
          case rel => exact ⟨o ++ [a], pinto, rfl, by simp; omega, by rw [List.length_append, List.length_singleton, show l.length + 1 - (o.length + 1) = l.length - o.length by omega]; exact HE.out, own_more HO9.out, HC9.out, HB9.out⟩
          case measure => obtain ⟨A9, c9, rfl⟩ := rowS_form HO9.out; simp only [lenV]; omega
        · have HI : Hid (p.into = eS) := by show p.into = eS; rw [hi] at hie; exact of_decide_eq_true hie.symm
          clear hie
          have HE := Lib.hid (way_last HW.out HF.out HI.out)
          clear HF HI HW
          obtain ⟨pname, pkind, pinto, pslot, pmade, psince, pgone, pprops, pkl, pkh, pcl, pch, pdl, pdh⟩ := p
          go_upto_region 3 with fail
          generalize Value.slice A6 o.length c6 = ov at *
          go_wp2_with (first | (go_at_call 8; refine HFA.out.mono ?_; rintro e w4 ⟨A1, m1, rfl, hr1, hb4⟩; have z4 := hb4.size; have HC4 := Lib.hid ((HC.out.below hb4 hwr).alloc (.cells #[.string pname, .string pkind, .string pinto, .string pslot, .int .i64 pmade, .int .i64 psince, .bool pgone, .slice A1 pprops.length m1, .int .i64 pkl, .int .i64 pkh, .int .i64 pcl, .int .i64 pch, .int .i64 pdl, .int .i64 pdh] 33)); have HB4 := Lib.hid ((HB.out.trans (hb4.mono HB.out.size)).alloc (by omega) (.cells #[.string pname, .string pkind, .string pinto, .string pslot, .int .i64 pmade, .int .i64 psince, .bool pgone, .slice A1 pprops.length m1, .int .i64 pkl, .int .i64 pkh, .int .i64 pcl, .int .i64 pch, .int .i64 pdl, .int .i64 pdh] 33)); have HO4 := Lib.hid ((own_below HO.out hb4 (Nat.le_refl _)).alloc (.cells #[.string pname, .string pkind, .string pinto, .string pslot, .int .i64 pmade, .int .i64 psince, .bool pgone, .slice A1 pprops.length m1, .int .i64 pkl, .int .i64 pkh, .int .i64 pcl, .int .i64 pch, .int .i64 pdl, .int .i64 pdh] 33)); have HP4 := Lib.hid (Has.new w4 33 #[.string pname, .string pkind, .string pinto, .string pslot, .int .i64 pmade, .int .i64 psince, .bool pgone, .slice A1 pprops.length m1, .int .i64 pkl, .int .i64 pkh, .int .i64 pcl, .int .i64 pch, .int .i64 pdl, .int .i64 pdh]); have z5 : (w4.alloc (.cells #[.string pname, .string pkind, .string pinto, .string pslot, .int .i64 pmade, .int .i64 psince, .bool pgone, .slice A1 pprops.length m1, .int .i64 pkl, .int .i64 pkh, .int .i64 pcl, .int .i64 pch, .int .i64 pdl, .int .i64 pdh] 33)).heap.size = w4.heap.size + 1 := World.size_alloc ..; have ho4 := Lib.hid (fun j hj => (own_below HO.out hb4 (Nat.le_refl _)).lt j hj); clear hb4 hr1) | ((with_reducible show wpList _ _ _ (Oper.mk (some 27) _ _ _ _ _ :: _) _ _); refine wpList_app rfl (.tmp 24) (.tmp 26) 39 rfl (w.heap.size + 1) 9 i0 (.string ⟨#[]⟩) 1 16 Tryz.underlying39 hI.out hZ.out hq1 hq2 rfl (by decide) _ o.length (o.map .string) rfl (HO4.out.alloc _) (some ⟨w4.heap.size + 1, 0, none⟩) 1 1 [.string a] rfl rfl (.inr ⟨_, rfl, (by have h := own_src (w4.alloc (.cells #[.string pname, .string pkind, .string pinto, .string pslot, .int .i64 pmade, .int .i64 psince, .bool pgone, .slice A1 pprops.length m1, .int .i64 pkl, .int .i64 pkh, .int .i64 pcl, .int .i64 pch, .int .i64 pdl, .int .i64 pdh] 33)) (.string a) 9; rw [World.size_alloc] at h; exact h)⟩) (one_str _) (by unfold maxLen; omega) (by omega) (by simp; omega) ?_; intro v9 w9 hown9 hg9; have HO9 := Lib.hid hown9; have HC9 := Lib.hid ((HC4.out.alloc (.cells #[.string a] 9)).grown hg9 (fun h => by have := (HO.out.lt _ h.symm).1; omega)); have hP9 := (HP4.out.alloc (.cells #[.string a] 9)).grown hg9 (fun h => by have := (ho4.out _ h.symm).2; omega); obtain ⟨n9, m9⟩ := hP9.facts; have HB9 := Lib.hid ((HB4.out.alloc HB4.out.size (.cells #[.string a] 9)).grown hg9 (by simp; omega) (fun j hj => by have := (HO.out.lt _ hj).1; omega)); clear hown9 hg9 hP9))
          refine bodyPost_ret (v := .tuple #[v9, .bool true]) (by simp [results, Tryz.results32, go_sem]) rfl ?_
          exact ⟨_, by rw [HE.out], by rw [HE.out]; exact own_low (own_more HO9.out) (by omega), HB9.out⟩
    · have hki : ¬ (o.length : Int) ≤ (l.length : Int) := by omega
      have HE := Lib.hid (show wayL l x = (o, false) by have := HW.out; rw [show l.length + 1 - o.length = 0 by omega] at this; rw [this]; show (o ++ [], false) = _; rw [List.append_nil])
      go_wp2_with fail
      refine bodyPost_ret (v := .tuple #[.slice A6 o.length c6, .bool false]) (by simp [results, Tryz.results32, go_sem]) rfl ?_
      exact ⟨_, by rw [HE.out], by rw [HE.out]; exact own_low HO.out (by omega), HB.out⟩
set_option maxRecDepth 100000 in
set_option maxHeartbeats 2000000 in
theorem refRoot_any (w0 : World) (v : Value) (l : List Pa) (x : ByteArray) (w : World) (hb0 : Below w0.heap.size w0 w) (hv : Sta w0 v l) (hl : l.length ≤ 10000) :
    Calls Tryz.prog 11 #[.agg #[v], .string x] w fun e w' => e = .returned (.string (rootL l x)) ∧ Below w.heap.size w w' := by
  obtain ⟨A, cc, rfl, hn⟩ := Rd.form hv
  obtain ⟨hr1, hr2⟩ := way_root l x
  have hlen := way_len l (l.length + 1) x
  have HB0 := Lib.hid hb0
  have HB1 := Lib.hid ((Below.refl w.heap.size w).alloc (Nat.le_refl _) (.cells #[.slice A l.length cc] 24))
  have HWY := Lib.hid (fun W (h : Below w0.heap.size w0 W) => way_any w0 _ l x W h hv hl)
  obtain ⟨ws, hws⟩ : ∃ ws, ws = (wayL l x).1 := ⟨_, rfl⟩
  change (wayL l x).1.length ≤ _ at hlen
  rw [← hws] at hr1 hlen HWY
  cases hb : (wayL l x).2
  · rw [hb] at HWY
    have HR := Lib.hid (hr2 hb)
    clear hv hb0 hr1 hr2 hb hws
    go_enter Tryz.func11, Tryz.ntmps11
    go_wp2_with (go_at_call 32; refine (HWY.out _ (HB0.out.trans (HB1.out.mono HB0.out.size))).mono ?_; rintro e w3 ⟨v', rfl, ho, hb3⟩; have HB3 := Lib.hid (HB1.out.trans (hb3.mono HB1.out.size)); clear ho hb3)
    go_ret
    exact ⟨by rw [HR.out]; rfl, HB3.out⟩
  · rw [hb] at HWY
    have hl := hr1 hb
    have hpos : 0 < ws.length := by
      cases ws with
      | nil => cases hl
      | cons a t => exact Nat.succ_pos _
    have hg : ws.getD (ws.length - 1) eS = rootL l x := by
      rw [List.getLast?_eq_getElem?] at hl
      rw [List.getD_eq_getElem?_getD, hl]; rfl
    have HG := Lib.hid hg
    have hki : ((ws.length - 1 : Nat) : Int) < (ws.length : Int) := by omega
    have hk1 : (ws.length : Int) - 1 = ((ws.length - 1 : Nat) : Int) := by omega
    clear hv hb0 hr1 hr2 hb hws hl hg
    go_enter Tryz.func11, Tryz.ntmps11
    go_wp2_with (go_at_call 32; refine (HWY.out _ (HB0.out.trans (HB1.out.mono HB0.out.size))).mono ?_; rintro e w3 ⟨v', rfl, ho, hb3⟩; have HB3 := Lib.hid (HB1.out.trans (hb3.mono HB1.out.size)); obtain ⟨A3, c3, rfl, hn3, h0 | ⟨b3, o3, rfl, hc3⟩⟩ := str_ownI ho; exact absurd h0 (by omega); have hck : w3.cell? ⟨b3, o3 + (ws.length - 1), none⟩ = some (.string (ws.getD (ws.length - 1) eS)) := hc3 (ws.length - 1) (by omega); rw [HG.out] at hck; clear ho hb3 hc3)
    go_ret
    exact ⟨rfl, HB3.out⟩
end Go.Proofs.YtccnocgmikmonaaGreatDoor
