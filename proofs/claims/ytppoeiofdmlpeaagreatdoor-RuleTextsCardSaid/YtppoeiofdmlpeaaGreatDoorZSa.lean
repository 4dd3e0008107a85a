/- bogieref20.SameCond, Same: equality of conditions and of rules. Condition: they lie in memory. -/
import Derived.BigQuiet
import Derived.IntWalk
import Derived.Test.YtppoeiofdmlpeaaGreatDoorU02
import Derived.Test.YtppoeiofdmlpeaaGreatDoorU04
namespace Go.Proofs.YtppoeiofdmlpeaaGreatDoor
open Go Go.RowKit
mutual
/-- Two conditions are the same. -/
def sameE : Ex → Ex → Bool
  | .mk o a v n x ks, e => decide (o = e.op ∧ a = e.name ∧ v = e.value ∧ n = e.n ∧ x = e.extra ∧ ks.length = e.kids.length) && sameL ks e.kids
def sameL : List Ex → List Ex → Bool
  | [], _ => true
  | k :: ks, ls => (match ls with
    | [] => true
    | l :: ls => sameE k l && sameL ks ls)
end
theorem sameE_eq (a b : Ex) : sameE a b = (decide (a.op = b.op ∧ a.name = b.name ∧ a.value = b.value ∧ a.n = b.n ∧ a.extra = b.extra ∧ a.kids.length = b.kids.length) && sameL a.kids b.kids) := by
  cases a; rw [sameE]; rfl
theorem sameL_nil (ls : List Ex) : sameL [] ls = true := by rw [sameL]
theorem sameL_cons (k l : Ex) (ks ls : List Ex) : sameL (k :: ks) (l :: ls) = (sameE k l && sameL ks ls) := by rw [sameL]
theorem sameE_iff : ∀ a b : Ex, sameE a b = true ↔ a = b := by
  refine Ex.ind fun a ih b => ?_
  have hL : ∀ ks ls : List Ex, (∀ k ∈ ks, ∀ l, sameE k l = true ↔ k = l) → ks.length = ls.length → (sameL ks ls = true ↔ ks = ls) := by
    intro ks
    induction ks with
    | nil => intro ls _ hl; cases ls with | nil => rw [sameL_nil]; exact ⟨fun _ => rfl, fun _ => rfl⟩ | cons l ls => cases hl
    | cons k ks ih =>
      intro ls hk hl
      cases ls with
      | nil => cases hl
      | cons l ls =>
        rw [sameL_cons, Bool.and_eq_true, hk k (List.mem_cons_self ..) l, ih ls (fun x hx => hk x (List.mem_cons_of_mem _ hx)) (by simpa using hl)]
        exact ⟨fun ⟨h1, h2⟩ => by rw [h1, h2], fun h => by injection h with h1 h2; exact ⟨h1, h2⟩⟩
  rw [sameE_eq, Bool.and_eq_true, decide_eq_true_eq]
  obtain ⟨o, na, v, n, x, ks⟩ := a
  obtain ⟨o', na', v', n', x', ls⟩ := b
  dsimp only [Ex.op, Ex.name, Ex.value, Ex.n, Ex.extra, Ex.kids] at *
  constructor
  · rintro ⟨⟨rfl, rfl, rfl, rfl, rfl, h⟩, hs⟩
    rw [(hL ks ls ih h).1 hs]
  · intro h
    injection h with h1 h2 h3 h4 h5 h6
    subst h6
    exact ⟨⟨h1, h2, h3, h4, h5, rfl⟩, (hL ks ks ih rfl).2 rfl⟩
theorem bytes_ne {a b : ByteArray} (h : ¬ a = b) : ¬ a.toList = b.toList := by
  intro e
  apply h
  rw [_root_.Go.ByteArray.toList_eq, _root_.Go.ByteArray.toList_eq] at e
  exact ByteArray.ext (Array.toList_inj.1 e)
set_option maxRecDepth 100000 in
set_option maxHeartbeats 8000000 in
theorem same_rec : ∀ (M : Nat) (a b : Ex) (kv lv : Value) (w : World), cnt a ≤ M → M ≤ 100000 → Lay w kv a.kids → Lay w lv b.kids →
    Calls Tryz.prog 30 #[.agg #[.int .i64 a.op, .string a.name, .string a.value, .int .i64 a.n, .int .i64 a.extra, kv], .agg #[.int .i64 b.op, .string b.name, .string b.value, .int .i64 b.n, .int .i64 b.extra, lv]] w fun r w' => r = .returned (.bool (sameE a b)) ∧ Below w.heap.size w w' := by
  intro M
  induction M with
  | zero => intro a b kv lv w hc; have := cnt_pos a; omega
  | succ M ih =>
    intro a b kv lv w hc hM hl hm
    have hE := sameE_eq a b
    have hkid : ∀ k, k ∈ a.kids → cnt k ≤ M := fun k hk => by have := cnt_kid hk; omega
    have hlen : a.kids.length ≤ 100000 := by
      have := len_cnts a.kids
      have := cnt_eq a
      omega
    obtain ⟨r, hr⟩ : ∃ r, sameE a b = r := ⟨_, rfl⟩
    rw [hr] at hE ⊢
    have hT : (a.op = b.op ∧ a.name = b.name ∧ a.value = b.value ∧ a.n = b.n ∧ a.extra = b.extra ∧ a.kids.length = b.kids.length) → r = sameL a.kids b.kids := fun h => by rw [hE, decide_eq_true h, Bool.true_and]
    have hF : ¬ (a.op = b.op ∧ a.name = b.name ∧ a.value = b.value ∧ a.n = b.n ∧ a.extra = b.extra ∧ a.kids.length = b.kids.length) → r = false := fun h => by rw [hE, decide_eq_false h, Bool.false_and]
    clear hE hc hr
    obtain ⟨po, pa, pv, pn, px, ks⟩ := a
    obtain ⟨qo, qa, qv, qn, qx, ls⟩ := b
    dsimp only [Ex.op, Ex.name, Ex.value, Ex.n, Ex.extra, Ex.kids] at hT hF hl hm hkid hlen ⊢
    obtain ⟨A, c, rfl, hAc⟩ := hl.slice
    obtain ⟨B, d, rfl, hBd⟩ := hm.slice
    have HL := Lib.hid hl
    have HM := Lib.hid hm
    have HK := Lib.hid hkid
    clear hl hm hkid
    have HB := Lib.hid (show Below w.heap.size w ((w.alloc (.cells #[.int .i64 po, .string pa, .string pv, .int .i64 pn, .int .i64 px, .slice A ks.length c] 24)).alloc (.cells #[.int .i64 qo, .string qa, .string qv, .int .i64 qn, .int .i64 qx, .slice B ls.length d] 24)) from ((Below.refl _ _).alloc (Nat.le_refl _) _).alloc (by simp) _)
    by_cases hn : po = qo
    rotate_left
    · have hnb : (po == qo) = false := by simpa using hn
      obtain rfl := hF (fun h => hn h.1)
      clear hT hF
      go_enter Tryz.func30, Tryz.ntmps30
      go_wp2_with fail
      go_ret
      exact ⟨rfl, HB.out⟩
    subst hn
    by_cases hn : pa = qa
    rotate_left
    · have hnl := bytes_ne hn
      have hnb : (pa.toList == qa.toList) = false := by simpa using hnl
      obtain rfl := hF (fun h => hn h.2.1)
      clear hT hF
      go_enter Tryz.func30, Tryz.ntmps30
      go_wp2_with fail
      go_ret
      exact ⟨rfl, HB.out⟩
    subst hn
    by_cases hn : pv = qv
    rotate_left
    · have hnl := bytes_ne hn
      have hnb : (pv.toList == qv.toList) = false := by simpa using hnl
      obtain rfl := hF (fun h => hn h.2.2.1)
      clear hT hF
      go_enter Tryz.func30, Tryz.ntmps30
      go_wp2_with fail
      go_ret
      exact ⟨rfl, HB.out⟩
    subst hn
    by_cases hn : pn = qn
    rotate_left
    · have hnb : (pn == qn) = false := by simpa using hn
      obtain rfl := hF (fun h => hn h.2.2.2.1)
      clear hT hF
      go_enter Tryz.func30, Tryz.ntmps30
      go_wp2_with fail
      go_ret
      exact ⟨rfl, HB.out⟩
    subst hn
    by_cases hn : px = qx
    rotate_left
    · have hnb : (px == qx) = false := by simpa using hn
      obtain rfl := hF (fun h => hn h.2.2.2.2.1)
      clear hT hF
      go_enter Tryz.func30, Tryz.ntmps30
      go_wp2_with fail
      go_ret
      exact ⟨rfl, HB.out⟩
    subst hn
    by_cases hn : ks.length = ls.length
    rotate_left
    · have hni : ¬ (ks.length : Int) = (ls.length : Int) := by omega
      have hnb : ((ks.length : Int) == (ls.length : Int)) = false := by simpa using hni
      obtain rfl := hF (fun h => hn h.2.2.2.2.2)
      clear hT hF
      go_enter Tryz.func30, Tryz.ntmps30
      go_wp2_with fail
      go_ret
      exact ⟨rfl, HB.out⟩
    have hnl : ls.length = ks.length := hn.symm
    have HR := Lib.hid (hT ⟨rfl, rfl, rfl, rfl, rfl, hn⟩)
    clear hT hF
    rw [hnl]
    rw [hnl] at HB hBd
    have HNL := Lib.hid hnl
    clear hnl hn
    have HX := Lib.hid ((Has.new w 24 #[.int .i64 po, .string pa, .string pv, .int .i64 pn, .int .i64 px, .slice A ks.length c]).alloc (.cells #[.int .i64 po, .string pa, .string pv, .int .i64 pn, .int .i64 px, .slice B ks.length d] 24))
    have HY := Lib.hid (Has.new (w.alloc (.cells #[.int .i64 po, .string pa, .string pv, .int .i64 pn, .int .i64 px, .slice A ks.length c] 24)) 24 #[.int .i64 po, .string pa, .string pv, .int .i64 pn, .int .i64 px, .slice B ks.length d])
    rw [World.size_alloc] at HY
    go_enter Tryz.func30, Tryz.ntmps30
    go_wp2_with fail
    have hz0 : w.heap.size + 1 < ((w.alloc (.cells #[.int .i64 po, .string pa, .string pv, .int .i64 pn, .int .i64 px, .slice A ks.length c] 24)).alloc (.cells #[.int .i64 po, .string pa, .string pv, .int .i64 pn, .int .i64 px, .slice B ks.length d] 24)).heap.size := HY.out.lt
    have HLw := Lib.hid (HL.out.later HB.out)
    have HMw := Lib.hid (HM.out.later HB.out)
    generalize ((w.alloc (.cells #[.int .i64 po, .string pa, .string pv, .int .i64 pn, .int .i64 px, .slice A ks.length c] 24)).alloc (.cells #[.int .i64 po, .string pa, .string pv, .int .i64 pn, .int .i64 px, .slice B ks.length d] 24)) = w0 at *
    go_loopw [5] (fun i wr => ∃ k : Nat, i = .int .i64 k ∧ k ≤ ks.length ∧ Hid (sameL ks ls = sameL (ks.drop k) (ls.drop k)) ∧ Hid (Below w0.heap.size w0 wr)) (fun i _ => ks.length - (intOf i).toNat)
    case atStart => exact ⟨0, rfl, Nat.zero_le _, rfl, Below.refl _ _⟩
    case round =>
      obtain ⟨k, rfl, hk, HE, HW⟩ := hrel
      have HXr := Lib.hid (HX.out.below HW.out (Nat.lt_of_succ_lt hz0))
      have HYr := Lib.hid (HY.out.below HW.out hz0)
      obtain ⟨dx, fx⟩ := HXr.out.facts
      obtain ⟨dy, fy⟩ := HYr.out.facts
      by_cases hlt : k < ks.length
      · have hki : (k : Int) < (ks.length : Int) := by omega
        have hlt2 : k < ls.length := by rw [HNL.out]; exact hlt
        obtain ⟨_, _, hkid⟩ := (HLw.out.later HW.out).kid
        have hmm := HMw.out.later HW.out
        obtain ⟨_, _, hlid⟩ := hmm.kid
        obtain ⟨b1, o1, kv1, rfl, hcell, hkk⟩ := hkid k hlt
        obtain ⟨b2, o2, kv2, rfl, hdell, hll⟩ := hlid k hlt2
        have hc0 := hcell 0 (by decide)
        have hc1 := hcell 1 (by decide)
        have hc2 := hcell 2 (by decide)
        have hc3 := hcell 3 (by decide)
        have hc4 := hcell 4 (by decide)
        have hc5 := hcell 5 (by decide)
        have hd0 := hdell 0 (by decide)
        have hd1 := hdell 1 (by decide)
        have hd2 := hdell 2 (by decide)
        have hd3 := hdell 3 (by decide)
        have hd4 := hdell 4 (by decide)
        have hd5 := hdell 5 (by decide)
        simp only [exF, if_true, if_false, Nat.reduceEqDiff, Nat.add_one_ne_zero, ← Nat.add_assoc, Nat.add_zero] at hc0 hc1 hc2 hc3 hc4 hc5 hd0 hd1 hd2 hd3 hd4 hd5
        have HC := Lib.hid (fun W (h1 : Lay W kv1 (ks[k]).kids) (h2 : Lay W kv2 (ls[k]).kids) => ih ks[k] ls[k] kv1 kv2 W (HK.out _ (List.getElem_mem hlt)) (by omega) h1 h2)
        have HE2 := Lib.hid (show sameL ks ls = (sameE ks[k] ls[k] && sameL (ks.drop (k + 1)) (ls.drop (k + 1))) by rw [HE.out, List.drop_eq_getElem_cons hlt, List.drop_eq_getElem_cons hlt2, sameL_cons])
        have HKK := Lib.hid hkk
        have HLL := Lib.hid hll
        obtain ⟨A1, c1, rfl, _⟩ := hkk.slice
        obtain ⟨A2, c2, rfl, _⟩ := hll.slice
        have hs3 : IntKind.i64.wrap ((k : Int) + 1) = (k : Int) + 1 := IntWalk.i64_in _ (by omega)
        clear hkid hlid hcell hdell hkk hll hmm
        generalize ks[k] = e1 at *
        generalize ls[k] = e2 at *
        obtain ⟨bs, hbs⟩ : ∃ x, sameE e1 e2 = x := ⟨_, rfl⟩
        rw [hbs] at HC HE2
        clear hbs
        go_wp2_with fail
        refine wp_region_held_drew (S := fun W => W.cell? ⟨w.heap.size, 5, none⟩ = some (.slice (some ⟨b1, o1, none⟩) ks.length c) ∧ W.cell? ⟨w.heap.size + 1, 5, none⟩ = some (.slice (some ⟨b2, o2, none⟩) ks.length d) ∧ W.cell? ⟨b1, o1 + k * 6, none⟩ = some (.int .i64 e1.op) ∧ W.cell? ⟨b1, o1 + k * 6 + 1, none⟩ = some (.string e1.name) ∧ W.cell? ⟨b1, o1 + k * 6 + 2, none⟩ = some (.string e1.value) ∧ W.cell? ⟨b1, o1 + k * 6 + 3, none⟩ = some (.int .i64 e1.n) ∧ W.cell? ⟨b1, o1 + k * 6 + 4, none⟩ = some (.int .i64 e1.extra) ∧ W.cell? ⟨b1, o1 + k * 6 + 5, none⟩ = some (.slice A1 e1.kids.length c1) ∧ W.cell? ⟨b2, o2 + k * 6, none⟩ = some (.int .i64 e2.op) ∧ W.cell? ⟨b2, o2 + k * 6 + 1, none⟩ = some (.string e2.name) ∧ W.cell? ⟨b2, o2 + k * 6 + 2, none⟩ = some (.string e2.value) ∧ W.cell? ⟨b2, o2 + k * 6 + 3, none⟩ = some (.int .i64 e2.n) ∧ W.cell? ⟨b2, o2 + k * 6 + 4, none⟩ = some (.int .i64 e2.extra) ∧ W.cell? ⟨b2, o2 + k * 6 + 5, none⟩ = some (.slice A2 e2.kids.length c2)) (by kernel_rfl) (⟨HXr.out.drew.cell 5, HYr.out.drew.cell 5, hc0, hc1, hc2, hc3, hc4, hc5, hd0, hd1, hd2, hd3, hd4, hd5⟩) (fun hHeld => ?_)
        refine plI [(0, false), (1, false), (2, false), (3, false), (4, false), (5, false), (6, false), (7, false), (8, false), (9, false)] ?_
        repeat ((first | ((with_reducible show Plan ((_, true) :: _) _); refine plF ?_) | (refine plR (v := ?_) ?_ ?_; rotate_left; focus (intro W hSW; (try dsimp only at hSW); go_simp; all_goals (with_reducible rfl)))); try simp only [Act.put, List.setIfInBounds_toArray, List.set_cons_zero, List.set_cons_succ])
        refine plE ?_
        refine wpAnyH_ready (rs := [10]) (by kernel_rfl) (by simp) ?_
        refine AllReadyH.cons (o := ⟨_, _, _, _, _, _⟩) rfl (fun K hK => ?_) AllReadyH.nil
        go_simp
        go_at_call 30; refine (HC.out _ (HKK.out.later (Below.refl _ _).drew) (HLL.out.later (Below.refl _ _).drew)).mono ?_; rintro e w2 ⟨rfl, hb⟩; have HW2 := Lib.hid (HW.out.drew.trans (hb.mono HW.out.drew.size)); have HS := Lib.hid (⟨(HXr.out.drew.below hb HXr.out.drew.lt).cell 5, (HYr.out.drew.below hb HYr.out.drew.lt).cell 5, cell_later hb (hc0 : wr.drew.cell? _ = _), cell_later hb (hc1 : wr.drew.cell? _ = _), cell_later hb (hc2 : wr.drew.cell? _ = _), cell_later hb (hc3 : wr.drew.cell? _ = _), cell_later hb (hc4 : wr.drew.cell? _ = _), cell_later hb (hc5 : wr.drew.cell? _ = _), cell_later hb (hd0 : wr.drew.cell? _ = _), cell_later hb (hd1 : wr.drew.cell? _ = _), cell_later hb (hd2 : wr.drew.cell? _ = _), cell_later hb (hd3 : wr.drew.cell? _ = _), cell_later hb (hd4 : wr.drew.cell? _ = _), cell_later hb (hd5 : wr.drew.cell? _ = _)⟩ : (fun W => W.cell? ⟨w.heap.size, 5, none⟩ = some (.slice (some ⟨b1, o1, none⟩) ks.length c) ∧ W.cell? ⟨w.heap.size + 1, 5, none⟩ = some (.slice (some ⟨b2, o2, none⟩) ks.length d) ∧ W.cell? ⟨b1, o1 + k * 6, none⟩ = some (.int .i64 e1.op) ∧ W.cell? ⟨b1, o1 + k * 6 + 1, none⟩ = some (.string e1.name) ∧ W.cell? ⟨b1, o1 + k * 6 + 2, none⟩ = some (.string e1.value) ∧ W.cell? ⟨b1, o1 + k * 6 + 3, none⟩ = some (.int .i64 e1.n) ∧ W.cell? ⟨b1, o1 + k * 6 + 4, none⟩ = some (.int .i64 e1.extra) ∧ W.cell? ⟨b1, o1 + k * 6 + 5, none⟩ = some (.slice A1 e1.kids.length c1) ∧ W.cell? ⟨b2, o2 + k * 6, none⟩ = some (.int .i64 e2.op) ∧ W.cell? ⟨b2, o2 + k * 6 + 1, none⟩ = some (.string e2.name) ∧ W.cell? ⟨b2, o2 + k * 6 + 2, none⟩ = some (.string e2.value) ∧ W.cell? ⟨b2, o2 + k * 6 + 3, none⟩ = some (.int .i64 e2.n) ∧ W.cell? ⟨b2, o2 + k * 6 + 4, none⟩ = some (.int .i64 e2.extra) ∧ W.cell? ⟨b2, o2 + k * 6 + 5, none⟩ = some (.slice A2 e2.kids.length c2)) w2); have HBB := Lib.hid hb; clear hb
        refine hK.out _ _ (HS.out) (fun hHeld => ?_)
        clear hK K
        try simp only [Act.put, List.setIfInBounds_toArray, List.set_cons_zero, List.set_cons_succ]
        refine plI [(11, false)] ?_
        repeat ((first | ((with_reducible show Plan ((_, true) :: _) _); refine plF ?_) | (refine plR (v := ?_) ?_ ?_; rotate_left; focus (intro W hSW; (try dsimp only at hSW); go_simp; all_goals (with_reducible rfl)))); try simp only [Act.put, List.setIfInBounds_toArray, List.set_cons_zero, List.set_cons_succ])
        refine plE ?_
        refine wpAnyH_done (by kernel_rfl) ?_ _
        clear hHeld HS
        cases bs with
        | true =>
          have HE3 := Lib.hid (HE2.out.trans (Bool.true_and _))
          clear HE2
          go_wp2_with fail
          go_roundw
          case rel => exact ⟨k + 1, by go_num, hlt, HE3, HW2⟩
          case measure => simp [intOf]; omega
        | false =>
          have HE3 := Lib.hid (HE2.out.trans (Bool.false_and _))
          clear HE2
          go_wp2_with fail
          go_ret
          exact ⟨ret_bool (HR.out.trans HE3.out).symm, HB.out.trans (HW2.out.mono HB.out.size)⟩
      · have hki : ¬ (k : Int) < (ks.length : Int) := by omega
        have HE3 := Lib.hid (show sameL ks ls = true by rw [HE.out, List.drop_of_length_le (by omega), sameL_nil])
        go_wp2_with fail
        go_ret
        exact ⟨ret_bool (HR.out.trans HE3.out).symm, HB.out.trans (HW.out.mono HB.out.size)⟩
set_option maxRecDepth 100000 in
set_option maxHeartbeats 8000000 in
def sameU (r s : Ru) : Bool := decide (r.name = s.name) && (decide (r.kind = s.kind) && sameE r.cond s.cond)
theorem sameU_iff (r s : Ru) : sameU r s = true ↔ r = s := by
  obtain ⟨a, b, c⟩ := r
  obtain ⟨a', b', c'⟩ := s
  unfold sameU
  rw [Bool.and_eq_true, Bool.and_eq_true, decide_eq_true_eq, decide_eq_true_eq, sameE_iff]
  exact ⟨fun ⟨h1, h2, h3⟩ => by dsimp only at h1 h2 h3; rw [h1, h2, h3], fun h => by injection h with h1 h2 h3; exact ⟨h1, h2, h3⟩⟩
set_option maxRecDepth 100000 in
set_option maxHeartbeats 8000000 in
theorem same_any (r s : Ru) (kv lv : Value) (w : World) (hc : cnt r.cond ≤ 100000) (hl : Lay w kv r.cond.kids) (hm : Lay w lv s.cond.kids) :
    Calls Tryz.prog 13 #[.agg (ruA r kv), .agg (ruA s lv)] w fun e w' => e = .returned (.bool (sameU r s)) ∧ Below w.heap.size w w' := by
  have hb : Below w.heap.size w ((w.alloc (.cells (ruA r kv) 26)).alloc (.cells (ruA s lv) 26)) := ((Below.refl _ _).alloc (Nat.le_refl _) _).alloc (by simp) _
  have HB := Lib.hid hb
  have HC := Lib.hid (same_rec 100000 r.cond s.cond kv lv _ hc (Nat.le_refl _) (hl.later hb) (hm.later hb))
  obtain ⟨A, c, rfl, _⟩ := hl.slice
  obtain ⟨B, d, rfl, _⟩ := hm.slice
  clear hl hm hb hc
  obtain ⟨ra, rk, rc⟩ := r
  obtain ⟨sa, sk, sc⟩ := s
  dsimp only [ruA] at *
  by_cases h1 : ra = sa
  · subst h1
    by_cases h2 : rk = sk
    · subst h2
      have HE := Lib.hid (show sameU ⟨ra, rk, rc⟩ ⟨ra, rk, sc⟩ = sameE rc sc by unfold sameU; rw [decide_eq_true rfl, decide_eq_true rfl, Bool.true_and, Bool.true_and])
      generalize sameE rc sc = bs at *
      go_enter Tryz.func13, Tryz.ntmps13
      go_wp2_with (go_at_call 30; refine HC.out.mono ?_; rintro e w2 ⟨rfl, hb2⟩; have HW2 := Lib.hid (HB.out.trans (hb2.mono HB.out.size)); clear hb2)
      go_ret
      exact ⟨ret_bool HE.out.symm, HW2.out⟩
    · have HE := Lib.hid (show sameU ⟨ra, rk, rc⟩ ⟨ra, sk, sc⟩ = false by unfold sameU; rw [decide_eq_true rfl, decide_eq_false h2, Bool.true_and, Bool.false_and])
      have hnl := bytes_ne h2
      have hnb : (rk.toList == sk.toList) = false := by simpa using hnl
      go_enter Tryz.func13, Tryz.ntmps13
      go_wp2_with fail
      go_ret
      exact ⟨ret_bool HE.out.symm, HB.out⟩
  · have HE := Lib.hid (show sameU ⟨ra, rk, rc⟩ ⟨sa, sk, sc⟩ = false by unfold sameU; rw [decide_eq_false h1, Bool.false_and])
    have hnl := bytes_ne h1
    have hnb : (ra.toList == sa.toList) = false := by simpa using hnl
    go_enter Tryz.func13, Tryz.ntmps13
    go_wp2_with fail
    go_ret
    exact ⟨ret_bool HE.out.symm, HB.out⟩
end Go.Proofs.YtppoeiofdmlpeaaGreatDoor
