/- fleet.right: are the fields of a part right by themselves? fleet.Valid: plain laws. -/
import Derived.Test.YtccnocgmikmonaaGreatDoorU04
namespace Go.Proofs.YtccnocgmikmonaaGreatDoor
open Go Go.RowKit
set_option maxRecDepth 100000 in
theorem amount_any (a b : Int) (w : World) :
    Calls Tryz.prog 101 #[.agg #[.int .i64 a, .int .i64 b]] w fun e w' => e = .returned (.bool (amountB a b)) ∧ Below w.heap.size w w' := by
  unfold amountB
  by_cases h1 : 0 ≤ a
  · by_cases h2 : a ≤ b
    · go_enter Tryz.func101, Tryz.ntmps101
      go_wp2
      go_ret
      exact ⟨ret_bool (by simp [h1, h2]), by go_grown⟩
    · go_enter Tryz.func101, Tryz.ntmps101
      go_wp2
      go_ret
      exact ⟨ret_bool (by simp ; omega), by go_grown⟩
  · go_enter Tryz.func101, Tryz.ntmps101
    go_wp2
    go_ret
    exact ⟨ret_bool (by simp ; omega), by go_grown⟩
set_option maxRecDepth 100000 in
theorem propOk_any (x : Pr) (w : World) (hs : x.short) :
    Calls Tryz.prog 102 #[.agg #[.string x.key, .string x.val]] w fun e w' => e = .returned (.bool (propOk x)) ∧ Below w.heap.size w w' := by
  obtain ⟨key, val⟩ := x
  obtain ⟨h1, h2⟩ := hs
  unfold propOk
  cases hn : nameB key
  · have HN := Lib.hid hn
    clear hn
    go_enter Tryz.func102, Tryz.ntmps102
    go_wp2_with (go_at_call 84; refine (name_any key _ h1).mono ?_; rintro e w2 ⟨rfl, hb2⟩; rw [HN.out]; obtain ⟨hE2, hB2, hz2⟩ := boxed hb2; obtain ⟨hc2, hf2⟩ := hE2.facts)
    go_ret
    exact ⟨rfl, hB2⟩
  · have HN := Lib.hid hn
    clear hn
    cases he : val.toList.isEmpty
    · go_enter Tryz.func102, Tryz.ntmps102
      go_wp2_with (go_at_call 84; refine (name_any key _ h1).mono ?_; rintro e w2 ⟨rfl, hb2⟩; rw [HN.out]; obtain ⟨hE2, hB2, hz2⟩ := boxed hb2; obtain ⟨hc2, hf2⟩ := hE2.facts)
      go_ret
      exact ⟨ret_bool (by simp), hB2⟩
    · go_enter Tryz.func102, Tryz.ntmps102
      go_wp2_with (go_at_call 84; refine (name_any key _ h1).mono ?_; rintro e w2 ⟨rfl, hb2⟩; rw [HN.out]; obtain ⟨hE2, hB2, hz2⟩ := boxed hb2; obtain ⟨hc2, hf2⟩ := hE2.facts)
      go_ret
      exact ⟨ret_bool (by simp), hB2⟩

/-- The test ahead of the loop. -/
def right0 (c : List Kd) (p : Pa) : Bool := (kfind c p.kind).isSome && nameB p.name && (decide (0 ≤ p.made) && (decide (p.made ≤ p.since) && decide (p.since ≤ 40000))) && decide (p.props.length ≤ 60)
theorem right_no {c : List Kd} {p : Pa} (h : right0 c p = false) : rightB c p = false := by
  unfold rightB; unfold right0 at h; rw [h]; rfl
theorem right_prop {c : List Kd} {p : Pa} {k : Nat} (hk : k < p.props.length) (h : propOk (p.props.getD k noPr) = false) : rightB c p = false := by
  have : p.props.all propOk = false := by rw [List.all_eq_false]; exact ⟨_, getD_mem p.props k noPr hk, by rw [h]; decide⟩
  unfold rightB; rw [this]; simp
theorem right_end {c : List Kd} {p : Pa} (h : right0 c p = true) (hp : ∀ x ∈ p.props, propOk x = true) : rightB c p = (sortedB (p.props.map Pr.key) && (amountB p.kl p.kh && (amountB p.cl p.ch && amountB p.dl p.dh))) := by
  have : p.props.all propOk = true := by rw [List.all_eq_true]; exact hp
  unfold rightB; unfold right0 at h; rw [h, this]; simp
set_option maxRecDepth 100000 in
set_option maxHeartbeats 4000000 in
theorem right_any (w0 : World) (cv : Value) (c : List Kd) (name kind into slot : ByteArray) (made since : Int) (gone : Bool) (props : List Pr) (A : Option Addr) (m : Nat) (kl kh cl ch dl dh : Int) (w : World) (hb0 : Below w0.heap.size w0 w) (hv : Cat w0 cv c) (hl : c.length ≤ 100000) (hp : Rd 2 PrR w0 (.slice A props.length m) props)
    (s1 : name.size ≤ maxLen) (s5 : props.length ≤ 100000) (s6 : ∀ x ∈ props, x.short) :
    Calls Tryz.prog 66 #[.agg #[cv], .agg #[.string name, .string kind, .string into, .string slot, .int .i64 made, .int .i64 since, .bool gone, .slice A props.length m, .int .i64 kl, .int .i64 kh, .int .i64 cl, .int .i64 ch, .int .i64 dl, .int .i64 dh]] w fun e w' => e = .returned (.bool (rightB c ⟨name, kind, into, slot, made, since, gone, props, kl, kh, cl, ch, dl, dh⟩)) ∧ Below w.heap.size w w' := by
  obtain ⟨A', cc, rfl, hn⟩ := hv.form
  have HF := Lib.hid (fun W (h : Below w0.heap.size w0 W) => find_any w0 _ c kind W h hv hl)
  have hbb : Below w.heap.size w ((w.alloc (.cells #[.slice A' c.length cc] 60)).alloc (.cells #[.string name, .string kind, .string into, .string slot, .int .i64 made, .int .i64 since, .bool gone, .slice A props.length m, .int .i64 kl, .int .i64 kh, .int .i64 cl, .int .i64 ch, .int .i64 dl, .int .i64 dh] 33)) := ((Below.refl _ _).alloc (Nat.le_refl _) _).alloc (by simp) _
  have hP := Has.new (w.alloc (.cells #[.slice A' c.length cc] 60)) 33 #[.string name, .string kind, .string into, .string slot, .int .i64 made, .int .i64 since, .bool gone, .slice A props.length m, .int .i64 kl, .int .i64 kh, .int .i64 cl, .int .i64 ch, .int .i64 dl, .int .i64 dh]
  simp only [World.size_alloc] at hP
  have HB := Lib.hid (hb0.trans (hbb.mono hb0.size))
  have HBb := Lib.hid hbb
  have HP := Lib.hid hP
  have HX := Lib.hid hp
  have HS6 := Lib.hid s6
  have HB0 := Lib.hid hb0
  have HB0s := hb0.size
  clear hv hbb hP hp s6 hb0
  have hr0 : right0 c ⟨name, kind, into, slot, made, since, gone, props, kl, kh, cl, ch, dl, dh⟩ = ((kfind c kind).isSome && nameB name && (decide (0 ≤ made) && (decide (made ≤ since) && decide (since ≤ 40000))) && decide (props.length ≤ 60)) := rfl
  generalize (kfind c kind).isSome = kb at *
  generalize (kfind c kind).getD noKd = fk at *
  obtain ⟨fn, fv, fs⟩ := fk
  have HNO := Lib.hid (fun h => right_no (c := c) (p := ⟨name, kind, into, slot, made, since, gone, props, kl, kh, cl, ch, dl, dh⟩) h)
  have HR0 := Lib.hid hr0
  clear hr0
  cases kb
  · go_enter Tryz.func66, Tryz.ntmps66
    go_wp2_with (go_at_call 55; refine (HF.out _ HB.out).mono ?_; rintro e w1 ⟨A1, m1, rfl, hr1, hb1⟩; have z1 := hb1.size; have hq := ((HP.out.below hb1 (by simp)).alloc (.cells #[.string fn, .bool fv, .slice A1 fs.length m1] 98)); obtain ⟨p1, p2⟩ := hq.facts; have HQ := Lib.hid hq; have HBx := Lib.hid ((HBb.out.trans (hb1.mono (by simp; omega))).alloc (by simp at z1; omega) (.cells #[.string fn, .bool fv, .slice A1 fs.length m1] 98)); clear hb1 hq hr1)
    go_ret
    exact ⟨ret_bool (HNO.out (by rw [HR0.out]; rfl)).symm, HBx.out⟩
  · cases hnm : nameB name
    · have HN := Lib.hid hnm
      clear hnm
      go_enter Tryz.func66, Tryz.ntmps66
      go_wp2_with (first | (go_at_call 55; refine (HF.out _ HB.out).mono ?_; rintro e w1 ⟨A1, m1, rfl, hr1, hb1⟩; have z1 := hb1.size; have hq := ((HP.out.below hb1 (by simp)).alloc (.cells #[.string fn, .bool fv, .slice A1 fs.length m1] 98)); obtain ⟨p1, p2⟩ := hq.facts; have HQ := Lib.hid hq; have HBx := Lib.hid ((HBb.out.trans (hb1.mono (by simp; omega))).alloc (by simp at z1; omega) (.cells #[.string fn, .bool fv, .slice A1 fs.length m1] 98)); clear hb1 hq hr1) | (go_at_call 84; refine (name_any name _ s1).mono ?_; rintro e w2 ⟨rfl, hb2⟩; rw [HN.out]; have hq2 := HQ.out.below hb2 (by simp at z1 ⊢; omega); obtain ⟨p3, p4⟩ := hq2.facts; have z2 := hb2.size; have HQ2 := Lib.hid hq2; have HBy := Lib.hid (HBx.out.trans (hb2.mono HBx.out.size)); clear hb2 hq2))
      go_ret
      exact ⟨ret_bool (HNO.out (by rw [HR0.out, HN.out]; rfl)).symm, HBy.out⟩
    · have HN := Lib.hid hnm
      clear hnm
      rw [HN.out] at HR0
      by_cases n1 : made < 0
      · go_enter Tryz.func66, Tryz.ntmps66
        go_wp2_with (first | (go_at_call 55; refine (HF.out _ HB.out).mono ?_; rintro e w1 ⟨A1, m1, rfl, hr1, hb1⟩; have z1 := hb1.size; have hq := ((HP.out.below hb1 (by simp)).alloc (.cells #[.string fn, .bool fv, .slice A1 fs.length m1] 98)); obtain ⟨p1, p2⟩ := hq.facts; have HQ := Lib.hid hq; have HBx := Lib.hid ((HBb.out.trans (hb1.mono (by simp; omega))).alloc (by simp at z1; omega) (.cells #[.string fn, .bool fv, .slice A1 fs.length m1] 98)); clear hb1 hq hr1) | (go_at_call 84; refine (name_any name _ s1).mono ?_; rintro e w2 ⟨rfl, hb2⟩; rw [HN.out]; have hq2 := HQ.out.below hb2 (by simp at z1 ⊢; omega); obtain ⟨p3, p4⟩ := hq2.facts; have z2 := hb2.size; have HQ2 := Lib.hid hq2; have HBy := Lib.hid (HBx.out.trans (hb2.mono HBx.out.size)); clear hb2 hq2))
        go_ret
        exact ⟨ret_bool (HNO.out (by rw [HR0.out]; simp; omega)).symm, HBy.out⟩
      · by_cases n2 : since < made
        · go_enter Tryz.func66, Tryz.ntmps66
          go_wp2_with (first | (go_at_call 55; refine (HF.out _ HB.out).mono ?_; rintro e w1 ⟨A1, m1, rfl, hr1, hb1⟩; have z1 := hb1.size; have hq := ((HP.out.below hb1 (by simp)).alloc (.cells #[.string fn, .bool fv, .slice A1 fs.length m1] 98)); obtain ⟨p1, p2⟩ := hq.facts; have HQ := Lib.hid hq; have HBx := Lib.hid ((HBb.out.trans (hb1.mono (by simp; omega))).alloc (by simp at z1; omega) (.cells #[.string fn, .bool fv, .slice A1 fs.length m1] 98)); clear hb1 hq hr1) | (go_at_call 84; refine (name_any name _ s1).mono ?_; rintro e w2 ⟨rfl, hb2⟩; rw [HN.out]; have hq2 := HQ.out.below hb2 (by simp at z1 ⊢; omega); obtain ⟨p3, p4⟩ := hq2.facts; have z2 := hb2.size; have HQ2 := Lib.hid hq2; have HBy := Lib.hid (HBx.out.trans (hb2.mono HBx.out.size)); clear hb2 hq2))
          go_ret
          exact ⟨ret_bool (HNO.out (by rw [HR0.out]; simp; omega)).symm, HBy.out⟩
        · by_cases n3 : 40000 < since
          · go_enter Tryz.func66, Tryz.ntmps66
            go_wp2_with (first | (go_at_call 55; refine (HF.out _ HB.out).mono ?_; rintro e w1 ⟨A1, m1, rfl, hr1, hb1⟩; have z1 := hb1.size; have hq := ((HP.out.below hb1 (by simp)).alloc (.cells #[.string fn, .bool fv, .slice A1 fs.length m1] 98)); obtain ⟨p1, p2⟩ := hq.facts; have HQ := Lib.hid hq; have HBx := Lib.hid ((HBb.out.trans (hb1.mono (by simp; omega))).alloc (by simp at z1; omega) (.cells #[.string fn, .bool fv, .slice A1 fs.length m1] 98)); clear hb1 hq hr1) | (go_at_call 84; refine (name_any name _ s1).mono ?_; rintro e w2 ⟨rfl, hb2⟩; rw [HN.out]; have hq2 := HQ.out.below hb2 (by simp at z1 ⊢; omega); obtain ⟨p3, p4⟩ := hq2.facts; have z2 := hb2.size; have HQ2 := Lib.hid hq2; have HBy := Lib.hid (HBx.out.trans (hb2.mono HBx.out.size)); clear hb2 hq2))
            go_ret
            exact ⟨ret_bool (HNO.out (by rw [HR0.out]; simp; omega)).symm, HBy.out⟩
          · by_cases n4 : 60 < props.length
            · have n4' : (60 : Int) < (props.length : Int) := by omega
              go_enter Tryz.func66, Tryz.ntmps66
              go_wp2_with (first | (go_at_call 55; refine (HF.out _ HB.out).mono ?_; rintro e w1 ⟨A1, m1, rfl, hr1, hb1⟩; have z1 := hb1.size; have hq := ((HP.out.below hb1 (by simp)).alloc (.cells #[.string fn, .bool fv, .slice A1 fs.length m1] 98)); obtain ⟨p1, p2⟩ := hq.facts; have HQ := Lib.hid hq; have HBx := Lib.hid ((HBb.out.trans (hb1.mono (by simp; omega))).alloc (by simp at z1; omega) (.cells #[.string fn, .bool fv, .slice A1 fs.length m1] 98)); clear hb1 hq hr1) | (go_at_call 84; refine (name_any name _ s1).mono ?_; rintro e w2 ⟨rfl, hb2⟩; rw [HN.out]; have hq2 := HQ.out.below hb2 (by simp at z1 ⊢; omega); obtain ⟨p3, p4⟩ := hq2.facts; have z2 := hb2.size; have HQ2 := Lib.hid hq2; have HBy := Lib.hid (HBx.out.trans (hb2.mono HBx.out.size)); clear hb2 hq2))
              go_ret
              exact ⟨ret_bool (HNO.out (by rw [HR0.out]; simp; omega)).symm, HBy.out⟩
            · have n4' : ¬ (60 : Int) < (props.length : Int) := by omega
              have HR1 := Lib.hid (show right0 c ⟨name, kind, into, slot, made, since, gone, props, kl, kh, cl, ch, dl, dh⟩ = true by rw [HR0.out]; simp; omega)
              go_enter Tryz.func66, Tryz.ntmps66
              go_wp2_with (first | (go_at_call 55; refine (HF.out _ HB.out).mono ?_; rintro e w1 ⟨A1, m1, rfl, hr1, hb1⟩; have z1 := hb1.size; have hq := ((HP.out.below hb1 (by simp)).alloc (.cells #[.string fn, .bool fv, .slice A1 fs.length m1] 98)); obtain ⟨p1, p2⟩ := hq.facts; have HQ := Lib.hid hq; have HBx := Lib.hid ((HBb.out.trans (hb1.mono (by simp; omega))).alloc (by simp at z1; omega) (.cells #[.string fn, .bool fv, .slice A1 fs.length m1] 98)); clear hb1 hq hr1) | (go_at_call 84; refine (name_any name _ s1).mono ?_; rintro e w2 ⟨rfl, hb2⟩; rw [HN.out]; have hq2 := HQ.out.below hb2 (by simp at z1 ⊢; omega); obtain ⟨p3, p4⟩ := hq2.facts; have z2 := hb2.size; have HQ2 := Lib.hid hq2; have HBy := Lib.hid (HBx.out.trans (hb2.mono HBx.out.size)); clear hb2 hq2))
              go_loopw [52] (fun i wr => ∃ k : Nat, k ≤ props.length ∧ i = .int .i64 k ∧ Hid (∀ x ∈ props.take k, propOk x = true) ∧ Hid (Has wr (w.heap.size + 1) 33 #[.string name, .string kind, .string into, .string slot, .int .i64 made, .int .i64 since, .bool gone, .slice A props.length m, .int .i64 kl, .int .i64 kh, .int .i64 cl, .int .i64 ch, .int .i64 dl, .int .i64 dh]) ∧ Hid (Below w.heap.size w wr) ∧ w.heap.size + 1 < wr.heap.size) (fun i _ => props.length - (intOf i).toNat)
              case atStart => exact ⟨0, Nat.zero_le _, rfl, fun x hx => by simp at hx, HQ2.out, HBy.out, by simp at z1 z2; omega⟩
              case round =>
                obtain ⟨k, hk, rfl, HT, HPc, HBr, hz⟩ := hrel
                by_cases hlt : k < props.length
                · obtain ⟨b, o, c', cs, he, _, hcs, _, hrg⟩ := HX.out.get hlt noPr
                  injection he with e1 e2 e3
                  subst e1; subst e3
                  unfold PrR at hcs
                  subst hcs
                  have hrg' := range_later hrg (HB0.out.trans (HBr.out.mono HB0s))
                  have hsh := HS6.out _ (getD_mem props k noPr hlt)
                  have hbad := Lib.hid (fun h => right_prop (c := c) (p := ⟨name, kind, into, slot, made, since, gone, props, kl, kh, cl, ch, dl, dh⟩) hlt h)
                  have htake := Lib.hid (take_getD props k noPr hlt)
                  clear hrg
                  change Hid (propOk (props.getD k noPr) = false → _) at hbad
                  generalize props.getD k noPr = x at *
                  obtain ⟨xk, xv⟩ := x
                  replace hrg' : wr.rangeAt b (o + k * 2) [.string xk, .string xv] := hrg'
                  have q0 := hrg' 0 _ rfl
                  have q1 := hrg' 1 _ rfl
                  cases hpo : propOk ⟨xk, xv⟩
                  · have HPO := Lib.hid hpo
                    clear hpo
                    go_wp2_with (first | ((with_reducible show wpList _ _ _ (Oper.mk (some 55) _ _ _ _ _ :: _) _ _); refine wpList_load_mid rfl 65 _ rfl b (o + k * 2) rfl _ _ hrg' Tryz.underlying65 rfl rfl ?_) | (go_at_call 102; refine (propOk_any ⟨xk, xv⟩ _ hsh).mono ?_; rintro e w3 ⟨rfl, hb3⟩; rw [HPO.out]))
                    go_ret
                    exact ⟨ret_bool (hbad.out HPO.out).symm, (HBr.out.alloc HBr.out.size _).trans (hb3.mono (by simp; omega))⟩
                  · have HPO := Lib.hid hpo
                    clear hpo
                    go_wp2_with (first | ((with_reducible show wpList _ _ _ (Oper.mk (some 55) _ _ _ _ _ :: _) _ _); refine wpList_load_mid rfl 65 _ rfl b (o + k * 2) rfl _ _ hrg' Tryz.underlying65 rfl rfl ?_) | (go_at_call 102; refine (propOk_any ⟨xk, xv⟩ _ hsh).mono ?_; rintro e w3 ⟨rfl, hb3⟩; rw [HPO.out]))
                    go_roundw
                    case rel => exact ⟨k + 1, by omega, by go_num, (by
                      intro y hy
                      rw [htake.out, List.mem_append, List.mem_singleton] at hy
                      rcases hy with hy | rfl
                      · exact HT.out y hy
                      · exact HPO.out), (HPc.out.alloc _).below hb3 (by simp; omega), (HBr.out.alloc HBr.out.size _).trans (hb3.mono (by simp; omega)), by have := hb3.size; simp at this; omega⟩
                    case measure => simp [intOf]; omega
                · obtain rfl : k = props.length := by omega
                  have hend := Lib.hid (right_end HR1.out (by have := HT.out; rwa [List.take_length] at this))
                  obtain ⟨p5, p6⟩ := HPc.out.facts
                  have HBc := Lib.hid (HB0.out.trans (HBr.out.mono HB0s))
                  change Hid (_ = (sortedB (props.map Pr.key) && (amountB kl kh && (amountB cl ch && amountB dl dh)))) at hend
                  cases hso : sortedB (props.map Pr.key)
                  · have HSO := Lib.hid hso
                    have HA1 := Lib.hid (True.intro)
                    clear hso
                    go_wp2_with (first | (go_at_call 103; refine (orderedX_any _ props _ (HX.out.below PrR.stays HBc.out) s5).mono ?_; rintro e w4 ⟨rfl, hb4⟩; rw [HSO.out]; have q4 := HPc.out.below hb4 hz; obtain ⟨p7, p8⟩ := q4.facts; have z4 := hb4.size; have HCur := Lib.hid q4; have HBcur := Lib.hid (HBr.out.trans (hb4.mono HBr.out.size)); have HZ := Lib.hid (show w.heap.size + 1 < w4.heap.size by omega); clear hb4 q4) | (go_at_call 101; refine (amount_any _ _ _).mono ?_; rintro e w5 ⟨rfl, hb5⟩; (first | skip); have q5 := HCur.out.below hb5 HZ.out; obtain ⟨p9, p10⟩ := q5.facts; have z5 := hb5.size; have HCur := Lib.hid q5; have HBcur := Lib.hid (HBcur.out.trans (hb5.mono HBcur.out.size)); have HZ := Lib.hid (show w.heap.size + 1 < w5.heap.size by have := HZ.out; omega); clear hb5 q5))
                    go_ret
                    exact ⟨ret_bool (by rw [hend.out, HSO.out]; rfl), HBcur.out⟩
                  · have HSO := Lib.hid hso
                    clear hso
                    cases ha1 : amountB kl kh
                    · have HA1 := Lib.hid ha1
                      clear ha1
                      go_wp2_with (first | (go_at_call 103; refine (orderedX_any _ props _ (HX.out.below PrR.stays HBc.out) s5).mono ?_; rintro e w4 ⟨rfl, hb4⟩; rw [HSO.out]; have q4 := HPc.out.below hb4 hz; obtain ⟨p7, p8⟩ := q4.facts; have z4 := hb4.size; have HCur := Lib.hid q4; have HBcur := Lib.hid (HBr.out.trans (hb4.mono HBr.out.size)); have HZ := Lib.hid (show w.heap.size + 1 < w4.heap.size by omega); clear hb4 q4) | (go_at_call 101; refine (amount_any _ _ _).mono ?_; rintro e w5 ⟨rfl, hb5⟩; (first | rw [HA1.out] | skip); have q5 := HCur.out.below hb5 HZ.out; obtain ⟨p9, p10⟩ := q5.facts; have z5 := hb5.size; have HCur := Lib.hid q5; have HBcur := Lib.hid (HBcur.out.trans (hb5.mono HBcur.out.size)); have HZ := Lib.hid (show w.heap.size + 1 < w5.heap.size by have := HZ.out; omega); clear hb5 q5))
                      go_ret
                      exact ⟨ret_bool (by rw [hend.out, HSO.out, HA1.out]; rfl), HBcur.out⟩
                    · have HA1 := Lib.hid ha1
                      clear ha1
                      cases ha2 : amountB cl ch
                      · have HA2 := Lib.hid ha2
                        clear ha2
                        go_wp2_with (first | (go_at_call 103; refine (orderedX_any _ props _ (HX.out.below PrR.stays HBc.out) s5).mono ?_; rintro e w4 ⟨rfl, hb4⟩; rw [HSO.out]; have q4 := HPc.out.below hb4 hz; obtain ⟨p7, p8⟩ := q4.facts; have z4 := hb4.size; have HCur := Lib.hid q4; have HBcur := Lib.hid (HBr.out.trans (hb4.mono HBr.out.size)); have HZ := Lib.hid (show w.heap.size + 1 < w4.heap.size by omega); clear hb4 q4) | (go_at_call 101; refine (amount_any _ _ _).mono ?_; rintro e w5 ⟨rfl, hb5⟩; (first | rw [HA1.out] | rw [HA2.out] | skip); have q5 := HCur.out.below hb5 HZ.out; obtain ⟨p9, p10⟩ := q5.facts; have z5 := hb5.size; have HCur := Lib.hid q5; have HBcur := Lib.hid (HBcur.out.trans (hb5.mono HBcur.out.size)); have HZ := Lib.hid (show w.heap.size + 1 < w5.heap.size by have := HZ.out; omega); clear hb5 q5))
                        go_ret
                        exact ⟨ret_bool (by rw [hend.out, HSO.out, HA1.out, HA2.out]; rfl), HBcur.out⟩
                      · have HA2 := Lib.hid ha2
                        clear ha2
                        go_wp2_with (first | (go_at_call 103; refine (orderedX_any _ props _ (HX.out.below PrR.stays HBc.out) s5).mono ?_; rintro e w4 ⟨rfl, hb4⟩; rw [HSO.out]; have q4 := HPc.out.below hb4 hz; obtain ⟨p7, p8⟩ := q4.facts; have z4 := hb4.size; have HCur := Lib.hid q4; have HBcur := Lib.hid (HBr.out.trans (hb4.mono HBr.out.size)); have HZ := Lib.hid (show w.heap.size + 1 < w4.heap.size by omega); clear hb4 q4) | (go_at_call 101; refine (amount_any _ _ _).mono ?_; rintro e w5 ⟨rfl, hb5⟩; (first | rw [HA1.out] | rw [HA2.out] | skip); have q5 := HCur.out.below hb5 HZ.out; obtain ⟨p9, p10⟩ := q5.facts; have z5 := hb5.size; have HCur := Lib.hid q5; have HBcur := Lib.hid (HBcur.out.trans (hb5.mono HBcur.out.size)); have HZ := Lib.hid (show w.heap.size + 1 < w5.heap.size by have := HZ.out; omega); clear hb5 q5))
                        go_ret
                        exact ⟨ret_bool (by rw [hend.out, HSO.out, HA1.out, HA2.out]; rfl), HBcur.out⟩
end Go.Proofs.YtccnocgmikmonaaGreatDoor
namespace Go.Proofs.YtccnocgmikmonaaGreatDoor
open Go Go.RowKit
theorem emp_iff (x : ByteArray) : x.toList.isEmpty = decide (x = eS) := by
  rw [isEmpty_size, Bool.eq_iff_iff, decide_eq_true_iff, decide_eq_true_iff]
  constructor
  · intro h
    cases x with
    | mk d =>
      have : d.size = 0 := h
      have : d = #[] := Array.eq_empty_of_size_eq_zero this
      rw [this]; rfl
  · rintro rfl; rfl
theorem valid_head {c : List Kd} {l : List Pa} (h : catB c = false ∨ 20000 < l.length ∨ sortedB (l.map Pa.name) = false) : validB c l = false := by
  unfold validB
  rcases h with h | h | h
  · rw [h]; rfl
  · have : decide (l.length ≤ 20000) = false := decide_eq_false (by omega)
    rw [this]; simp
  · rw [h]; simp
theorem valid_part {c : List Kd} {l : List Pa} {k : Nat} (hk : k < l.length) (h : partOk c l (l.getD k noPa) = false) : validB c l = false := by
  have : okTo c l l.length = false := by
    unfold okTo
    rw [List.take_length]
    have : l.all (partOk c l) = false := by rw [List.all_eq_false]; exact ⟨_, getD_mem l k noPa hk, by rw [h]; decide⟩
    rw [this]; rfl
  unfold validB; rw [this]; simp
theorem seats_step (l : List Pa) (k : Nat) (hk : k < l.length) : seats (l.take (k + 1)) = seats (l.take k) ++ (if (l.getD k noPa).into = eS then [] else [seatOf (l.getD k noPa)]) := by
  unfold seats
  rw [take_getD l k noPa hk, List.filter_append, List.map_append]
  congr 1
  by_cases h : (l.getD k noPa).into = eS
  · rw [if_pos h, List.filter_cons]; simp only [h, decide_true, Bool.not_true]; rfl
  · rw [if_neg h, List.filter_cons]; simp only [h, decide_false, Bool.not_false]; rfl
theorem valid_seat {c : List Kd} {l : List Pa} {k : Nat} (hk : k < l.length) (hi : ¬ (l.getD k noPa).into = eS) (h : seatOf (l.getD k noPa) ∈ seats (l.take k)) : validB c l = false := by
  have : okTo c l l.length = false := by
    unfold okTo
    rw [List.take_length]
    have : ¬ (seats l).Nodup := fun hn => by
      have h2 : (seats (l.take (k + 1))).Nodup := hn.sublist (((List.take_sublist _ _).filter _).map _)
      rw [seats_step l k hk, if_neg hi, List.nodup_append] at h2
      exact h2.2.2 _ h _ (by simp) rfl
    simp [this]
  unfold validB; rw [this]; simp
theorem okTo_step {c : List Kd} {l : List Pa} {k : Nat} (h : okTo c l k = true) (hk : k < l.length) (hp : partOk c l (l.getD k noPa) = true) (hs : (l.getD k noPa).into = eS ∨ ¬ seatOf (l.getD k noPa) ∈ seats (l.take k)) : okTo c l (k + 1) = true := by
  unfold okTo at *
  rw [Bool.and_eq_true, decide_eq_true_iff] at *
  rw [take_getD l k noPa hk, List.all_append, h.1]
  refine ⟨by simp only [List.all_cons, List.all_nil, hp, Bool.and_true], ?_⟩
  rw [← take_getD l k noPa hk, seats_step l k hk]
  split
  · rw [List.append_nil]; exact h.2
  · rename_i hi
    rw [List.nodup_append]
    exact ⟨h.2, by simp, fun a ha b hb => by simp at hb; subst hb; intro e; subst e; exact (hs.resolve_left hi) ha⟩
theorem placeOk_eq (c : List Kd) (l : List Pa) (p : Pa) : placeOk c l p = ((pfind l p.into).isSome && (!p.gone && (!((pfind l p.into).getD noPa).gone && takesB c ((pfind l p.into).getD noPa).kind p.slot p.kind))) := by
  unfold placeOk
  cases pfind l p.into <;> rfl
theorem valid_good {c : List Kd} {l : List Pa} (h1 : catB c = true) (h2 : l.length ≤ 20000) (h3 : sortedB (l.map Pa.name) = true) (h4 : okTo c l l.length = true) : validB c l = true := by
  unfold validB; rw [h1, h3, h4, decide_eq_true h2]; rfl
end Go.Proofs.YtccnocgmikmonaaGreatDoor
