/- bogielaw20.RuleBegins answers true. Condition: the table of powers of ten, and the error variables; the texts fit. -/
import Derived.Test.YtppoeiofdmlpeaaDoorZBa
import Derived.Test.YtppoeiofdmlpeaaDoorZGx
namespace Go.Proofs.YtppoeiofdmlpeaaDoor
open Go Go.RowKit
set_option maxRecDepth 100000 in
set_option maxHeartbeats 8000000 in
theorem begins_big1 (w0 : World) (ht : Tab w0) (hv : Evs w0) (tx more : ByteArray) (w : World) (hb0 : Below w0.heap.size w0 w) (htm : tx.size ≤ maxLen) (hbig : 1500 < tx.size) :
    Calls Tryd.prog 4 #[.string tx, .string more] w fun e w' => e = .returned (.bool true) ∧ Below w.heap.size w w' := by
  have hsz0 := hb0.size
  have HHD := Lib.hid (fun W (hb : Below w.heap.size w W) => head_any w0 W ht hv (hb0.trans (hb.mono hsz0)))
  have HLX := Lib.hid (fun W => lex_any tx W htm)
  have hbi : (1500 : Int) < (tx.size : Int) := by omega
  clear HLX
  (try dsimp only [ruA] at *)
  clear hb0 ht hv
  go_enter Tryd.func4, Tryd.ntmps4
  go_wp2_with (first
    | (go_at_call 5; refine (HHD.out _ (Below.refl _ _)).mono ?_; rintro e w1 ⟨rfl, hb⟩; have HB1 := Lib.hid hb; clear hb))
  go_ret
  exact ⟨rfl, HB1.out⟩
set_option maxRecDepth 100000 in
set_option maxHeartbeats 8000000 in
theorem begins_big2 (w0 : World) (ht : Tab w0) (hv : Evs w0) (tx more : ByteArray) (w : World) (hb0 : Below w0.heap.size w0 w) (htm : tx.size ≤ maxLen) (hs : tx.size ≤ 1500) (hbig : 1500 < more.size) :
    Calls Tryd.prog 4 #[.string tx, .string more] w fun e w' => e = .returned (.bool true) ∧ Below w.heap.size w w' := by
  have hsz0 := hb0.size
  have HHD := Lib.hid (fun W (hb : Below w.heap.size w W) => head_any w0 W ht hv (hb0.trans (hb.mono hsz0)))
  have HLX := Lib.hid (fun W => lex_any tx W htm)
  have hbi : ¬ (1500 : Int) < (tx.size : Int) := by omega
  have hbj : (1500 : Int) < (more.size : Int) := by omega
  clear HLX
  (try dsimp only [ruA] at *)
  clear hb0 ht hv
  go_enter Tryd.func4, Tryd.ntmps4
  go_wp2_with (first
    | (go_at_call 5; refine (HHD.out _ (Below.refl _ _)).mono ?_; rintro e w1 ⟨rfl, hb⟩; have HB1 := Lib.hid hb; clear hb))
  go_ret
  exact ⟨rfl, HB1.out⟩
set_option maxRecDepth 100000 in
set_option maxHeartbeats 8000000 in
theorem begins_o1 (w0 : World) (ht : Tab w0) (hv : Evs w0) (tx more : ByteArray) (w : World) (hb0 : Below w0.heap.size w0 w) (htm : tx.size ≤ maxLen) (hs : tx.size ≤ 1500) (hms : more.size ≤ 1500) (he : (lexL tx).2.1 ≠ 0) :
    Calls Tryd.prog 4 #[.string tx, .string more] w fun e w' => e = .returned (.bool true) ∧ Below w.heap.size w w' := by
  have hsz0 := hb0.size
  have HHD := Lib.hid (fun W (hb : Below w.heap.size w W) => head_any w0 W ht hv (hb0.trans (hb.mono hsz0)))
  have HLX := Lib.hid (fun W => lex_any tx W htm)
  have hbi : ¬ (1500 : Int) < (tx.size : Int) := by omega
  have hbj : ¬ (1500 : Int) < (more.size : Int) := by omega
  have hp : parseU tx = ((parseU tx).1, (parseU tx).2.1, (parseU tx).2.2) := rfl
  obtain ⟨y1, hy⟩ : ∃ y, (parseU tx).1 = y := ⟨_, rfl⟩
  rw [hy] at hp
  have HPT := Lib.hid (fun W (hb : Below w.heap.size w W) => parse_isS hp (by omega) w0 W hv (hb0.trans (hb.mono hsz0)))
  have hlow := parseU_low (s := tx)
  have hpe : (parseU tx).2.1 = (lexL tx).2.1 := by unfold parseU; rw [if_pos he]
  have hfe : (parseU tx).2.1 ≠ 0 := by rw [hpe]; exact he
  have ha2 := (parseU_bad hfe).2
  have hfb : ((parseU tx).2.1 == 0) = false := by simpa using hfe
  have heb : ((lexL tx).2.1 != 0) = true := by simpa using he
  clear hpe
  generalize (parseU tx).2.1 = pf at *
  generalize (parseU tx).2.2 = pa at *
  generalize lexL tx = L at *
  have ha1 : (-1 : Int) ≤ pa := hlow
  clear hp hy hlow
  (try dsimp only [ruA] at *)
  clear hb0 ht hv
  go_enter Tryd.func4, Tryd.ntmps4
  go_wp2_with (first
    | (go_at_call 5; refine (HHD.out _ (Below.refl _ _)).mono ?_; rintro e w1 ⟨rfl, hb⟩; have HB1 := Lib.hid hb; clear hb)
    | (go_at_call 6; (refine (HLX.out _).mono ?_; rintro e w2 ⟨vt, rfl, hown, hb⟩; obtain ⟨At, ct, rfl⟩ := own_val hown; have HB2 := Lib.hid (HB1.out.trans (hb.mono HB1.out.size)); clear hb hown))
    | (go_at_call 7; ((with_reducible show Calls _ _ #[.string tx] _ _); refine (HPT.out _ HB2.out).mono ?_; rintro e w3 ⟨k1, rfl, hl, hb⟩; obtain ⟨A1, c1, rfl, _⟩ := hl.slice; have HB3 := Lib.hid ((HB2.out.trans (hb.mono HB2.out.size)).alloc (Nat.le_trans HB2.out.size hb.size) (.cells #[.string y1.name, .string y1.kind, .int .i64 y1.cond.op, .string y1.cond.name, .string y1.cond.value, .int .i64 y1.cond.n, .int .i64 y1.cond.extra, .slice A1 y1.cond.kids.length c1] 31)); clear hb hl)))
  go_ret
  exact ⟨rfl, HB3.out⟩
set_option maxRecDepth 100000 in
set_option maxHeartbeats 8000000 in
theorem begins_o2 (w0 : World) (ht : Tab w0) (hv : Evs w0) (tx more : ByteArray) (w : World) (hb0 : Below w0.heap.size w0 w) (htm : tx.size ≤ maxLen) (hs : tx.size ≤ 1500) (hms : more.size ≤ 1500) (he : (lexL tx).2.1 = 0) (h8 : (parseU tx).2.1 ≠ 8) (h13 : (parseU tx).2.1 ≠ 13) (hfe : (parseU tx).2.1 ≠ 0) :
    Calls Tryd.prog 4 #[.string tx, .string more] w fun e w' => e = .returned (.bool true) ∧ Below w.heap.size w w' := by
  have hsz0 := hb0.size
  have HHD := Lib.hid (fun W (hb : Below w.heap.size w W) => head_any w0 W ht hv (hb0.trans (hb.mono hsz0)))
  have HLX := Lib.hid (fun W => lex_any tx W htm)
  have hbi : ¬ (1500 : Int) < (tx.size : Int) := by omega
  have hbj : ¬ (1500 : Int) < (more.size : Int) := by omega
  have hp : parseU tx = ((parseU tx).1, (parseU tx).2.1, (parseU tx).2.2) := rfl
  obtain ⟨y1, hy⟩ : ∃ y, (parseU tx).1 = y := ⟨_, rfl⟩
  rw [hy] at hp
  have HPT := Lib.hid (fun W (hb : Below w.heap.size w W) => parse_isS hp (by omega) w0 W hv (hb0.trans (hb.mono hsz0)))
  have hlow := parseU_low (s := tx)
  have ha2 := (parseU_bad hfe).2
  have hfb : ((parseU tx).2.1 == 0) = false := by simpa using hfe
  have h8b : ((parseU tx).2.1 != 8) = true := by simpa using h8
  have h13b : ((parseU tx).2.1 != 13) = true := by simpa using h13
  generalize (parseU tx).2.1 = pf at *
  generalize (parseU tx).2.2 = pa at *
  generalize lexL tx = L at *
  have ha1 : (-1 : Int) ≤ pa := hlow
  clear hp hy hlow
  (try dsimp only [ruA] at *)
  clear hb0 ht hv
  go_enter Tryd.func4, Tryd.ntmps4
  go_wp2_with (first
    | (go_at_call 5; refine (HHD.out _ (Below.refl _ _)).mono ?_; rintro e w1 ⟨rfl, hb⟩; have HB1 := Lib.hid hb; clear hb)
    | (go_at_call 6; (refine (HLX.out _).mono ?_; rintro e w2 ⟨vt, rfl, hown, hb⟩; obtain ⟨At, ct, rfl⟩ := own_val hown; have HB2 := Lib.hid (HB1.out.trans (hb.mono HB1.out.size)); clear hb hown))
    | (go_at_call 7; ((with_reducible show Calls _ _ #[.string tx] _ _); refine (HPT.out _ HB2.out).mono ?_; rintro e w3 ⟨k1, rfl, hl, hb⟩; obtain ⟨A1, c1, rfl, _⟩ := hl.slice; have HB3 := Lib.hid ((HB2.out.trans (hb.mono HB2.out.size)).alloc (Nat.le_trans HB2.out.size hb.size) (.cells #[.string y1.name, .string y1.kind, .int .i64 y1.cond.op, .string y1.cond.name, .string y1.cond.value, .int .i64 y1.cond.n, .int .i64 y1.cond.extra, .slice A1 y1.cond.kids.length c1] 31)); clear hb hl)))
  go_ret
  exact ⟨rfl, HB3.out⟩
set_option maxRecDepth 100000 in
set_option maxHeartbeats 8000000 in
theorem begins_o3 (w0 : World) (ht : Tab w0) (hv : Evs w0) (tx more : ByteArray) (w : World) (hb0 : Below w0.heap.size w0 w) (htm : tx.size ≤ maxLen) (hs : tx.size ≤ 1500) (hms : more.size ≤ 1500) (he : (lexL tx).2.1 = 0) (hfe : (parseU tx).2.1 = 0) :
    Calls Tryd.prog 4 #[.string tx, .string more] w fun e w' => e = .returned (.bool true) ∧ Below w.heap.size w w' := by
  have hsz0 := hb0.size
  have HHD := Lib.hid (fun W (hb : Below w.heap.size w W) => head_any w0 W ht hv (hb0.trans (hb.mono hsz0)))
  have HLX := Lib.hid (fun W => lex_any tx W htm)
  have hbi : ¬ (1500 : Int) < (tx.size : Int) := by omega
  have hbj : ¬ (1500 : Int) < (more.size : Int) := by omega
  have hp : parseU tx = ((parseU tx).1, (parseU tx).2.1, (parseU tx).2.2) := rfl
  obtain ⟨y1, hy⟩ : ∃ y, (parseU tx).1 = y := ⟨_, rfl⟩
  rw [hy] at hp
  have HPT := Lib.hid (fun W (hb : Below w.heap.size w W) => parse_isS hp (by omega) w0 W hv (hb0.trans (hb.mono hsz0)))
  have hlow := parseU_low (s := tx)
  rw [hfe] at hp HPT
  generalize (parseU tx).2.2 = pa at *
  generalize lexL tx = L at *
  have ha1 : (-1 : Int) ≤ pa := hlow
  clear hp hy hlow
  (try dsimp only [ruA] at *)
  clear hb0 ht hv
  go_enter Tryd.func4, Tryd.ntmps4
  go_wp2_with (first
    | (go_at_call 5; refine (HHD.out _ (Below.refl _ _)).mono ?_; rintro e w1 ⟨rfl, hb⟩; have HB1 := Lib.hid hb; clear hb)
    | (go_at_call 6; (refine (HLX.out _).mono ?_; rintro e w2 ⟨vt, rfl, hown, hb⟩; obtain ⟨At, ct, rfl⟩ := own_val hown; have HB2 := Lib.hid (HB1.out.trans (hb.mono HB1.out.size)); clear hb hown))
    | (go_at_call 7; ((with_reducible show Calls _ _ #[.string tx] _ _); refine (HPT.out _ HB2.out).mono ?_; rintro e w3 ⟨k1, rfl, hl, hb⟩; obtain ⟨A1, c1, rfl, _⟩ := hl.slice; have HB3 := Lib.hid ((HB2.out.trans (hb.mono HB2.out.size)).alloc (Nat.le_trans HB2.out.size hb.size) (.cells #[.string y1.name, .string y1.kind, .int .i64 y1.cond.op, .string y1.cond.name, .string y1.cond.value, .int .i64 y1.cond.n, .int .i64 y1.cond.extra, .slice A1 y1.cond.kids.length c1] 31)); clear hb hl)))
  go_ret
  exact ⟨rfl, HB3.out⟩
set_option maxRecDepth 100000 in
set_option maxHeartbeats 8000000 in
theorem begins_i8 (w0 : World) (ht : Tab w0) (hv : Evs w0) (tx more : ByteArray) (w : World) (hb0 : Below w0.heap.size w0 w) (htm : tx.size ≤ maxLen) (hs : tx.size ≤ 1500) (hms : more.size ≤ 1500) (he : (lexL tx).2.1 = 0) (hf : (parseU tx).2.1 = 8) :
    Calls Tryd.prog 4 #[.string tx, .string more] w fun e w' => e = .returned (.bool true) ∧ Below w.heap.size w w' := by
  have hsz0 := hb0.size
  have HHD := Lib.hid (fun W (hb : Below w.heap.size w W) => head_any w0 W ht hv (hb0.trans (hb.mono hsz0)))
  have HLX := Lib.hid (fun W => lex_any tx W htm)
  have hbi : ¬ (1500 : Int) < (tx.size : Int) := by omega
  have hbj : ¬ (1500 : Int) < (more.size : Int) := by omega
  obtain ⟨p, t, q, a, en, hl, hpa, hta, hal, hne, hel, hpp, hqq, hg, hk⟩ := begins_plain hs he (.inl hf)
  have hp : parseU tx = ((parseU tx).1, 8, (a : Int)) := Prod.ext rfl (Prod.ext hf hpa)
  obtain ⟨y1, hy1⟩ : ∃ y, (parseU tx).1 = y := ⟨_, rfl⟩
  rw [hy1] at hp
  have HPT := Lib.hid (fun W (hb : Below w.heap.size w W) => parse_isS hp (by omega) w0 W hv (hb0.trans (hb.mono hsz0)))
  have hxs : (tx.extract 0 a).size = a := cut_size (s := tx) (i := 0) (j := a) hal (by omega)
  have hxe : (tx.extract 0 en).size = en := cut_size (s := tx) (i := 0) (j := en) hel (by omega)
  have hp2 : parseU (tx.extract 0 a) = ((parseU (tx.extract 0 a)).1, (parseU (tx.extract 0 a)).2.1, (parseU (tx.extract 0 a)).2.2) := rfl
  obtain ⟨y2, hy2⟩ : ∃ y, (parseU (tx.extract 0 a)).1 = y := ⟨_, rfl⟩
  rw [hy2] at hp2
  have HP2 := Lib.hid (fun W (hb : Below w.heap.size w W) => parse_isS hp2 (by omega) w0 W hv (hb0.trans (hb.mono hsz0)))
  obtain ⟨s2, hs2⟩ : ∃ s, tx.extract 0 en ++ ⟨#[10]⟩ ++ more = s := ⟨_, rfl⟩
  have hz2 : s2.size ≤ 4000 := by rw [← hs2, size_app, size_app]; show (tx.extract 0 en).size + 1 + _ ≤ _; omega
  have hk2 := hk more hms
  rw [hs2, hf] at hk2
  have HLX2 := Lib.hid (fun W => lex_any s2 W (by unfold maxLen; omega))
  have hp3 : parseU s2 = ((parseU s2).1, (parseU s2).2.1, (parseU s2).2.2) := rfl
  obtain ⟨y3, hy3⟩ : ∃ y, (parseU s2).1 = y := ⟨_, rfl⟩
  rw [hy3] at hp3
  have HP3 := Lib.hid (fun W (hb : Below w.heap.size w W) => parse_isS hp3 (by omega) w0 W hv (hb0.trans (hb.mono hsz0)))
  rw [show lexL tx = ((lexL tx).1, 0, (lexL tx).2.2) from Prod.ext rfl (Prod.ext he rfl)] at HLX
  have hlen := (lexL_wf he).2
  have HG := Lib.hid hg
  have HK := Lib.hid hk2
  have HS2 := Lib.hid hs2
  generalize (parseU (tx.extract 0 a)).2.1 = g2 at *
  generalize (parseU (tx.extract 0 a)).2.2 = ga at *
  generalize (parseU s2).2.1 = g3 at *
  generalize (parseU s2).2.2 = gb at *
  generalize (lexL tx).2.2 = la at *
  generalize (lexL s2).2.1 = e2 at *
  generalize (lexL s2).2.2 = la2 at *
  have HLE := Lib.hid hl
  generalize (lexL tx).1 = l at *
  have hln : l.length = p.length + (q.length + 1) := by rw [hl, List.length_append, List.length_cons]
  have HNE := Lib.hid (show l ≠ [] from fun h => by rw [h] at hln; simp at hln)
  have HPP := Lib.hid (fun (k : Nat) (h : k < l.length) => show (k < p.length → (l[k]).pos ≠ (a : Int)) ∧ (k = p.length → (l[k]).pos = (a : Int)) ∧ (p.length < k → (l[k]).pos ≠ (a : Int)) ∧ (k = p.length + 1 → nextPos tx.size q = (l[k]).pos) by
    subst hl
    refine ⟨fun h1 => ?_, fun h1 => ?_, fun h1 => ?_, fun h1 => ?_⟩
    · rw [List.getElem_append_left h1]; exact hpp _ (List.getElem_mem h1)
    · subst h1; rw [List.getElem_append_right (Nat.le_refl _)]; simpa using hta
    · rw [List.getElem_append_right (by omega)]
      obtain ⟨j, hj⟩ : ∃ j, k - p.length = j + 1 := ⟨k - p.length - 1, by omega⟩
      simp only [hj, List.getElem_cons_succ]
      exact hqq _ (List.getElem_mem _)
    · subst h1
      rw [List.getElem_append_right (by omega)]
      have e : p.length + 1 - p.length = 0 + 1 := by omega
      simp only [e, List.getElem_cons_succ]
      cases q with
      | nil => simp at h
      | cons u q => rfl)
  have HNX := Lib.hid (fun (h : l.length = p.length + 1) => show (tx.size : Int) = (en : Int) by
    have : q = [] := List.eq_nil_of_length_eq_zero (by omega)
    rw [this] at hne
    exact hne)
  have HEN := Lib.hid hne
  have hai : ¬ (a : Int) < 0 := by omega
  have hai2 : ¬ (tx.size : Int) < (a : Int) := by omega
  have haz : (0 : Int) ≤ (a : Int) := by omega
  have haz2 : (a : Int) ≤ (tx.size : Int) := by omega
  have hez : ¬ (en : Int) < 0 := by omega
  have hez1 : (0 : Int) ≤ (en : Int) := by omega
  have hez2 : (en : Int) ≤ (tx.size : Int) := by omega
  obtain ⟨np, hnp⟩ : ∃ n, p.length = n := ⟨_, rfl⟩
  rw [hnp] at hln HPP HNX
  have m1 : ¬ 9223372036854775807 < en + 1 := by omega
  have m2 : ¬ 9223372036854775807 < en + 1 + more.size := by omega
  have HLN := Lib.hid (show np < l.length ∧ l.length ≤ 2000 by omega)
  obtain ⟨lc, hlc⟩ : ∃ n, l.length = n := ⟨_, rfl⟩
  clear hl hpp hqq hg hk hk2 hne hp hp2 hp3 hy1 hy2 hy3 hs2 hf he hln hnp hlen hta hpa hlc
  (try dsimp only [ruA] at *)
  clear hb0 ht hv
  go_enter Tryd.func4, Tryd.ntmps4
  go_wp2_with (first
    | (go_at_call 5; refine (HHD.out _ (Below.refl _ _)).mono ?_; rintro e w1 ⟨rfl, hb⟩; have HB1 := Lib.hid hb; clear hb)
    | (go_at_call 6; (refine (HLX.out _).mono ?_; rintro e w2 ⟨vt, rfl, hown, hb⟩; obtain ⟨htk, hne⟩ := toks_own hown; have HT2 := Lib.hid (htk); obtain ⟨tk, ct, rfl, hct⟩ := hne HNE.out; clear htk hne; have HB2 := Lib.hid (HB1.out.trans (hb.mono HB1.out.size)); clear hb hown))
    | (go_at_call 7; ((with_reducible show Calls _ _ #[.string tx] _ _); refine (HPT.out _ HB2.out).mono ?_; rintro e w3 ⟨k1, rfl, hl, hb⟩; obtain ⟨A1, c1, rfl, _⟩ := hl.slice; have HB3 := Lib.hid ((HB2.out.trans (hb.mono HB2.out.size)).alloc (Nat.le_trans HB2.out.size hb.size) (.cells #[.string y1.name, .string y1.kind, .int .i64 y1.cond.op, .string y1.cond.name, .string y1.cond.value, .int .i64 y1.cond.n, .int .i64 y1.cond.extra, .slice A1 y1.cond.kids.length c1] 31)); have HT3 := Lib.hid ((HT2.out.later hb).later ((Below.refl _ _).alloc (Nat.le_refl _) (.cells #[.string y1.name, .string y1.kind, .int .i64 y1.cond.op, .string y1.cond.name, .string y1.cond.value, .int .i64 y1.cond.n, .int .i64 y1.cond.extra, .slice A1 y1.cond.kids.length c1] 31))); clear hb hl)))
  go_loopw [12, 13] (fun v i wq => ∃ (k : Nat) (ev : Int), i = .int .i64 k ∧ v = .int .i64 ev ∧ k ≤ l.length ∧ Hid (ev = if np < k then (en : Int) else -1) ∧ Hid (Below w.heap.size w wq) ∧ Hid (TokS wq (.slice (some ⟨tk, 0, none⟩) l.length ct) l)) (fun _ i _ => l.length - (intOf i).toNat)
  case atStart => exact ⟨0, -1, rfl, rfl, Nat.zero_le _, (if_neg (Nat.not_lt_zero _)).symm, HB3.out, HT3.out⟩
  case round =>
    obtain ⟨k, ev, rfl, rfl, hk, HEV, HBr, HTr⟩ := hrel
    clear HT2 HT3
    by_cases hlt : k < l.length
    · have hki : (k : Int) < (l.length : Int) := by omega
      have hs3 : IntKind.i64.wrap ((k : Int) + 1) = (k : Int) + 1 := IntWalk.i64_in _ (by have := HLN.out.2; omega)
      obtain ⟨A2, c2, e2', hc2, h3⟩ := HTr.out
      injection e2' with e2' _ e3'
      subst e2'
      subst e3'
      rcases h3 with h3 | ⟨b', o', hbo, h3⟩
      · exact absurd h3 HNE.out
      injection hbo with hbo
      injection hbo with hb1 hb2 _
      subst hb1
      subst hb2
      obtain ⟨_, _, hc0⟩ := h3 k hlt
      simp only [Nat.zero_add] at hc0
      obtain ⟨q1, q2, q3, _⟩ := HPP.out k hlt
      rcases Nat.lt_trichotomy k np with hkp | hkp | hkp
      · have hne := q1 hkp
        have hnb : ((l[k]).pos == (a : Int)) = false := by simpa using hne
        generalize (l[k]).pos = kp at *
        have HEV2 := Lib.hid (show ev = if np < k + 1 then (en : Int) else -1 by rw [HEV.out, if_neg (by omega), if_neg (by omega)])
        clear h3 q1 q2 q3
        go_wp2_with fail
        go_roundw
        case rel => exact ⟨k + 1, ev, by go_num, rfl, hlt, HEV2, HBr, HTr⟩
        case measure => simp [intOf]; omega
      · have hpe := q2 hkp
        rw [hpe] at hc0
        subst hkp
        by_cases hnx : k + 1 < l.length
        · have hni : (k : Int) + 1 < (l.length : Int) := by omega
          obtain ⟨_, _, hd0⟩ := h3 (k + 1) hnx
          simp only [Nat.zero_add] at hd0
          rw [← (HPP.out (k + 1) hnx).2.2.2 (by omega), HEN.out] at hd0
          have HEV2 := Lib.hid (show (en : Int) = if k < k + 1 then (en : Int) else -1 by rw [if_pos (by omega)])
          clear h3 q1 q2 q3
          go_wp2_with fail
          go_roundw
          case rel => exact ⟨k + 1, _, by go_num, rfl, hlt, HEV2, HBr, HTr⟩
          case measure => simp [intOf]; omega
        · have hni : ¬ (k : Int) + 1 < (l.length : Int) := by omega
          have HEV2 := Lib.hid (show (tx.size : Int) = if k < k + 1 then (en : Int) else -1 by rw [if_pos (by omega)]; exact HNX.out (by omega))
          clear h3 q1 q2 q3
          go_wp2_with fail
          go_roundw
          case rel => exact ⟨k + 1, _, by go_num, rfl, hlt, HEV2, HBr, HTr⟩
          case measure => simp [intOf]; omega
      · have hne := q3 hkp
        have hnb : ((l[k]).pos == (a : Int)) = false := by simpa using hne
        generalize (l[k]).pos = kp at *
        have HEV2 := Lib.hid (show ev = if np < k + 1 then (en : Int) else -1 by rw [HEV.out, if_pos (by omega), if_pos (by omega)])
        clear h3 q1 q2 q3
        go_wp2_with fail
        go_roundw
        case rel => exact ⟨k + 1, ev, by go_num, rfl, hlt, HEV2, HBr, HTr⟩
        case measure => simp [intOf]; omega
    · have hki : ¬ (k : Int) < (l.length : Int) := by omega
      obtain rfl : ev = (en : Int) := by rw [HEV.out, if_pos (by have := HLN.out.1; omega)]
      clear HEV HTr HPP HNX
      go_upto_region 21 with (first
        | (go_at_call 7; first | ((with_reducible show Calls _ _ #[.string (tx.extract 0 a)] _ _); refine (HP2.out _ HBr.out).mono ?_; rintro e w5 ⟨k2, rfl, hl, hb⟩; obtain ⟨A2, c2, rfl, _⟩ := hl.slice; have HB5 := Lib.hid ((HBr.out.trans (hb.mono HBr.out.size)).alloc (Nat.le_trans HBr.out.size hb.size) (.cells #[.string y2.name, .string y2.kind, .int .i64 y2.cond.op, .string y2.cond.name, .string y2.cond.value, .int .i64 y2.cond.n, .int .i64 y2.cond.extra, .slice A2 y2.cond.kids.length c2] 31)); clear hb hl) | ((try rw [HS2.out]); ((with_reducible show Calls _ _ #[.string s2] _ _); refine (HP3.out _ HB6.out).mono ?_; rintro e w7 ⟨k3, rfl, hl, hb⟩; obtain ⟨A3, c3, rfl, _⟩ := hl.slice; have HB7 := Lib.hid ((HB6.out.trans (hb.mono HB6.out.size)).alloc (Nat.le_trans HB6.out.size hb.size) (.cells #[.string y3.name, .string y3.kind, .int .i64 y3.cond.op, .string y3.cond.name, .string y3.cond.value, .int .i64 y3.cond.n, .int .i64 y3.cond.extra, .slice A3 y3.cond.kids.length c3] 31)); clear hb hl)))
        | (go_at_call 6; (try rw [HS2.out]); (refine (HLX2.out _).mono ?_; rintro e w6 ⟨vt, rfl, hown, hb⟩; obtain ⟨A6, c6, rfl⟩ := own_val hown; have HB6 := Lib.hid (HB5.out.trans (hb.mono HB5.out.size)); clear hb hown)))
      have hg := HG.out
      by_cases he2 : e2 = 0
      · obtain ⟨hk3, hk4⟩ := HK.out he2
        subst he2
        subst hk3
        subst hk4
        rcases hg with rfl | rfl | rfl
        · go_wp2_with fail
          go_ret
          exact ⟨rfl, HB7.out⟩
        · go_wp2_with fail
          go_ret
          exact ⟨rfl, HB7.out⟩
        · go_wp2_with fail
          go_ret
          exact ⟨rfl, HB7.out⟩
      · have heb : (e2 != 0) = true := by simpa using he2
        rcases hg with rfl | rfl | rfl
        · go_wp2_with fail
          go_ret
          exact ⟨rfl, HB7.out⟩
        · go_wp2_with fail
          go_ret
          exact ⟨rfl, HB7.out⟩
        · go_wp2_with fail
          go_ret
          exact ⟨rfl, HB7.out⟩
set_option maxRecDepth 100000 in
set_option maxHeartbeats 8000000 in
theorem begins_i13 (w0 : World) (ht : Tab w0) (hv : Evs w0) (tx more : ByteArray) (w : World) (hb0 : Below w0.heap.size w0 w) (htm : tx.size ≤ maxLen) (hs : tx.size ≤ 1500) (hms : more.size ≤ 1500) (he : (lexL tx).2.1 = 0) (hf : (parseU tx).2.1 = 13) :
    Calls Tryd.prog 4 #[.string tx, .string more] w fun e w' => e = .returned (.bool true) ∧ Below w.heap.size w w' := by
  have hsz0 := hb0.size
  have HHD := Lib.hid (fun W (hb : Below w.heap.size w W) => head_any w0 W ht hv (hb0.trans (hb.mono hsz0)))
  have HLX := Lib.hid (fun W => lex_any tx W htm)
  have hbi : ¬ (1500 : Int) < (tx.size : Int) := by omega
  have hbj : ¬ (1500 : Int) < (more.size : Int) := by omega
  obtain ⟨p, t, q, a, en, hl, hpa, hta, hal, hne, hel, hpp, hqq, hg, hk⟩ := begins_plain hs he (.inr hf)
  have hp : parseU tx = ((parseU tx).1, 13, (a : Int)) := Prod.ext rfl (Prod.ext hf hpa)
  obtain ⟨y1, hy1⟩ : ∃ y, (parseU tx).1 = y := ⟨_, rfl⟩
  rw [hy1] at hp
  have HPT := Lib.hid (fun W (hb : Below w.heap.size w W) => parse_isS hp (by omega) w0 W hv (hb0.trans (hb.mono hsz0)))
  have hxs : (tx.extract 0 a).size = a := cut_size (s := tx) (i := 0) (j := a) hal (by omega)
  have hxe : (tx.extract 0 en).size = en := cut_size (s := tx) (i := 0) (j := en) hel (by omega)
  have hp2 : parseU (tx.extract 0 a) = ((parseU (tx.extract 0 a)).1, (parseU (tx.extract 0 a)).2.1, (parseU (tx.extract 0 a)).2.2) := rfl
  obtain ⟨y2, hy2⟩ : ∃ y, (parseU (tx.extract 0 a)).1 = y := ⟨_, rfl⟩
  rw [hy2] at hp2
  have HP2 := Lib.hid (fun W (hb : Below w.heap.size w W) => parse_isS hp2 (by omega) w0 W hv (hb0.trans (hb.mono hsz0)))
  obtain ⟨s2, hs2⟩ : ∃ s, tx.extract 0 en ++ ⟨#[10]⟩ ++ more = s := ⟨_, rfl⟩
  have hz2 : s2.size ≤ 4000 := by rw [← hs2, size_app, size_app]; show (tx.extract 0 en).size + 1 + _ ≤ _; omega
  have hk2 := hk more hms
  rw [hs2, hf] at hk2
  have HLX2 := Lib.hid (fun W => lex_any s2 W (by unfold maxLen; omega))
  have hp3 : parseU s2 = ((parseU s2).1, (parseU s2).2.1, (parseU s2).2.2) := rfl
  obtain ⟨y3, hy3⟩ : ∃ y, (parseU s2).1 = y := ⟨_, rfl⟩
  rw [hy3] at hp3
  have HP3 := Lib.hid (fun W (hb : Below w.heap.size w W) => parse_isS hp3 (by omega) w0 W hv (hb0.trans (hb.mono hsz0)))
  rw [show lexL tx = ((lexL tx).1, 0, (lexL tx).2.2) from Prod.ext rfl (Prod.ext he rfl)] at HLX
  have hlen := (lexL_wf he).2
  have HG := Lib.hid hg
  have HK := Lib.hid hk2
  have HS2 := Lib.hid hs2
  generalize (parseU (tx.extract 0 a)).2.1 = g2 at *
  generalize (parseU (tx.extract 0 a)).2.2 = ga at *
  generalize (parseU s2).2.1 = g3 at *
  generalize (parseU s2).2.2 = gb at *
  generalize (lexL tx).2.2 = la at *
  generalize (lexL s2).2.1 = e2 at *
  generalize (lexL s2).2.2 = la2 at *
  have HLE := Lib.hid hl
  generalize (lexL tx).1 = l at *
  have hln : l.length = p.length + (q.length + 1) := by rw [hl, List.length_append, List.length_cons]
  have HNE := Lib.hid (show l ≠ [] from fun h => by rw [h] at hln; simp at hln)
  have HPP := Lib.hid (fun (k : Nat) (h : k < l.length) => show (k < p.length → (l[k]).pos ≠ (a : Int)) ∧ (k = p.length → (l[k]).pos = (a : Int)) ∧ (p.length < k → (l[k]).pos ≠ (a : Int)) ∧ (k = p.length + 1 → nextPos tx.size q = (l[k]).pos) by
    subst hl
    refine ⟨fun h1 => ?_, fun h1 => ?_, fun h1 => ?_, fun h1 => ?_⟩
    · rw [List.getElem_append_left h1]; exact hpp _ (List.getElem_mem h1)
    · subst h1; rw [List.getElem_append_right (Nat.le_refl _)]; simpa using hta
    · rw [List.getElem_append_right (by omega)]
      obtain ⟨j, hj⟩ : ∃ j, k - p.length = j + 1 := ⟨k - p.length - 1, by omega⟩
      simp only [hj, List.getElem_cons_succ]
      exact hqq _ (List.getElem_mem _)
    · subst h1
      rw [List.getElem_append_right (by omega)]
      have e : p.length + 1 - p.length = 0 + 1 := by omega
      simp only [e, List.getElem_cons_succ]
      cases q with
      | nil => simp at h
      | cons u q => rfl)
  have HNX := Lib.hid (fun (h : l.length = p.length + 1) => show (tx.size : Int) = (en : Int) by
    have : q = [] := List.eq_nil_of_length_eq_zero (by omega)
    rw [this] at hne
    exact hne)
  have HEN := Lib.hid hne
  have hai : ¬ (a : Int) < 0 := by omega
  have hai2 : ¬ (tx.size : Int) < (a : Int) := by omega
  have haz : (0 : Int) ≤ (a : Int) := by omega
  have haz2 : (a : Int) ≤ (tx.size : Int) := by omega
  have hez : ¬ (en : Int) < 0 := by omega
  have hez1 : (0 : Int) ≤ (en : Int) := by omega
  have hez2 : (en : Int) ≤ (tx.size : Int) := by omega
  obtain ⟨np, hnp⟩ : ∃ n, p.length = n := ⟨_, rfl⟩
  rw [hnp] at hln HPP HNX
  have m1 : ¬ 9223372036854775807 < en + 1 := by omega
  have m2 : ¬ 9223372036854775807 < en + 1 + more.size := by omega
  have HLN := Lib.hid (show np < l.length ∧ l.length ≤ 2000 by omega)
  obtain ⟨lc, hlc⟩ : ∃ n, l.length = n := ⟨_, rfl⟩
  clear hl hpp hqq hg hk hk2 hne hp hp2 hp3 hy1 hy2 hy3 hs2 hf he hln hnp hlen hta hpa hlc
  (try dsimp only [ruA] at *)
  clear hb0 ht hv
  go_enter Tryd.func4, Tryd.ntmps4
  go_wp2_with (first
    | (go_at_call 5; refine (HHD.out _ (Below.refl _ _)).mono ?_; rintro e w1 ⟨rfl, hb⟩; have HB1 := Lib.hid hb; clear hb)
    | (go_at_call 6; (refine (HLX.out _).mono ?_; rintro e w2 ⟨vt, rfl, hown, hb⟩; obtain ⟨htk, hne⟩ := toks_own hown; have HT2 := Lib.hid (htk); obtain ⟨tk, ct, rfl, hct⟩ := hne HNE.out; clear htk hne; have HB2 := Lib.hid (HB1.out.trans (hb.mono HB1.out.size)); clear hb hown))
    | (go_at_call 7; ((with_reducible show Calls _ _ #[.string tx] _ _); refine (HPT.out _ HB2.out).mono ?_; rintro e w3 ⟨k1, rfl, hl, hb⟩; obtain ⟨A1, c1, rfl, _⟩ := hl.slice; have HB3 := Lib.hid ((HB2.out.trans (hb.mono HB2.out.size)).alloc (Nat.le_trans HB2.out.size hb.size) (.cells #[.string y1.name, .string y1.kind, .int .i64 y1.cond.op, .string y1.cond.name, .string y1.cond.value, .int .i64 y1.cond.n, .int .i64 y1.cond.extra, .slice A1 y1.cond.kids.length c1] 31)); have HT3 := Lib.hid ((HT2.out.later hb).later ((Below.refl _ _).alloc (Nat.le_refl _) (.cells #[.string y1.name, .string y1.kind, .int .i64 y1.cond.op, .string y1.cond.name, .string y1.cond.value, .int .i64 y1.cond.n, .int .i64 y1.cond.extra, .slice A1 y1.cond.kids.length c1] 31))); clear hb hl)))
  go_loopw [12, 13] (fun v i wq => ∃ (k : Nat) (ev : Int), i = .int .i64 k ∧ v = .int .i64 ev ∧ k ≤ l.length ∧ Hid (ev = if np < k then (en : Int) else -1) ∧ Hid (Below w.heap.size w wq) ∧ Hid (TokS wq (.slice (some ⟨tk, 0, none⟩) l.length ct) l)) (fun _ i _ => l.length - (intOf i).toNat)
  case atStart => exact ⟨0, -1, rfl, rfl, Nat.zero_le _, (if_neg (Nat.not_lt_zero _)).symm, HB3.out, HT3.out⟩
  case round =>
    obtain ⟨k, ev, rfl, rfl, hk, HEV, HBr, HTr⟩ := hrel
    clear HT2 HT3
    by_cases hlt : k < l.length
    · have hki : (k : Int) < (l.length : Int) := by omega
      have hs3 : IntKind.i64.wrap ((k : Int) + 1) = (k : Int) + 1 := IntWalk.i64_in _ (by have := HLN.out.2; omega)
      obtain ⟨A2, c2, e2', hc2, h3⟩ := HTr.out
      injection e2' with e2' _ e3'
      subst e2'
      subst e3'
      rcases h3 with h3 | ⟨b', o', hbo, h3⟩
      · exact absurd h3 HNE.out
      injection hbo with hbo
      injection hbo with hb1 hb2 _
      subst hb1
      subst hb2
      obtain ⟨_, _, hc0⟩ := h3 k hlt
      simp only [Nat.zero_add] at hc0
      obtain ⟨q1, q2, q3, _⟩ := HPP.out k hlt
      rcases Nat.lt_trichotomy k np with hkp | hkp | hkp
      · have hne := q1 hkp
        have hnb : ((l[k]).pos == (a : Int)) = false := by simpa using hne
        generalize (l[k]).pos = kp at *
        have HEV2 := Lib.hid (show ev = if np < k + 1 then (en : Int) else -1 by rw [HEV.out, if_neg (by omega), if_neg (by omega)])
        clear h3 q1 q2 q3
        go_wp2_with fail
        go_roundw
        case rel => exact ⟨k + 1, ev, by go_num, rfl, hlt, HEV2, HBr, HTr⟩
        case measure => simp [intOf]; omega
      · have hpe := q2 hkp
        rw [hpe] at hc0
        subst hkp
        by_cases hnx : k + 1 < l.length
        · have hni : (k : Int) + 1 < (l.length : Int) := by omega
          obtain ⟨_, _, hd0⟩ := h3 (k + 1) hnx
          simp only [Nat.zero_add] at hd0
          rw [← (HPP.out (k + 1) hnx).2.2.2 (by omega), HEN.out] at hd0
          have HEV2 := Lib.hid (show (en : Int) = if k < k + 1 then (en : Int) else -1 by rw [if_pos (by omega)])
          clear h3 q1 q2 q3
          go_wp2_with fail
          go_roundw
          case rel => exact ⟨k + 1, _, by go_num, rfl, hlt, HEV2, HBr, HTr⟩
          case measure => simp [intOf]; omega
        · have hni : ¬ (k : Int) + 1 < (l.length : Int) := by omega
          have HEV2 := Lib.hid (show (tx.size : Int) = if k < k + 1 then (en : Int) else -1 by rw [if_pos (by omega)]; exact HNX.out (by omega))
          clear h3 q1 q2 q3
          go_wp2_with fail
          go_roundw
          case rel => exact ⟨k + 1, _, by go_num, rfl, hlt, HEV2, HBr, HTr⟩
          case measure => simp [intOf]; omega
      · have hne := q3 hkp
        have hnb : ((l[k]).pos == (a : Int)) = false := by simpa using hne
        generalize (l[k]).pos = kp at *
        have HEV2 := Lib.hid (show ev = if np < k + 1 then (en : Int) else -1 by rw [HEV.out, if_pos (by omega), if_pos (by omega)])
        clear h3 q1 q2 q3
        go_wp2_with fail
        go_roundw
        case rel => exact ⟨k + 1, ev, by go_num, rfl, hlt, HEV2, HBr, HTr⟩
        case measure => simp [intOf]; omega
    · have hki : ¬ (k : Int) < (l.length : Int) := by omega
      obtain rfl : ev = (en : Int) := by rw [HEV.out, if_pos (by have := HLN.out.1; omega)]
      clear HEV HTr HPP HNX
      go_upto_region 21 with (first
        | (go_at_call 7; first | ((with_reducible show Calls _ _ #[.string (tx.extract 0 a)] _ _); refine (HP2.out _ HBr.out).mono ?_; rintro e w5 ⟨k2, rfl, hl, hb⟩; obtain ⟨A2, c2, rfl, _⟩ := hl.slice; have HB5 := Lib.hid ((HBr.out.trans (hb.mono HBr.out.size)).alloc (Nat.le_trans HBr.out.size hb.size) (.cells #[.string y2.name, .string y2.kind, .int .i64 y2.cond.op, .string y2.cond.name, .string y2.cond.value, .int .i64 y2.cond.n, .int .i64 y2.cond.extra, .slice A2 y2.cond.kids.length c2] 31)); clear hb hl) | ((try rw [HS2.out]); ((with_reducible show Calls _ _ #[.string s2] _ _); refine (HP3.out _ HB6.out).mono ?_; rintro e w7 ⟨k3, rfl, hl, hb⟩; obtain ⟨A3, c3, rfl, _⟩ := hl.slice; have HB7 := Lib.hid ((HB6.out.trans (hb.mono HB6.out.size)).alloc (Nat.le_trans HB6.out.size hb.size) (.cells #[.string y3.name, .string y3.kind, .int .i64 y3.cond.op, .string y3.cond.name, .string y3.cond.value, .int .i64 y3.cond.n, .int .i64 y3.cond.extra, .slice A3 y3.cond.kids.length c3] 31)); clear hb hl)))
        | (go_at_call 6; (try rw [HS2.out]); (refine (HLX2.out _).mono ?_; rintro e w6 ⟨vt, rfl, hown, hb⟩; obtain ⟨A6, c6, rfl⟩ := own_val hown; have HB6 := Lib.hid (HB5.out.trans (hb.mono HB5.out.size)); clear hb hown)))
      have hg := HG.out
      by_cases he2 : e2 = 0
      · obtain ⟨hk3, hk4⟩ := HK.out he2
        subst he2
        subst hk3
        subst hk4
        rcases hg with rfl | rfl | rfl
        · go_wp2_with fail
          go_ret
          exact ⟨rfl, HB7.out⟩
        · go_wp2_with fail
          go_ret
          exact ⟨rfl, HB7.out⟩
        · go_wp2_with fail
          go_ret
          exact ⟨rfl, HB7.out⟩
      · have heb : (e2 != 0) = true := by simpa using he2
        rcases hg with rfl | rfl | rfl
        · go_wp2_with fail
          go_ret
          exact ⟨rfl, HB7.out⟩
        · go_wp2_with fail
          go_ret
          exact ⟨rfl, HB7.out⟩
        · go_wp2_with fail
          go_ret
          exact ⟨rfl, HB7.out⟩
theorem begins_any (w0 : World) (ht : Tab w0) (hv : Evs w0) (tx more : ByteArray) (w : World) (hb0 : Below w0.heap.size w0 w) (htm : tx.size ≤ maxLen) :
    Calls Tryd.prog 4 #[.string tx, .string more] w fun e w' => e = .returned (.bool true) ∧ Below w.heap.size w w' := by
  rcases Nat.lt_or_ge 1500 tx.size with hs | hs
  · exact begins_big1 w0 ht hv tx more w hb0 htm hs
  rcases Nat.lt_or_ge 1500 more.size with hms | hms
  · exact begins_big2 w0 ht hv tx more w hb0 htm hs hms
  by_cases he : (lexL tx).2.1 = 0
  · by_cases h8 : (parseU tx).2.1 = 8
    · exact begins_i8 w0 ht hv tx more w hb0 htm hs hms he h8
    by_cases h13 : (parseU tx).2.1 = 13
    · exact begins_i13 w0 ht hv tx more w hb0 htm hs hms he h13
    by_cases h0 : (parseU tx).2.1 = 0
    · exact begins_o3 w0 ht hv tx more w hb0 htm hs hms he h0
    · exact begins_o2 w0 ht hv tx more w hb0 htm hs hms he h8 h13 h0
  · exact begins_o1 w0 ht hv tx more w hb0 htm hs hms he
end Go.Proofs.YtppoeiofdmlpeaaDoor
