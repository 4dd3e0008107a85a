/- bogielaw20.RuleGaps answers true. Condition: the table of powers of ten, and the error variables; the text fits. -/
import Derived.Deep.Cut
import Derived.Deep.CutRange
import Derived.Test.YtppoeiofdmlpeaaDoorU17
import Derived.Test.YtppoeiofdmlpeaaDoorZGw
namespace Go.Proofs.YtppoeiofdmlpeaaDoor
open Go Go.RowKit
/-- Parse at a text whose rule is known. -/
theorem parse_isS {s : ByteArray} {r : Ru} {er a : Int} (hp : parseU s = (r, er, a)) (hs : s.size ≤ 20000) (w0 w : World) (hv : Evs w0) (hb0 : Below w0.heap.size w0 w) :
    Calls Tryd.prog 7 #[.string s] w fun e w' => ∃ kv, e = .returned (.tuple #[.agg (ruA r kv), .int .i64 er, .int .i64 a]) ∧ LayS (fun b => w.heap.size ≤ b) w' kv r.cond.kids ∧ Below w.heap.size w w' := by
  refine (parse_any w0 hv s w hb0 (Nat.le_trans hs (by decide))).mono ?_
  rintro e w' ⟨kv, rfl, hl, hb⟩
  rw [hp] at hl ⊢
  exact ⟨kv, rfl, hl, hb⟩
theorem toks_own {W : World} {base : Nat} {v : Value} {fs : List Fnd} (h : W.ownsRow base 38 3 v fs.length (tokCells fs)) : TokS W v fs ∧ (fs ≠ [] → ∃ k c, v = .slice (some ⟨k, 0, none⟩) fs.length c ∧ fs.length ≤ c) := by
  rcases h.2 with ⟨rfl, h0⟩ | ⟨k, cap, cur, rfl, hbk, hh, hn, hcm, hcs, ht⟩
  · have h1 : fs = [] := List.eq_nil_of_length_eq_zero h0
    exact ⟨⟨none, 0, by rw [h0], by omega, .inl h1⟩, fun h2 => absurd h1 h2⟩
  · refine ⟨⟨some ⟨k, 0, none⟩, cap, rfl, hn, .inr ⟨k, 0, rfl, fun i hi => ?_⟩⟩, fun _ => ⟨k, cap, rfl, hn⟩⟩
    obtain ⟨a1, a2, a3⟩ := tok_get fs i hi
    have he : tokAt fs i = fs[i] := by unfold tokAt; rw [List.getD_eq_getElem?_getD, List.getElem?_eq_getElem hi]; rfl
    rw [he] at a1 a2 a3
    have get : ∀ j u, j < fs.length * 3 → (tokCells fs)[j]? = some u → W.cell? ⟨k, 0 + j, none⟩ = some u := fun j u hj hu => by
      rw [Nat.zero_add, cell_of_row _ k j cur _ (0, 0) hh]
      rw [← ht, List.getElem?_take, if_pos hj] at hu
      simpa using hu
    exact ⟨get _ _ (by omega) a1, by rw [Nat.add_assoc]; exact get _ _ (by omega) a2, by rw [Nat.add_assoc]; exact get _ _ (by omega) a3⟩
theorem eight_below {u W : World} {B b : Nat} (h : Below B u W) (hB : B ≤ b) (u0 u1 v0 v1 v2 v3 v4 v5 : Value) : Below B u (eight W b u0 u1 v0 v1 v2 v3 v4 v5) :=
  six2_below ((h.setCell (p := ⟨b, 0, none⟩) hB u0).setCell (p := ⟨b, 1, none⟩) hB u1) hB _ _ _ _ _ _
theorem eight_has {W : World} {B t : Nat} {b0 b1 a0 a1 a2 a3 a4 a5 : Value} (h : Has W B t #[b0, b1, a0, a1, a2, a3, a4, a5]) (u0 u1 v0 v1 v2 v3 v4 v5 : Value) : Has (eight W B u0 u1 v0 v1 v2 v3 v4 v5) B t #[u0, u1, v0, v1, v2, v3, v4, v5] :=
  six2_has ((h.put 0 u0).put 1 u1) _ _ _ _ _ _
theorem gapT_part {l : List Fnd} (i j : Nat) : (gapT ((l.take j).drop i)).size ≤ (gapT l).size := by
  have h1 := gapT_take_le (l := l) j
  have h2 := congrArg List.length (wrL_app ((l.take j).take i) ((l.take j).drop i))
  rw [List.take_append_drop, List.length_append] at h2
  rw [gapT_size] at h1 ⊢
  rw [gapT_size] at h1 ⊢
  omega
set_option maxRecDepth 100000 in
set_option maxHeartbeats 8000000 in
theorem gaps_big (w0 : World) (ht : Tab w0) (hv : Evs w0) (tx : ByteArray) (w : World) (hb0 : Below w0.heap.size w0 w) (htm : tx.size ≤ maxLen) (hbig : 2000 < tx.size) :
    Calls Tryd.prog 3 #[.string tx] w fun e w' => e = .returned (.bool true) ∧ Below w.heap.size w w' := by
  have hsz0 := hb0.size
  have HHD := Lib.hid (fun W (hb : Below w.heap.size w W) => head_any w0 W ht hv (hb0.trans (hb.mono hsz0)))
  have HLX := Lib.hid (fun W => lex_any tx W htm)
  have hbi : (2000 : Int) < (tx.size : Int) := by omega
  clear HLX
  (try dsimp only [ruA] at *)
  clear hb0 ht hv
  go_enter Tryd.func3, Tryd.ntmps3
  go_wp2_with (first
    | (go_at_call 5; refine (HHD.out _ (Below.refl _ _)).mono ?_; rintro e w1 ⟨rfl, hb⟩; have HB1 := Lib.hid hb; clear hb))
  go_ret
  exact ⟨rfl, HB1.out⟩
set_option maxRecDepth 100000 in
set_option maxHeartbeats 8000000 in
theorem gaps_lex (w0 : World) (ht : Tab w0) (hv : Evs w0) (tx : ByteArray) (w : World) (hb0 : Below w0.heap.size w0 w) (htm : tx.size ≤ maxLen) (hs : tx.size ≤ 2000) (he : (lexL tx).2.1 ≠ 0) :
    Calls Tryd.prog 3 #[.string tx] w fun e w' => e = .returned (.bool true) ∧ Below w.heap.size w w' := by
  have hsz0 := hb0.size
  have HHD := Lib.hid (fun W (hb : Below w.heap.size w W) => head_any w0 W ht hv (hb0.trans (hb.mono hsz0)))
  have HLX := Lib.hid (fun W => lex_any tx W htm)
  have hbi : ¬ (2000 : Int) < (tx.size : Int) := by omega
  have hp : parseU tx = (ru0, (lexL tx).2.1, (lexL tx).2.2) := if_pos he
  obtain ⟨y, hy⟩ : ∃ y, ru0 = y := ⟨_, rfl⟩
  rw [hy] at hp
  have HPT := Lib.hid (fun W (hb : Below w.heap.size w W) => parse_isS hp (by omega) w0 W hv (hb0.trans (hb.mono hsz0)))
  generalize lexL tx = L at *
  have heb : (L.2.1 != 0) = true := by simpa using he
  clear hp hy
  (try dsimp only [ruA] at *)
  clear hb0 ht hv
  go_enter Tryd.func3, Tryd.ntmps3
  go_wp2_with (first
    | (go_at_call 5; refine (HHD.out _ (Below.refl _ _)).mono ?_; rintro e w1 ⟨rfl, hb⟩; have HB1 := Lib.hid hb; clear hb)
    | (go_at_call 6; refine (HLX.out _).mono ?_; rintro e w2 ⟨vt, rfl, hown, hb⟩; obtain ⟨At, ct, rfl⟩ := own_val hown; have HB2 := Lib.hid (HB1.out.trans (hb.mono HB1.out.size)); clear hb hown)
    | (go_at_call 7; ((with_reducible show Calls _ _ #[.string tx] _ _); refine (HPT.out _ HB2.out).mono ?_; rintro e w3 ⟨kx, rfl, hl, hb⟩; obtain ⟨Ax, cx, rfl, _⟩ := hl.slice; have HB3 := Lib.hid ((HB2.out.trans (hb.mono HB2.out.size)).alloc (Nat.le_trans HB2.out.size hb.size) (.cells #[.string y.name, .string y.kind, .int .i64 y.cond.op, .string y.cond.name, .string y.cond.value, .int .i64 y.cond.n, .int .i64 y.cond.extra, .slice Ax y.cond.kids.length cx] 31)); clear hb hl)))
  go_ret
  exact ⟨rfl, HB3.out⟩
set_option maxRecDepth 100000 in
set_option maxHeartbeats 8000000 in
theorem gaps_bad (w0 : World) (ht : Tab w0) (hv : Evs w0) (tx : ByteArray) (w : World) (hb0 : Below w0.heap.size w0 w) (htm : tx.size ≤ maxLen) (hs : tx.size ≤ 2000) (he : (lexL tx).2.1 = 0) (hf : (parseU tx).2.1 ≠ 0) :
    Calls Tryd.prog 3 #[.string tx] w fun e w' => e = .returned (.bool true) ∧ Below w.heap.size w w' := by
  have hsz0 := hb0.size
  have HHD := Lib.hid (fun W (hb : Below w.heap.size w W) => head_any w0 W ht hv (hb0.trans (hb.mono hsz0)))
  have HLX := Lib.hid (fun W => lex_any tx W htm)
  have hbi : ¬ (2000 : Int) < (tx.size : Int) := by omega
  obtain ⟨hg1, hg2⟩ := gap_same hs he
  obtain ⟨fsz, fs2, hgl, _⟩ := gap_lex hs he
  obtain ⟨hwf, hlen⟩ := lexL_wf he
  have hshort := (lexL_short tx).2
  have hp : parseU tx = ((parseU tx).1, (parseU tx).2.1, (parseU tx).2.2) := rfl
  have hq : parseU (gapT (lexL tx).1) = ((parseU tx).1, (parseU tx).2.1, (parseU (gapT (lexL tx).1)).2.2) := Prod.ext hg1 (Prod.ext hg2 rfl)
  obtain ⟨hz, _⟩ := parseU_bad hf
  have hcy : cnt (parseU tx).1.cond ≤ 100000 := by rw [hz]; decide
  have hfb : ((parseU tx).2.1 != 0) = true := by simpa using hf
  obtain ⟨y, hy⟩ : ∃ y, (parseU tx).1 = y := ⟨_, rfl⟩
  rw [hy] at hp hq hcy
  have HPT := Lib.hid (fun W (hb : Below w.heap.size w W) => parse_isS hp (by omega) w0 W hv (hb0.trans (hb.mono hsz0)))
  have HPG := Lib.hid (fun W (hb : Below w.heap.size w W) => parse_isS hq fsz w0 W hv (hb0.trans (hb.mono hsz0)))
  have HWR := Lib.hid (fun v W (h : TokS W v (lexL tx).1) => written_any v (lexL tx).1 W h (by omega) (by omega) hshort)
  have HSM := Lib.hid (fun v v' W (h1 : Lay W v y.cond.kids) (h2 : Lay W v' y.cond.kids) => same_any y y v v' W hcy h1 h2)
  rw [(sameU_iff y y).2 rfl] at HSM
  rw [show lexL tx = ((lexL tx).1, 0, (lexL tx).2.2) from Prod.ext rfl (Prod.ext he rfl)] at HLX
  generalize (parseU tx).2.1 = pe at *
  generalize (parseU tx).2.2 = pa at *
  generalize (parseU (gapT (lexL tx).1)).2.2 = pb at *
  generalize (lexL tx).2.2 = la at *
  generalize (lexL tx).1 = l at *
  generalize gapT l = gt at *
  clear hp hq hz hy hg1 hg2 hgl hwf hshort fsz hcy he
  (try dsimp only [ruA] at *)
  clear hb0 ht hv
  go_enter Tryd.func3, Tryd.ntmps3
  go_wp2_with (first
    | (go_at_call 5; refine (HHD.out _ (Below.refl _ _)).mono ?_; rintro e w1 ⟨rfl, hb⟩; have HB1 := Lib.hid hb; clear hb)
    | (go_at_call 6; refine (HLX.out _).mono ?_; rintro e w2 ⟨vt, rfl, hown, hb⟩; obtain ⟨htk, hne⟩ := toks_own hown; have HT2 := Lib.hid htk; obtain ⟨At, ct, rfl⟩ := own_val hown; clear htk hne; have HB2 := Lib.hid (HB1.out.trans (hb.mono HB1.out.size)); clear hb hown)
    | (go_at_call 7; first | ((with_reducible show Calls _ _ #[.string tx] _ _); refine (HPT.out _ HB2.out).mono ?_; rintro e w3 ⟨kx, rfl, hl, hb⟩; obtain ⟨Ax, cx, rfl, _⟩ := hl.slice; have HB3 := Lib.hid ((HB2.out.trans (hb.mono HB2.out.size)).alloc (Nat.le_trans HB2.out.size hb.size) (.cells #[.string y.name, .string y.kind, .int .i64 y.cond.op, .string y.cond.name, .string y.cond.value, .int .i64 y.cond.n, .int .i64 y.cond.extra, .slice Ax y.cond.kids.length cx] 31)); have HT3 := Lib.hid ((HT2.out.later hb).later ((Below.refl _ _).alloc (Nat.le_refl _) (.cells #[.string y.name, .string y.kind, .int .i64 y.cond.op, .string y.cond.name, .string y.cond.value, .int .i64 y.cond.n, .int .i64 y.cond.extra, .slice Ax y.cond.kids.length cx] 31))); have HX3 := Lib.hid (Has.new w3 31 #[.string y.name, .string y.kind, .int .i64 y.cond.op, .string y.cond.name, .string y.cond.value, .int .i64 y.cond.n, .int .i64 y.cond.extra, .slice Ax y.cond.kids.length cx]); have LX3 := Lib.hid (hl.any.later ((Below.refl _ _).alloc (Nat.le_refl _) (.cells #[.string y.name, .string y.kind, .int .i64 y.cond.op, .string y.cond.name, .string y.cond.value, .int .i64 y.cond.n, .int .i64 y.cond.extra, .slice Ax y.cond.kids.length cx] 31))); obtain ⟨dx3, fx3⟩ := HX3.out.facts; (try dsimp only [ruA] at dx3); clear hb hl) | ((with_reducible show Calls _ _ #[.string gt] _ _); refine (HPG.out _ HB4.out).mono ?_; rintro e w5 ⟨ky, rfl, hl, hb⟩; obtain ⟨Ay, cy, rfl, _⟩ := hl.slice; have HB5 := Lib.hid ((HB4.out.trans (hb.mono HB4.out.size)).alloc (Nat.le_trans HB4.out.size hb.size) (.cells #[.string y.name, .string y.kind, .int .i64 y.cond.op, .string y.cond.name, .string y.cond.value, .int .i64 y.cond.n, .int .i64 y.cond.extra, .slice Ay y.cond.kids.length cy] 31)); have HT5 := Lib.hid ((HT4.out.later hb).later ((Below.refl _ _).alloc (Nat.le_refl _) (.cells #[.string y.name, .string y.kind, .int .i64 y.cond.op, .string y.cond.name, .string y.cond.value, .int .i64 y.cond.n, .int .i64 y.cond.extra, .slice Ay y.cond.kids.length cy] 31))); have HX5 := Lib.hid ((HX4.out.below hb HX4.out.lt).alloc (.cells #[.string y.name, .string y.kind, .int .i64 y.cond.op, .string y.cond.name, .string y.cond.value, .int .i64 y.cond.n, .int .i64 y.cond.extra, .slice Ay y.cond.kids.length cy] 31)); have LX5 := Lib.hid ((LX4.out.later hb).later ((Below.refl _ _).alloc (Nat.le_refl _) (.cells #[.string y.name, .string y.kind, .int .i64 y.cond.op, .string y.cond.name, .string y.cond.value, .int .i64 y.cond.n, .int .i64 y.cond.extra, .slice Ay y.cond.kids.length cy] 31))); have HY5 := Lib.hid (Has.new w5 31 #[.string y.name, .string y.kind, .int .i64 y.cond.op, .string y.cond.name, .string y.cond.value, .int .i64 y.cond.n, .int .i64 y.cond.extra, .slice Ay y.cond.kids.length cy]); have LY5 := Lib.hid (hl.any.later ((Below.refl _ _).alloc (Nat.le_refl _) (.cells #[.string y.name, .string y.kind, .int .i64 y.cond.op, .string y.cond.name, .string y.cond.value, .int .i64 y.cond.n, .int .i64 y.cond.extra, .slice Ay y.cond.kids.length cy] 31))); clear dx3 fx3; obtain ⟨dx5, fx5⟩ := HX5.out.facts; (try dsimp only [ruA] at dx5); obtain ⟨dy5, fy5⟩ := HY5.out.facts; (try dsimp only [ruA] at dy5); clear hb hl))
    | (go_at_call 8; refine (HWR.out _ _ HT3.out).mono ?_; rintro e w4 ⟨rfl, hb⟩; have HB4 := Lib.hid (HB3.out.trans (hb.mono HB3.out.size)); have HT4 := Lib.hid (HT3.out.later hb); have HX4 := Lib.hid (HX3.out.below hb HX3.out.lt); have LX4 := Lib.hid (LX3.out.later hb); clear hb)
    | (go_at_call 9; refine (HSM.out _ _ _ LX5.out LY5.out).mono ?_; rintro e w6 ⟨rfl, hb⟩; have HB6 := Lib.hid (HB5.out.trans (hb.mono HB5.out.size)); have HT6 := Lib.hid (HT5.out.later hb); have HX6 := Lib.hid (HX5.out.below hb HX5.out.lt); have LX6 := Lib.hid (LX5.out.later hb); clear dx5 fx5 dy5 fy5; obtain ⟨dx6, fx6⟩ := HX6.out.facts; (try dsimp only [ruA] at dx6); clear hb))
  go_ret
  exact ⟨rfl, HB6.out⟩
set_option maxRecDepth 100000 in
set_option maxHeartbeats 8000000 in
theorem gaps_good (w0 : World) (ht : Tab w0) (hv : Evs w0) (tx : ByteArray) (w : World) (hb0 : Below w0.heap.size w0 w) (htm : tx.size ≤ maxLen) (hs : tx.size ≤ 2000) (he : (lexL tx).2.1 = 0) (hf : (parseU tx).2.1 = 0) :
    Calls Tryd.prog 3 #[.string tx] w fun e w' => e = .returned (.bool true) ∧ Below w.heap.size w w' := by
  have hsz0 := hb0.size
  have HHD := Lib.hid (fun W (hb : Below w.heap.size w W) => head_any w0 W ht hv (hb0.trans (hb.mono hsz0)))
  have HLX := Lib.hid (fun W => lex_any tx W htm)
  have hbi : ¬ (2000 : Int) < (tx.size : Int) := by omega
  obtain ⟨hg1, hg2⟩ := gap_same hs he
  obtain ⟨fsz, fs2, hgl, _⟩ := gap_lex hs he
  obtain ⟨hwf, hlen⟩ := lexL_wf he
  have hshort := (lexL_short tx).2
  have hp : parseU tx = ((parseU tx).1, (parseU tx).2.1, (parseU tx).2.2) := rfl
  have hq : parseU (gapT (lexL tx).1) = ((parseU tx).1, (parseU tx).2.1, (parseU (gapT (lexL tx).1)).2.2) := Prod.ext hg1 (Prod.ext hg2 rfl)
  obtain ⟨h7, psz, hpar⟩ := gap_paren hs he hf
  have hf0 : (parseU tx).2.1 = 0 := hf
  obtain ⟨hr1, hr2, _⟩ := parseU_good hf
  have hcy : cnt (parseU tx).1.cond ≤ 100000 := by have := (rule_cnt hr1).1; omega
  obtain ⟨y, hy⟩ : ∃ y, (parseU tx).1 = y := ⟨_, rfl⟩
  rw [hy] at hp hq hcy hpar
  rw [hf] at hp hq
  have HPT := Lib.hid (fun W (hb : Below w.heap.size w W) => parse_isS hp (by omega) w0 W hv (hb0.trans (hb.mono hsz0)))
  have HPG := Lib.hid (fun W (hb : Below w.heap.size w W) => parse_isS hq fsz w0 W hv (hb0.trans (hb.mono hsz0)))
  have HWR := Lib.hid (fun v W (h : TokS W v (lexL tx).1) => written_any v (lexL tx).1 W h (by omega) (by omega) hshort)
  have HSM := Lib.hid (fun v v' W (h1 : Lay W v y.cond.kids) (h2 : Lay W v' y.cond.kids) => same_any y y v v' W hcy h1 h2)
  rw [(sameU_iff y y).2 rfl] at HSM
  rw [show lexL tx = ((lexL tx).1, 0, (lexL tx).2.2) from Prod.ext rfl (Prod.ext he rfl)] at HLX
  have HPP := Lib.hid (fun W (hb : Below w.heap.size w W) => parse_isS hpar psz w0 W hv (hb0.trans (hb.mono hsz0)))
  generalize (parseU tx).2.2 = pa at *
  generalize (parseU (gapT (lexL tx).1)).2.2 = pb at *
  generalize (lexL tx).2.2 = la at *
  generalize (lexL tx).1 = l at *
  have h7i : ¬ (l.length : Int) < 7 := by omega
  have hwf2 := wrL_len l hwf
  have HWP := Lib.hid (fun i j v W (h : TokS W v ((l.take j).drop i)) => written_any v ((l.take j).drop i) W h (by rw [List.length_drop, List.length_take]; omega) (Nat.le_trans (gapT_part i j) (by omega)) (fun t ht => hshort t (List.mem_of_mem_take (List.mem_of_mem_drop ht))))
  have HPD := Lib.hid (show parT l = gapT (l.take 5) ++ ⟨#[40]⟩ ++ gapT ((l.take (l.length - 1)).drop 5) ++ ⟨#[41]⟩ ++ gapT (l.drop (l.length - 1)) from rfl)
  have HNE := Lib.hid (show l ≠ [] from fun h => by rw [h] at h7; simp at h7)
  have HSL := Lib.hid (fun i j => Nat.le_trans (gapT_part (l := l) i j) (show (gapT l).size ≤ 20000 by omega))
  generalize gapT l = gt at *
  clear hp hq hy hg1 hg2 hgl hwf hwf2 hshort fsz psz hpar hcy he hf hf0 hr1 hr2
  (try dsimp only [ruA] at *)
  clear hb0 ht hv
  go_enter Tryd.func3, Tryd.ntmps3
  go_wp2_with (first
    | (go_at_call 5; refine (HHD.out _ (Below.refl _ _)).mono ?_; rintro e w1 ⟨rfl, hb⟩; have HB1 := Lib.hid hb; clear hb)
    | (go_at_call 6; refine (HLX.out _).mono ?_; rintro e w2 ⟨vt, rfl, hown, hb⟩; obtain ⟨htk, hne⟩ := toks_own hown; have HT2 := Lib.hid htk; obtain ⟨tk, ct, rfl, hct⟩ := hne HNE.out; clear htk hne; have HB2 := Lib.hid (HB1.out.trans (hb.mono HB1.out.size)); clear hb hown)
    | (go_at_call 7; first | ((with_reducible show Calls _ _ #[.string tx] _ _); refine (HPT.out _ HB2.out).mono ?_; rintro e w3 ⟨kx, rfl, hl, hb⟩; obtain ⟨Ax, cx, rfl, _⟩ := hl.slice; have HB3 := Lib.hid ((HB2.out.trans (hb.mono HB2.out.size)).alloc (Nat.le_trans HB2.out.size hb.size) (.cells #[.string y.name, .string y.kind, .int .i64 y.cond.op, .string y.cond.name, .string y.cond.value, .int .i64 y.cond.n, .int .i64 y.cond.extra, .slice Ax y.cond.kids.length cx] 31)); have HT3 := Lib.hid ((HT2.out.later hb).later ((Below.refl _ _).alloc (Nat.le_refl _) (.cells #[.string y.name, .string y.kind, .int .i64 y.cond.op, .string y.cond.name, .string y.cond.value, .int .i64 y.cond.n, .int .i64 y.cond.extra, .slice Ax y.cond.kids.length cx] 31))); have HX3 := Lib.hid (Has.new w3 31 #[.string y.name, .string y.kind, .int .i64 y.cond.op, .string y.cond.name, .string y.cond.value, .int .i64 y.cond.n, .int .i64 y.cond.extra, .slice Ax y.cond.kids.length cx]); have LX3 := Lib.hid (hl.any.later ((Below.refl _ _).alloc (Nat.le_refl _) (.cells #[.string y.name, .string y.kind, .int .i64 y.cond.op, .string y.cond.name, .string y.cond.value, .int .i64 y.cond.n, .int .i64 y.cond.extra, .slice Ax y.cond.kids.length cx] 31))); obtain ⟨dx3, fx3⟩ := HX3.out.facts; (try dsimp only [ruA] at dx3); clear hb hl) | ((with_reducible show Calls _ _ #[.string gt] _ _); refine (HPG.out _ HB4.out).mono ?_; rintro e w5 ⟨ky, rfl, hl, hb⟩; obtain ⟨Ay, cy, rfl, _⟩ := hl.slice; have HB5 := Lib.hid ((HB4.out.trans (hb.mono HB4.out.size)).alloc (Nat.le_trans HB4.out.size hb.size) (.cells #[.string y.name, .string y.kind, .int .i64 y.cond.op, .string y.cond.name, .string y.cond.value, .int .i64 y.cond.n, .int .i64 y.cond.extra, .slice Ay y.cond.kids.length cy] 31)); have HT5 := Lib.hid ((HT4.out.later hb).later ((Below.refl _ _).alloc (Nat.le_refl _) (.cells #[.string y.name, .string y.kind, .int .i64 y.cond.op, .string y.cond.name, .string y.cond.value, .int .i64 y.cond.n, .int .i64 y.cond.extra, .slice Ay y.cond.kids.length cy] 31))); have HX5 := Lib.hid ((HX4.out.below hb HX4.out.lt).alloc (.cells #[.string y.name, .string y.kind, .int .i64 y.cond.op, .string y.cond.name, .string y.cond.value, .int .i64 y.cond.n, .int .i64 y.cond.extra, .slice Ay y.cond.kids.length cy] 31)); have LX5 := Lib.hid ((LX4.out.later hb).later ((Below.refl _ _).alloc (Nat.le_refl _) (.cells #[.string y.name, .string y.kind, .int .i64 y.cond.op, .string y.cond.name, .string y.cond.value, .int .i64 y.cond.n, .int .i64 y.cond.extra, .slice Ay y.cond.kids.length cy] 31))); have HY5 := Lib.hid (Has.new w5 31 #[.string y.name, .string y.kind, .int .i64 y.cond.op, .string y.cond.name, .string y.cond.value, .int .i64 y.cond.n, .int .i64 y.cond.extra, .slice Ay y.cond.kids.length cy]); have LY5 := Lib.hid (hl.any.later ((Below.refl _ _).alloc (Nat.le_refl _) (.cells #[.string y.name, .string y.kind, .int .i64 y.cond.op, .string y.cond.name, .string y.cond.value, .int .i64 y.cond.n, .int .i64 y.cond.extra, .slice Ay y.cond.kids.length cy] 31))); clear dx3 fx3; obtain ⟨dx5, fx5⟩ := HX5.out.facts; (try dsimp only [ruA] at dx5); obtain ⟨dy5, fy5⟩ := HY5.out.facts; (try dsimp only [ruA] at dy5); clear hb hl))
    | (go_at_call 8; refine (HWR.out _ _ HT3.out).mono ?_; rintro e w4 ⟨rfl, hb⟩; have HB4 := Lib.hid (HB3.out.trans (hb.mono HB3.out.size)); have HT4 := Lib.hid (HT3.out.later hb); have HX4 := Lib.hid (HX3.out.below hb HX3.out.lt); have LX4 := Lib.hid (LX3.out.later hb); clear hb)
    | (go_at_call 9; refine (HSM.out _ _ _ LX5.out LY5.out).mono ?_; rintro e w6 ⟨rfl, hb⟩; have HB6 := Lib.hid (HB5.out.trans (hb.mono HB5.out.size)); have HT6 := Lib.hid (HT5.out.later hb); have HX6 := Lib.hid (HX5.out.below hb HX5.out.lt); have LX6 := Lib.hid (LX5.out.later hb); clear dx5 fx5 dy5 fy5; obtain ⟨dx6, fx6⟩ := HX6.out.facts; (try dsimp only [ruA] at dx6); clear hb))
  obtain ⟨p, hp⟩ : ∃ p, l.length = p + 1 := ⟨l.length - 1, by omega⟩
  have HP := Lib.hid hp
  have hn1 : IntKind.i64.wrap ((l.length : Int) - 1) = (p : Int) := (IntWalk.i64_in _ (by omega)).trans (by omega)
  have h5i : (5 : Int) ≤ (ct : Int) := by omega
  have h5p : (5 : Int) ≤ (p : Int) := by omega
  have hpc : (p : Int) ≤ (ct : Int) := by omega
  have hpl : (p : Int) ≤ (l.length : Int) := by omega
  have hlc : (l.length : Int) ≤ (ct : Int) := by omega
  have hc5 : ¬ ct = 5 := by omega
  have hcp : ¬ ct = p := by omega
  have HZ := Lib.hid (show 5 ≤ p ∧ 5 ≤ ct ∧ p - 5 ≤ ct - 5 ∧ l.length - p ≤ ct - p ∧ 5 ≤ l.length ∧ p ≤ l.length by omega)
  have HB := Lib.hid HB6.out.drew
  have HT := Lib.hid (HT6.out.later (Below.refl _ _).drew)
  have HX := Lib.hid HX6.out.drew
  have LX := Lib.hid (show LayS (fun b => b < w6.heap.size) w6.drew (.slice Ax y.cond.kids.length cx) y.cond.kids from (LX6.out.mono fun b _ h => h).later (Below.refl _ _).drew)
  have HN := Lib.hid (show w6.heap.size ≤ w6.drew.heap.size from Nat.le_refl _)
  have hz1 := HSL.out 0 5
  have hz2 := HSL.out 5 p
  have hz3 := HSL.out p l.length
  have HW1 := Lib.hid (fun v W (h : TokS W v ((l.take 5).drop 0)) => HWP.out 0 5 v W h)
  have HW2 := Lib.hid (fun v W (h : TokS W v ((l.take p).drop 5)) => HWP.out 5 p v W h)
  have HW9 := Lib.hid (fun v W (h : TokS W v ((l.take l.length).drop p)) => HWP.out p l.length v W h)
  have hpd : parT l = gapT ((l.take 5).drop 0) ++ ⟨#[40]⟩ ++ gapT ((l.take p).drop 5) ++ ⟨#[41]⟩ ++ gapT ((l.take l.length).drop p) := by rw [HPD.out, List.drop_zero, List.take_length, HP.out, Nat.add_sub_cancel]
  generalize gapT ((l.take 5).drop 0) = g1 at *
  generalize gapT ((l.take p).drop 5) = g2 at *
  generalize gapT ((l.take l.length).drop p) = g3 at *
  have HPE := Lib.hid hpd
  have m1 : ¬ 9223372036854775807 < g1.size + 1 := by omega
  have m2 : ¬ 9223372036854775807 < g1.size + 1 + g2.size := by omega
  have m3 : ¬ 9223372036854775807 < g1.size + 1 + g2.size + 1 := by omega
  have m4 : ¬ 9223372036854775807 < g1.size + 1 + g2.size + 1 + g3.size := by omega
  clear hpd hz1 hz2 hz3 HWP HSL HPD
  have HW3 := Lib.hid (show w3.heap.size < w6.heap.size from HX6.out.lt)
  clear hp h7 h7i HB6 HT6 HX6 LX6 HY5 LY5 HX5 LX5 HX4 LX4 HX3 LX3 HPT HPG HWR dx6 fx6
  go_cut [13, 14, 15] from 69 to 92 (fun p g i wc => ∃ gc Az cz, p = .pointer (some ⟨gc, 0, none⟩) ∧ g = .int .i64 0 ∧ i = .int .i64 0 ∧ Hid (Below w.heap.size w wc) ∧ Hid (Has wc w3.heap.size 31 #[.string y.name, .string y.kind, .int .i64 y.cond.op, .string y.cond.name, .string y.cond.value, .int .i64 y.cond.n, .int .i64 y.cond.extra, .slice Ax y.cond.kids.length cx]) ∧ Hid (Lay wc (.slice Ax y.cond.kids.length cx) y.cond.kids) ∧ Hid (Has wc gc 31 #[.string y.name, .string y.kind, .int .i64 y.cond.op, .string y.cond.name, .string y.cond.value, .int .i64 y.cond.n, .int .i64 y.cond.extra, .slice Az y.cond.kids.length cz]) ∧ Hid (Lay wc (.slice Az y.cond.kids.length cz) y.cond.kids))
  case first =>
    refine wp_region_held_drew (S := fun _ => True) (by kernel_rfl) (trivial) (fun hHeld => ?_)
    refine plI [(0, false), (1, false), (4, false), (5, false), (6, false), (7, false), (8, false), (12, false), (13, false), (14, false), (15, false), (16, false)] ?_
    repeat ((first | ((with_reducible show Plan ((_, true) :: _) _); refine plF ?_) | (refine plR (v := ?_) ?_ ?_; rotate_left; focus (intro W hSW; (try dsimp only at hSW); go_simp; all_goals (with_reducible rfl)))); try simp only [Act.put, List.setIfInBounds_toArray, List.set_cons_zero, List.set_cons_succ])
    refine plE ?_
    refine wpAnyH_ready (rs := [2, 24]) (by kernel_rfl) (by simp) ?_
    refine AllReadyH.cons (o := ⟨_, _, _, _, _, _⟩) rfl (fun K hK => ?_) ?_
    · go_simp
      go_at_call 8; refine (HW1.out _ _ (show TokS _ (.slice (some ⟨tk, 0, none⟩) 5 ct) _ from HT.out.part 0 5 (Nat.zero_le _) HZ.out.2.2.2.2.1 HZ.out.2.1)).mono ?_; rintro e v2 ⟨rfl, hb⟩; have HB2 := Lib.hid (HB.out.trans (hb.mono HB.out.size)); have HT2 := Lib.hid (HT.out.later hb); have HX2 := Lib.hid (HX.out.below hb HX.out.lt); have LX2 := Lib.hid (LX.out.later hb); have HN2 := Lib.hid (Nat.le_trans HN.out hb.size); clear hb
      refine hK.out _ _ (trivial) (fun hHeld => ?_)
      clear hK K
      try simp only [Act.put, List.setIfInBounds_toArray, List.set_cons_zero, List.set_cons_succ]
      refine plI [(3, false)] ?_
      repeat ((first | ((with_reducible show Plan ((_, true) :: _) _); refine plF ?_) | (refine plR (v := ?_) ?_ ?_; rotate_left; focus (intro W hSW; (try dsimp only at hSW); go_simp; all_goals (with_reducible rfl)))); try simp only [Act.put, List.setIfInBounds_toArray, List.set_cons_zero, List.set_cons_succ])
      refine plE ?_
      refine wpAnyH_ready (rs := [9, 24]) (by kernel_rfl) (by simp) ?_
      refine AllReadyH.cons (o := ⟨_, _, _, _, _, _⟩) rfl (fun K hK => ?_) ?_
      · go_simp
        go_at_call 8; refine (HW2.out _ _ (show TokS _ (.slice (some ⟨tk, 15, none⟩) (p - 5) (ct - 5)) _ from HT2.out.part 5 p HZ.out.1 HZ.out.2.2.2.2.2 HZ.out.2.2.1)).mono ?_; rintro e v9 ⟨rfl, hb⟩; have HB2_9 := Lib.hid (HB2.out.trans (hb.mono HB2.out.size)); have HT2_9 := Lib.hid (HT2.out.later hb); have HX2_9 := Lib.hid (HX2.out.below hb HX2.out.lt); have LX2_9 := Lib.hid (LX2.out.later hb); have HN2_9 := Lib.hid (Nat.le_trans HN2.out hb.size); clear hb
        refine hK.out _ _ (trivial) (fun hHeld => ?_)
        clear hK K
        try simp only [Act.put, List.setIfInBounds_toArray, List.set_cons_zero, List.set_cons_succ]
        refine plI [(10, false), (11, false)] ?_
        repeat ((first | ((with_reducible show Plan ((_, true) :: _) _); refine plF ?_) | (refine plR (v := ?_) ?_ ?_; rotate_left; focus (intro W hSW; (try dsimp only at hSW); go_simp; all_goals (with_reducible rfl)))); try simp only [Act.put, List.setIfInBounds_toArray, List.set_cons_zero, List.set_cons_succ])
        refine plE ?_
        refine wpAnyH_ready (rs := [17, 24]) (by kernel_rfl) (by simp) ?_
        refine AllReadyH.cons (o := ⟨_, _, _, _, _, _⟩) rfl (fun K hK => ?_) ?_
        · go_simp
          go_at_call 8; refine (HW9.out _ _ (show TokS _ (.slice (some ⟨tk, p * 3, none⟩) (l.length - p) (ct - p)) _ from (by have h := HT2_9.out.part p l.length HZ.out.2.2.2.2.2 (Nat.le_refl _) HZ.out.2.2.2.1; rw [Nat.zero_add] at h; exact h))).mono ?_; rintro e v17 ⟨rfl, hb⟩; have HB2_9_17 := Lib.hid (HB2_9.out.trans (hb.mono HB2_9.out.size)); have HT2_9_17 := Lib.hid (HT2_9.out.later hb); have HX2_9_17 := Lib.hid (HX2_9.out.below hb HX2_9.out.lt); have LX2_9_17 := Lib.hid (LX2_9.out.later hb); have HN2_9_17 := Lib.hid (Nat.le_trans HN2_9.out hb.size); clear hb
          refine hK.out _ _ (trivial) (fun hHeld => ?_)
          clear hK K
          try simp only [Act.put, List.setIfInBounds_toArray, List.set_cons_zero, List.set_cons_succ]
          refine plI [(18, false)] ?_
          repeat ((first | ((with_reducible show Plan ((_, true) :: _) _); refine plF ?_) | (refine plR (v := ?_) ?_ ?_; rotate_left; focus (intro W hSW; (try dsimp only at hSW); go_simp; all_goals (with_reducible rfl)))); try simp only [Act.put, List.setIfInBounds_toArray, List.set_cons_zero, List.set_cons_succ])
          refine plE ?_
          refine wpAnyH_ready (rs := [19, 24]) (by kernel_rfl) (by simp) ?_
          refine AllReadyH.cons (o := ⟨_, _, _, _, _, _⟩) rfl (fun K hK => ?_) ?_
          · rw [← HPE.out]
            go_simp
            go_at_call 7; refine (HPP.out _ HB2_9_17.out).mono ?_; rintro e v19 ⟨kz, rfl, hl, hb⟩; obtain ⟨Az, cz, rfl, _⟩ := hl.slice; have LP2_9_17_19 := Lib.hid hl; have HB2_9_17_19 := Lib.hid (HB2_9_17.out.trans (hb.mono HB2_9_17.out.size)); have HT2_9_17_19 := Lib.hid (HT2_9_17.out.later hb); have HX2_9_17_19 := Lib.hid (HX2_9_17.out.below hb HX2_9_17.out.lt); have LX2_9_17_19 := Lib.hid (LX2_9_17.out.later hb); have HN2_9_17_19 := Lib.hid (Nat.le_trans HN2_9_17.out hb.size); clear hb
            refine hK.out _ _ (trivial) (fun hHeld => ?_)
            clear hK K
            try simp only [Act.put, List.setIfInBounds_toArray, List.set_cons_zero, List.set_cons_succ]
            refine plI [(20, false), (21, false), (22, false), (23, false)] ?_
            repeat ((first | ((with_reducible show Plan ((_, true) :: _) _); refine plF ?_) | (refine plR (v := ?_) ?_ ?_; rotate_left; focus (intro W hSW; (try dsimp only at hSW); go_simp; all_goals (with_reducible rfl)))); try simp only [Act.put, List.setIfInBounds_toArray, List.set_cons_zero, List.set_cons_succ])
            refine plE ?_
            refine wpAnyH_ready (rs := [24]) (by kernel_rfl) (by simp) ?_
            refine AllReadyH.cons (o := ⟨_, _, _, _, _, _⟩) rfl (fun K hK => ?_) AllReadyH.nil
            go_simp
            have HB2_9_17_19_24 := Lib.hid (HB2_9_17_19.out.alloc HB2_9_17_19.out.size (.cells #[.string ⟨#[]⟩, .string ⟨#[]⟩, .int .i64 0, .string ⟨#[]⟩, .string ⟨#[]⟩, .int .i64 0, .int .i64 0, .slice none 0 0] 31))
            have HT2_9_17_19_24 := Lib.hid (HT2_9_17_19.out.later ((Below.refl _ _).alloc (Nat.le_refl _) (.cells #[.string ⟨#[]⟩, .string ⟨#[]⟩, .int .i64 0, .string ⟨#[]⟩, .string ⟨#[]⟩, .int .i64 0, .int .i64 0, .slice none 0 0] 31)))
            have HX2_9_17_19_24 := Lib.hid (HX2_9_17_19.out.alloc (.cells #[.string ⟨#[]⟩, .string ⟨#[]⟩, .int .i64 0, .string ⟨#[]⟩, .string ⟨#[]⟩, .int .i64 0, .int .i64 0, .slice none 0 0] 31))
            have LX2_9_17_19_24 := Lib.hid (LX2_9_17_19.out.later ((Below.refl _ _).alloc (Nat.le_refl _) (.cells #[.string ⟨#[]⟩, .string ⟨#[]⟩, .int .i64 0, .string ⟨#[]⟩, .string ⟨#[]⟩, .int .i64 0, .int .i64 0, .slice none 0 0] 31)))
            have HN2_9_17_19_24 := Lib.hid (Nat.le_trans HN2_9_17_19.out ((Below.refl _ _).alloc (Nat.le_refl _) (.cells #[.string ⟨#[]⟩, .string ⟨#[]⟩, .int .i64 0, .string ⟨#[]⟩, .string ⟨#[]⟩, .int .i64 0, .int .i64 0, .slice none 0 0] 31)).size)
            have HC2_9_17_19_24 := Lib.hid (Has.new (v19) 31 #[.string ⟨#[]⟩, .string ⟨#[]⟩, .int .i64 0, .string ⟨#[]⟩, .string ⟨#[]⟩, .int .i64 0, .int .i64 0, .slice none 0 0])
            have LP2_9_17_19_24 := Lib.hid (LP2_9_17_19.out.later ((Below.refl _ _).alloc (Nat.le_refl _) (.cells #[.string ⟨#[]⟩, .string ⟨#[]⟩, .int .i64 0, .string ⟨#[]⟩, .string ⟨#[]⟩, .int .i64 0, .int .i64 0, .slice none 0 0] 31)))
            refine hK.out _ _ (trivial) (fun hHeld => ?_)
            clear hK K
            try simp only [Act.put, List.setIfInBounds_toArray, List.set_cons_zero, List.set_cons_succ]
            refine wpAnyH_ready (rs := [25]) (by kernel_rfl) (by simp) ?_
            refine AllReadyH.cons (o := ⟨_, _, _, _, _, _⟩) rfl (fun K hK => ?_) AllReadyH.nil
            go_simp
            refine hK.out _ _ (trivial) (fun hHeld => ?_)
            clear hK K
            try simp only [Act.put]
            refine plI [(26, false), (27, false)] ?_
            repeat ((first | ((with_reducible show Plan ((_, true) :: _) _); refine plF ?_) | (refine plR (v := ?_) ?_ ?_; rotate_left; focus (intro W hSW; (try dsimp only at hSW); go_simp; all_goals (with_reducible rfl)))); try simp only [Act.put, List.setIfInBounds_toArray, List.set_cons_zero, List.set_cons_succ])
            refine plE ?_
            refine wpAnyH_done (by kernel_rfl) ?_ _
            clear hHeld
            go_wp2_with fail
            go_meet
            exact ⟨_, _, _, rfl, rfl, rfl, HB2_9_17_19.out.alloc HB2_9_17_19.out.size (.cells #[.string y.name, .string y.kind, .int .i64 y.cond.op, .string y.cond.name, .string y.cond.value, .int .i64 y.cond.n, .int .i64 y.cond.extra, .slice Az y.cond.kids.length cz] 31), HX2_9_17_19.out.alloc (.cells #[.string y.name, .string y.kind, .int .i64 y.cond.op, .string y.cond.name, .string y.cond.value, .int .i64 y.cond.n, .int .i64 y.cond.extra, .slice Az y.cond.kids.length cz] 31), (LX2_9_17_19.out.later ((Below.refl _ _).alloc (Nat.le_refl _) (.cells #[.string y.name, .string y.kind, .int .i64 y.cond.op, .string y.cond.name, .string y.cond.value, .int .i64 y.cond.n, .int .i64 y.cond.extra, .slice Az y.cond.kids.length cz] 31))).any, Has.new v19 31 #[.string y.name, .string y.kind, .int .i64 y.cond.op, .string y.cond.name, .string y.cond.value, .int .i64 y.cond.n, .int .i64 y.cond.extra, .slice Az y.cond.kids.length cz], (LP2_9_17_19.out.later ((Below.refl _ _).alloc (Nat.le_refl _) (.cells #[.string y.name, .string y.kind, .int .i64 y.cond.op, .string y.cond.name, .string y.cond.value, .int .i64 y.cond.n, .int .i64 y.cond.extra, .slice Az y.cond.kids.length cz] 31))).any⟩
          refine AllReadyH.cons (o := ⟨_, _, _, _, _, _⟩) rfl (fun K hK => ?_) AllReadyH.nil
          go_simp
          have HB2_9_17_24 := Lib.hid (HB2_9_17.out.alloc HB2_9_17.out.size (.cells #[.string ⟨#[]⟩, .string ⟨#[]⟩, .int .i64 0, .string ⟨#[]⟩, .string ⟨#[]⟩, .int .i64 0, .int .i64 0, .slice none 0 0] 31))
          have HT2_9_17_24 := Lib.hid (HT2_9_17.out.later ((Below.refl _ _).alloc (Nat.le_refl _) (.cells #[.string ⟨#[]⟩, .string ⟨#[]⟩, .int .i64 0, .string ⟨#[]⟩, .string ⟨#[]⟩, .int .i64 0, .int .i64 0, .slice none 0 0] 31)))
          have HX2_9_17_24 := Lib.hid (HX2_9_17.out.alloc (.cells #[.string ⟨#[]⟩, .string ⟨#[]⟩, .int .i64 0, .string ⟨#[]⟩, .string ⟨#[]⟩, .int .i64 0, .int .i64 0, .slice none 0 0] 31))
          have LX2_9_17_24 := Lib.hid (LX2_9_17.out.later ((Below.refl _ _).alloc (Nat.le_refl _) (.cells #[.string ⟨#[]⟩, .string ⟨#[]⟩, .int .i64 0, .string ⟨#[]⟩, .string ⟨#[]⟩, .int .i64 0, .int .i64 0, .slice none 0 0] 31)))
          have HN2_9_17_24 := Lib.hid (Nat.le_trans HN2_9_17.out ((Below.refl _ _).alloc (Nat.le_refl _) (.cells #[.string ⟨#[]⟩, .string ⟨#[]⟩, .int .i64 0, .string ⟨#[]⟩, .string ⟨#[]⟩, .int .i64 0, .int .i64 0, .slice none 0 0] 31)).size)
          have HC2_9_17_24 := Lib.hid (Has.new (v17) 31 #[.string ⟨#[]⟩, .string ⟨#[]⟩, .int .i64 0, .string ⟨#[]⟩, .string ⟨#[]⟩, .int .i64 0, .int .i64 0, .slice none 0 0])
          refine hK.out _ _ (trivial) (fun hHeld => ?_)
          clear hK K
          try simp only [Act.put, List.setIfInBounds_toArray, List.set_cons_zero, List.set_cons_succ]
          refine wpAnyH_ready (rs := [19]) (by kernel_rfl) (by simp) ?_
          refine AllReadyH.cons (o := ⟨_, _, _, _, _, _⟩) rfl (fun K hK => ?_) AllReadyH.nil
          rw [← HPE.out]
          go_simp
          go_at_call 7; refine (HPP.out _ HB2_9_17_24.out).mono ?_; rintro e v19 ⟨kz, rfl, hl, hb⟩; obtain ⟨Az, cz, rfl, _⟩ := hl.slice; have LP2_9_17_24_19 := Lib.hid hl; have HB2_9_17_24_19 := Lib.hid (HB2_9_17_24.out.trans (hb.mono HB2_9_17_24.out.size)); have HT2_9_17_24_19 := Lib.hid (HT2_9_17_24.out.later hb); have HX2_9_17_24_19 := Lib.hid (HX2_9_17_24.out.below hb HX2_9_17_24.out.lt); have LX2_9_17_24_19 := Lib.hid (LX2_9_17_24.out.later hb); have HN2_9_17_24_19 := Lib.hid (Nat.le_trans HN2_9_17_24.out hb.size); have HC2_9_17_24_19 := Lib.hid (HC2_9_17_24.out.below hb HC2_9_17_24.out.lt); clear hb
          refine hK.out _ _ (trivial) (fun hHeld => ?_)
          clear hK K
          try simp only [Act.put, List.setIfInBounds_toArray, List.set_cons_zero, List.set_cons_succ]
          refine plI [(20, false), (21, false), (22, false), (23, false)] ?_
          repeat ((first | ((with_reducible show Plan ((_, true) :: _) _); refine plF ?_) | (refine plR (v := ?_) ?_ ?_; rotate_left; focus (intro W hSW; (try dsimp only at hSW); go_simp; all_goals (with_reducible rfl)))); try simp only [Act.put, List.setIfInBounds_toArray, List.set_cons_zero, List.set_cons_succ])
          refine plE ?_
          refine wpAnyH_ready (rs := [25]) (by kernel_rfl) (by simp) ?_
          refine AllReadyH.cons (o := ⟨_, _, _, _, _, _⟩) rfl (fun K hK => ?_) AllReadyH.nil
          obtain ⟨dc, fc⟩ := HC2_9_17_24_19.out.facts
          go_simp
          clear dc fc
          refine hK.out _ _ (trivial) (fun hHeld => ?_)
          clear hK K
          try simp only [Act.put]
          refine plI [(26, false), (27, false)] ?_
          repeat ((first | ((with_reducible show Plan ((_, true) :: _) _); refine plF ?_) | (refine plR (v := ?_) ?_ ?_; rotate_left; focus (intro W hSW; (try dsimp only at hSW); go_simp; all_goals (with_reducible rfl)))); try simp only [Act.put, List.setIfInBounds_toArray, List.set_cons_zero, List.set_cons_succ])
          refine plE ?_
          refine wpAnyH_done (by kernel_rfl) ?_ _
          clear hHeld
          have hbe : Below w.heap.size w (eight v19 v17.heap.size (.string y.name) (.string y.kind) (.int .i64 y.cond.op) (.string y.cond.name) (.string y.cond.value) (.int .i64 y.cond.n) (.int .i64 y.cond.extra) (.slice Az y.cond.kids.length cz)) := eight_below HB2_9_17_24_19.out (Nat.le_trans HB2_9_17.out.size (Nat.le_refl _)) _ _ _ _ _ _ _ _
          have hxe : Has (eight v19 v17.heap.size (.string y.name) (.string y.kind) (.int .i64 y.cond.op) (.string y.cond.name) (.string y.cond.value) (.int .i64 y.cond.n) (.int .i64 y.cond.extra) (.slice Az y.cond.kids.length cz)) w3.heap.size 31 #[.string y.name, .string y.kind, .int .i64 y.cond.op, .string y.cond.name, .string y.cond.value, .int .i64 y.cond.n, .int .i64 y.cond.extra, .slice Ax y.cond.kids.length cx] := (eight_old _ _ _ _ _ _ _ _ _ _ (Nat.ne_of_lt (Nat.lt_of_lt_of_le HW3.out HN2_9_17.out))).trans HX2_9_17_24_19.out
          have hle : Lay (eight v19 v17.heap.size (.string y.name) (.string y.kind) (.int .i64 y.cond.op) (.string y.cond.name) (.string y.cond.value) (.int .i64 y.cond.n) (.int .i64 y.cond.extra) (.slice Az y.cond.kids.length cz)) (.slice Ax y.cond.kids.length cx) y.cond.kids := (eight_lay (T := fun _ => True) LX2_9_17_24_19.out (fun b hb => ⟨Nat.ne_of_lt (Nat.lt_of_lt_of_le hb HN2_9_17.out), trivial⟩) _ _ _ _ _ _ _ _).any
          have hce : Has (eight v19 v17.heap.size (.string y.name) (.string y.kind) (.int .i64 y.cond.op) (.string y.cond.name) (.string y.cond.value) (.int .i64 y.cond.n) (.int .i64 y.cond.extra) (.slice Az y.cond.kids.length cz)) v17.heap.size 31 #[.string y.name, .string y.kind, .int .i64 y.cond.op, .string y.cond.name, .string y.cond.value, .int .i64 y.cond.n, .int .i64 y.cond.extra, .slice Az y.cond.kids.length cz] := eight_has HC2_9_17_24_19.out _ _ _ _ _ _ _ _
          have hpe : Lay (eight v19 v17.heap.size (.string y.name) (.string y.kind) (.int .i64 y.cond.op) (.string y.cond.name) (.string y.cond.value) (.int .i64 y.cond.n) (.int .i64 y.cond.extra) (.slice Az y.cond.kids.length cz)) (.slice Az y.cond.kids.length cz) y.cond.kids := (eight_lay (T := fun _ => True) LP2_9_17_24_19.out (fun b hb => ⟨Nat.ne_of_gt (Nat.lt_of_lt_of_le HC2_9_17_24.out.lt hb), trivial⟩) _ _ _ _ _ _ _ _).any
          change Exit.then _ _ _ _ (eight v19 v17.heap.size (.string y.name) (.string y.kind) (.int .i64 y.cond.op) (.string y.cond.name) (.string y.cond.value) (.int .i64 y.cond.n) (.int .i64 y.cond.extra) (.slice Az y.cond.kids.length cz))
          generalize (eight v19 v17.heap.size (.string y.name) (.string y.kind) (.int .i64 y.cond.op) (.string y.cond.name) (.string y.cond.value) (.int .i64 y.cond.n) (.int .i64 y.cond.extra) (.slice Az y.cond.kids.length cz)) = we at *
          go_wp2_with fail
          go_meet
          exact ⟨_, _, _, rfl, rfl, rfl, hbe, hxe, hle, hce, hpe⟩
        refine AllReadyH.cons (o := ⟨_, _, _, _, _, _⟩) rfl (fun K hK => ?_) AllReadyH.nil
        go_simp
        have HB2_9_24 := Lib.hid (HB2_9.out.alloc HB2_9.out.size (.cells #[.string ⟨#[]⟩, .string ⟨#[]⟩, .int .i64 0, .string ⟨#[]⟩, .string ⟨#[]⟩, .int .i64 0, .int .i64 0, .slice none 0 0] 31))
        have HT2_9_24 := Lib.hid (HT2_9.out.later ((Below.refl _ _).alloc (Nat.le_refl _) (.cells #[.string ⟨#[]⟩, .string ⟨#[]⟩, .int .i64 0, .string ⟨#[]⟩, .string ⟨#[]⟩, .int .i64 0, .int .i64 0, .slice none 0 0] 31)))
        have HX2_9_24 := Lib.hid (HX2_9.out.alloc (.cells #[.string ⟨#[]⟩, .string ⟨#[]⟩, .int .i64 0, .string ⟨#[]⟩, .string ⟨#[]⟩, .int .i64 0, .int .i64 0, .slice none 0 0] 31))
        have LX2_9_24 := Lib.hid (LX2_9.out.later ((Below.refl _ _).alloc (Nat.le_refl _) (.cells #[.string ⟨#[]⟩, .string ⟨#[]⟩, .int .i64 0, .string ⟨#[]⟩, .string ⟨#[]⟩, .int .i64 0, .int .i64 0, .slice none 0 0] 31)))
        have HN2_9_24 := Lib.hid (Nat.le_trans HN2_9.out ((Below.refl _ _).alloc (Nat.le_refl _) (.cells #[.string ⟨#[]⟩, .string ⟨#[]⟩, .int .i64 0, .string ⟨#[]⟩, .string ⟨#[]⟩, .int .i64 0, .int .i64 0, .slice none 0 0] 31)).size)
        have HC2_9_24 := Lib.hid (Has.new (v9) 31 #[.string ⟨#[]⟩, .string ⟨#[]⟩, .int .i64 0, .string ⟨#[]⟩, .string ⟨#[]⟩, .int .i64 0, .int .i64 0, .slice none 0 0])
        refine hK.out _ _ (trivial) (fun hHeld => ?_)
        clear hK K
        try simp only [Act.put, List.setIfInBounds_toArray, List.set_cons_zero, List.set_cons_succ]
        refine wpAnyH_ready (rs := [17]) (by kernel_rfl) (by simp) ?_
        refine AllReadyH.cons (o := ⟨_, _, _, _, _, _⟩) rfl (fun K hK => ?_) AllReadyH.nil
        go_simp
        go_at_call 8; refine (HW9.out _ _ (show TokS _ (.slice (some ⟨tk, p * 3, none⟩) (l.length - p) (ct - p)) _ from (by have h := HT2_9_24.out.part p l.length HZ.out.2.2.2.2.2 (Nat.le_refl _) HZ.out.2.2.2.1; rw [Nat.zero_add] at h; exact h))).mono ?_; rintro e v17 ⟨rfl, hb⟩; have HB2_9_24_17 := Lib.hid (HB2_9_24.out.trans (hb.mono HB2_9_24.out.size)); have HT2_9_24_17 := Lib.hid (HT2_9_24.out.later hb); have HX2_9_24_17 := Lib.hid (HX2_9_24.out.below hb HX2_9_24.out.lt); have LX2_9_24_17 := Lib.hid (LX2_9_24.out.later hb); have HN2_9_24_17 := Lib.hid (Nat.le_trans HN2_9_24.out hb.size); have HC2_9_24_17 := Lib.hid (HC2_9_24.out.below hb HC2_9_24.out.lt); clear hb
        refine hK.out _ _ (trivial) (fun hHeld => ?_)
        clear hK K
        try simp only [Act.put, List.setIfInBounds_toArray, List.set_cons_zero, List.set_cons_succ]
        refine plI [(18, false)] ?_
        repeat ((first | ((with_reducible show Plan ((_, true) :: _) _); refine plF ?_) | (refine plR (v := ?_) ?_ ?_; rotate_left; focus (intro W hSW; (try dsimp only at hSW); go_simp; all_goals (with_reducible rfl)))); try simp only [Act.put, List.setIfInBounds_toArray, List.set_cons_zero, List.set_cons_succ])
        refine plE ?_
        refine wpAnyH_ready (rs := [19]) (by kernel_rfl) (by simp) ?_
        refine AllReadyH.cons (o := ⟨_, _, _, _, _, _⟩) rfl (fun K hK => ?_) AllReadyH.nil
        rw [← HPE.out]
        go_simp
        go_at_call 7; refine (HPP.out _ HB2_9_24_17.out).mono ?_; rintro e v19 ⟨kz, rfl, hl, hb⟩; obtain ⟨Az, cz, rfl, _⟩ := hl.slice; have LP2_9_24_17_19 := Lib.hid hl; have HB2_9_24_17_19 := Lib.hid (HB2_9_24_17.out.trans (hb.mono HB2_9_24_17.out.size)); have HT2_9_24_17_19 := Lib.hid (HT2_9_24_17.out.later hb); have HX2_9_24_17_19 := Lib.hid (HX2_9_24_17.out.below hb HX2_9_24_17.out.lt); have LX2_9_24_17_19 := Lib.hid (LX2_9_24_17.out.later hb); have HN2_9_24_17_19 := Lib.hid (Nat.le_trans HN2_9_24_17.out hb.size); have HC2_9_24_17_19 := Lib.hid (HC2_9_24_17.out.below hb HC2_9_24_17.out.lt); clear hb
        refine hK.out _ _ (trivial) (fun hHeld => ?_)
        clear hK K
        try simp only [Act.put, List.setIfInBounds_toArray, List.set_cons_zero, List.set_cons_succ]
        refine plI [(20, false), (21, false), (22, false), (23, false)] ?_
        repeat ((first | ((with_reducible show Plan ((_, true) :: _) _); refine plF ?_) | (refine plR (v := ?_) ?_ ?_; rotate_left; focus (intro W hSW; (try dsimp only at hSW); go_simp; all_goals (with_reducible rfl)))); try simp only [Act.put, List.setIfInBounds_toArray, List.set_cons_zero, List.set_cons_succ])
        refine plE ?_
        refine wpAnyH_ready (rs := [25]) (by kernel_rfl) (by simp) ?_
        refine AllReadyH.cons (o := ⟨_, _, _, _, _, _⟩) rfl (fun K hK => ?_) AllReadyH.nil
        obtain ⟨dc, fc⟩ := HC2_9_24_17_19.out.facts
        go_simp
        clear dc fc
        refine hK.out _ _ (trivial) (fun hHeld => ?_)
        clear hK K
        try simp only [Act.put]
        refine plI [(26, false), (27, false)] ?_
        repeat ((first | ((with_reducible show Plan ((_, true) :: _) _); refine plF ?_) | (refine plR (v := ?_) ?_ ?_; rotate_left; focus (intro W hSW; (try dsimp only at hSW); go_simp; all_goals (with_reducible rfl)))); try simp only [Act.put, List.setIfInBounds_toArray, List.set_cons_zero, List.set_cons_succ])
        refine plE ?_
        refine wpAnyH_done (by kernel_rfl) ?_ _
        clear hHeld
        have hbe : Below w.heap.size w (eight v19 v9.heap.size (.string y.name) (.string y.kind) (.int .i64 y.cond.op) (.string y.cond.name) (.string y.cond.value) (.int .i64 y.cond.n) (.int .i64 y.cond.extra) (.slice Az y.cond.kids.length cz)) := eight_below HB2_9_24_17_19.out (Nat.le_trans HB2_9.out.size (Nat.le_refl _)) _ _ _ _ _ _ _ _
        have hxe : Has (eight v19 v9.heap.size (.string y.name) (.string y.kind) (.int .i64 y.cond.op) (.string y.cond.name) (.string y.cond.value) (.int .i64 y.cond.n) (.int .i64 y.cond.extra) (.slice Az y.cond.kids.length cz)) w3.heap.size 31 #[.string y.name, .string y.kind, .int .i64 y.cond.op, .string y.cond.name, .string y.cond.value, .int .i64 y.cond.n, .int .i64 y.cond.extra, .slice Ax y.cond.kids.length cx] := (eight_old _ _ _ _ _ _ _ _ _ _ (Nat.ne_of_lt (Nat.lt_of_lt_of_le HW3.out HN2_9.out))).trans HX2_9_24_17_19.out
        have hle : Lay (eight v19 v9.heap.size (.string y.name) (.string y.kind) (.int .i64 y.cond.op) (.string y.cond.name) (.string y.cond.value) (.int .i64 y.cond.n) (.int .i64 y.cond.extra) (.slice Az y.cond.kids.length cz)) (.slice Ax y.cond.kids.length cx) y.cond.kids := (eight_lay (T := fun _ => True) LX2_9_24_17_19.out (fun b hb => ⟨Nat.ne_of_lt (Nat.lt_of_lt_of_le hb HN2_9.out), trivial⟩) _ _ _ _ _ _ _ _).any
        have hce : Has (eight v19 v9.heap.size (.string y.name) (.string y.kind) (.int .i64 y.cond.op) (.string y.cond.name) (.string y.cond.value) (.int .i64 y.cond.n) (.int .i64 y.cond.extra) (.slice Az y.cond.kids.length cz)) v9.heap.size 31 #[.string y.name, .string y.kind, .int .i64 y.cond.op, .string y.cond.name, .string y.cond.value, .int .i64 y.cond.n, .int .i64 y.cond.extra, .slice Az y.cond.kids.length cz] := eight_has HC2_9_24_17_19.out _ _ _ _ _ _ _ _
        have hpe : Lay (eight v19 v9.heap.size (.string y.name) (.string y.kind) (.int .i64 y.cond.op) (.string y.cond.name) (.string y.cond.value) (.int .i64 y.cond.n) (.int .i64 y.cond.extra) (.slice Az y.cond.kids.length cz)) (.slice Az y.cond.kids.length cz) y.cond.kids := (eight_lay (T := fun _ => True) LP2_9_24_17_19.out (fun b hb => ⟨Nat.ne_of_gt (Nat.lt_of_lt_of_le HC2_9_24_17.out.lt hb), trivial⟩) _ _ _ _ _ _ _ _).any
        change Exit.then _ _ _ _ (eight v19 v9.heap.size (.string y.name) (.string y.kind) (.int .i64 y.cond.op) (.string y.cond.name) (.string y.cond.value) (.int .i64 y.cond.n) (.int .i64 y.cond.extra) (.slice Az y.cond.kids.length cz))
        generalize (eight v19 v9.heap.size (.string y.name) (.string y.kind) (.int .i64 y.cond.op) (.string y.cond.name) (.string y.cond.value) (.int .i64 y.cond.n) (.int .i64 y.cond.extra) (.slice Az y.cond.kids.length cz)) = we at *
        go_wp2_with fail
        go_meet
        exact ⟨_, _, _, rfl, rfl, rfl, hbe, hxe, hle, hce, hpe⟩
      refine AllReadyH.cons (o := ⟨_, _, _, _, _, _⟩) rfl (fun K hK => ?_) AllReadyH.nil
      go_simp
      have HB2_24 := Lib.hid (HB2.out.alloc HB2.out.size (.cells #[.string ⟨#[]⟩, .string ⟨#[]⟩, .int .i64 0, .string ⟨#[]⟩, .string ⟨#[]⟩, .int .i64 0, .int .i64 0, .slice none 0 0] 31))
      have HT2_24 := Lib.hid (HT2.out.later ((Below.refl _ _).alloc (Nat.le_refl _) (.cells #[.string ⟨#[]⟩, .string ⟨#[]⟩, .int .i64 0, .string ⟨#[]⟩, .string ⟨#[]⟩, .int .i64 0, .int .i64 0, .slice none 0 0] 31)))
      have HX2_24 := Lib.hid (HX2.out.alloc (.cells #[.string ⟨#[]⟩, .string ⟨#[]⟩, .int .i64 0, .string ⟨#[]⟩, .string ⟨#[]⟩, .int .i64 0, .int .i64 0, .slice none 0 0] 31))
      have LX2_24 := Lib.hid (LX2.out.later ((Below.refl _ _).alloc (Nat.le_refl _) (.cells #[.string ⟨#[]⟩, .string ⟨#[]⟩, .int .i64 0, .string ⟨#[]⟩, .string ⟨#[]⟩, .int .i64 0, .int .i64 0, .slice none 0 0] 31)))
      have HN2_24 := Lib.hid (Nat.le_trans HN2.out ((Below.refl _ _).alloc (Nat.le_refl _) (.cells #[.string ⟨#[]⟩, .string ⟨#[]⟩, .int .i64 0, .string ⟨#[]⟩, .string ⟨#[]⟩, .int .i64 0, .int .i64 0, .slice none 0 0] 31)).size)
      have HC2_24 := Lib.hid (Has.new (v2) 31 #[.string ⟨#[]⟩, .string ⟨#[]⟩, .int .i64 0, .string ⟨#[]⟩, .string ⟨#[]⟩, .int .i64 0, .int .i64 0, .slice none 0 0])
      refine hK.out _ _ (trivial) (fun hHeld => ?_)
      clear hK K
      try simp only [Act.put, List.setIfInBounds_toArray, List.set_cons_zero, List.set_cons_succ]
      refine wpAnyH_ready (rs := [9]) (by kernel_rfl) (by simp) ?_
      refine AllReadyH.cons (o := ⟨_, _, _, _, _, _⟩) rfl (fun K hK => ?_) AllReadyH.nil
      go_simp
      go_at_call 8; refine (HW2.out _ _ (show TokS _ (.slice (some ⟨tk, 15, none⟩) (p - 5) (ct - 5)) _ from HT2_24.out.part 5 p HZ.out.1 HZ.out.2.2.2.2.2 HZ.out.2.2.1)).mono ?_; rintro e v9 ⟨rfl, hb⟩; have HB2_24_9 := Lib.hid (HB2_24.out.trans (hb.mono HB2_24.out.size)); have HT2_24_9 := Lib.hid (HT2_24.out.later hb); have HX2_24_9 := Lib.hid (HX2_24.out.below hb HX2_24.out.lt); have LX2_24_9 := Lib.hid (LX2_24.out.later hb); have HN2_24_9 := Lib.hid (Nat.le_trans HN2_24.out hb.size); have HC2_24_9 := Lib.hid (HC2_24.out.below hb HC2_24.out.lt); clear hb
      refine hK.out _ _ (trivial) (fun hHeld => ?_)
      clear hK K
      try simp only [Act.put, List.setIfInBounds_toArray, List.set_cons_zero, List.set_cons_succ]
      refine plI [(10, false), (11, false)] ?_
      repeat ((first | ((with_reducible show Plan ((_, true) :: _) _); refine plF ?_) | (refine plR (v := ?_) ?_ ?_; rotate_left; focus (intro W hSW; (try dsimp only at hSW); go_simp; all_goals (with_reducible rfl)))); try simp only [Act.put, List.setIfInBounds_toArray, List.set_cons_zero, List.set_cons_succ])
      refine plE ?_
      refine wpAnyH_ready (rs := [17]) (by kernel_rfl) (by simp) ?_
      refine AllReadyH.cons (o := ⟨_, _, _, _, _, _⟩) rfl (fun K hK => ?_) AllReadyH.nil
      go_simp
      go_at_call 8; refine (HW9.out _ _ (show TokS _ (.slice (some ⟨tk, p * 3, none⟩) (l.length - p) (ct - p)) _ from (by have h := HT2_24_9.out.part p l.length HZ.out.2.2.2.2.2 (Nat.le_refl _) HZ.out.2.2.2.1; rw [Nat.zero_add] at h; exact h))).mono ?_; rintro e v17 ⟨rfl, hb⟩; have HB2_24_9_17 := Lib.hid (HB2_24_9.out.trans (hb.mono HB2_24_9.out.size)); have HT2_24_9_17 := Lib.hid (HT2_24_9.out.later hb); have HX2_24_9_17 := Lib.hid (HX2_24_9.out.below hb HX2_24_9.out.lt); have LX2_24_9_17 := Lib.hid (LX2_24_9.out.later hb); have HN2_24_9_17 := Lib.hid (Nat.le_trans HN2_24_9.out hb.size); have HC2_24_9_17 := Lib.hid (HC2_24_9.out.below hb HC2_24_9.out.lt); clear hb
      refine hK.out _ _ (trivial) (fun hHeld => ?_)
      clear hK K
      try simp only [Act.put, List.setIfInBounds_toArray, List.set_cons_zero, List.set_cons_succ]
      refine plI [(18, false)] ?_
      repeat ((first | ((with_reducible show Plan ((_, true) :: _) _); refine plF ?_) | (refine plR (v := ?_) ?_ ?_; rotate_left; focus (intro W hSW; (try dsimp only at hSW); go_simp; all_goals (with_reducible rfl)))); try simp only [Act.put, List.setIfInBounds_toArray, List.set_cons_zero, List.set_cons_succ])
      refine plE ?_
      refine wpAnyH_ready (rs := [19]) (by kernel_rfl) (by simp) ?_
      refine AllReadyH.cons (o := ⟨_, _, _, _, _, _⟩) rfl (fun K hK => ?_) AllReadyH.nil
      rw [← HPE.out]
      go_simp
      go_at_call 7; refine (HPP.out _ HB2_24_9_17.out).mono ?_; rintro e v19 ⟨kz, rfl, hl, hb⟩; obtain ⟨Az, cz, rfl, _⟩ := hl.slice; have LP2_24_9_17_19 := Lib.hid hl; have HB2_24_9_17_19 := Lib.hid (HB2_24_9_17.out.trans (hb.mono HB2_24_9_17.out.size)); have HT2_24_9_17_19 := Lib.hid (HT2_24_9_17.out.later hb); have HX2_24_9_17_19 := Lib.hid (HX2_24_9_17.out.below hb HX2_24_9_17.out.lt); have LX2_24_9_17_19 := Lib.hid (LX2_24_9_17.out.later hb); have HN2_24_9_17_19 := Lib.hid (Nat.le_trans HN2_24_9_17.out hb.size); have HC2_24_9_17_19 := Lib.hid (HC2_24_9_17.out.below hb HC2_24_9_17.out.lt); clear hb
      refine hK.out _ _ (trivial) (fun hHeld => ?_)
      clear hK K
      try simp only [Act.put, List.setIfInBounds_toArray, List.set_cons_zero, List.set_cons_succ]
      refine plI [(20, false), (21, false), (22, false), (23, false)] ?_
      repeat ((first | ((with_reducible show Plan ((_, true) :: _) _); refine plF ?_) | (refine plR (v := ?_) ?_ ?_; rotate_left; focus (intro W hSW; (try dsimp only at hSW); go_simp; all_goals (with_reducible rfl)))); try simp only [Act.put, List.setIfInBounds_toArray, List.set_cons_zero, List.set_cons_succ])
      refine plE ?_
      refine wpAnyH_ready (rs := [25]) (by kernel_rfl) (by simp) ?_
      refine AllReadyH.cons (o := ⟨_, _, _, _, _, _⟩) rfl (fun K hK => ?_) AllReadyH.nil
      obtain ⟨dc, fc⟩ := HC2_24_9_17_19.out.facts
      go_simp
      clear dc fc
      refine hK.out _ _ (trivial) (fun hHeld => ?_)
      clear hK K
      try simp only [Act.put]
      refine plI [(26, false), (27, false)] ?_
      repeat ((first | ((with_reducible show Plan ((_, true) :: _) _); refine plF ?_) | (refine plR (v := ?_) ?_ ?_; rotate_left; focus (intro W hSW; (try dsimp only at hSW); go_simp; all_goals (with_reducible rfl)))); try simp only [Act.put, List.setIfInBounds_toArray, List.set_cons_zero, List.set_cons_succ])
      refine plE ?_
      refine wpAnyH_done (by kernel_rfl) ?_ _
      clear hHeld
      have hbe : Below w.heap.size w (eight v19 v2.heap.size (.string y.name) (.string y.kind) (.int .i64 y.cond.op) (.string y.cond.name) (.string y.cond.value) (.int .i64 y.cond.n) (.int .i64 y.cond.extra) (.slice Az y.cond.kids.length cz)) := eight_below HB2_24_9_17_19.out (Nat.le_trans HB2.out.size (Nat.le_refl _)) _ _ _ _ _ _ _ _
      have hxe : Has (eight v19 v2.heap.size (.string y.name) (.string y.kind) (.int .i64 y.cond.op) (.string y.cond.name) (.string y.cond.value) (.int .i64 y.cond.n) (.int .i64 y.cond.extra) (.slice Az y.cond.kids.length cz)) w3.heap.size 31 #[.string y.name, .string y.kind, .int .i64 y.cond.op, .string y.cond.name, .string y.cond.value, .int .i64 y.cond.n, .int .i64 y.cond.extra, .slice Ax y.cond.kids.length cx] := (eight_old _ _ _ _ _ _ _ _ _ _ (Nat.ne_of_lt (Nat.lt_of_lt_of_le HW3.out HN2.out))).trans HX2_24_9_17_19.out
      have hle : Lay (eight v19 v2.heap.size (.string y.name) (.string y.kind) (.int .i64 y.cond.op) (.string y.cond.name) (.string y.cond.value) (.int .i64 y.cond.n) (.int .i64 y.cond.extra) (.slice Az y.cond.kids.length cz)) (.slice Ax y.cond.kids.length cx) y.cond.kids := (eight_lay (T := fun _ => True) LX2_24_9_17_19.out (fun b hb => ⟨Nat.ne_of_lt (Nat.lt_of_lt_of_le hb HN2.out), trivial⟩) _ _ _ _ _ _ _ _).any
      have hce : Has (eight v19 v2.heap.size (.string y.name) (.string y.kind) (.int .i64 y.cond.op) (.string y.cond.name) (.string y.cond.value) (.int .i64 y.cond.n) (.int .i64 y.cond.extra) (.slice Az y.cond.kids.length cz)) v2.heap.size 31 #[.string y.name, .string y.kind, .int .i64 y.cond.op, .string y.cond.name, .string y.cond.value, .int .i64 y.cond.n, .int .i64 y.cond.extra, .slice Az y.cond.kids.length cz] := eight_has HC2_24_9_17_19.out _ _ _ _ _ _ _ _
      have hpe : Lay (eight v19 v2.heap.size (.string y.name) (.string y.kind) (.int .i64 y.cond.op) (.string y.cond.name) (.string y.cond.value) (.int .i64 y.cond.n) (.int .i64 y.cond.extra) (.slice Az y.cond.kids.length cz)) (.slice Az y.cond.kids.length cz) y.cond.kids := (eight_lay (T := fun _ => True) LP2_24_9_17_19.out (fun b hb => ⟨Nat.ne_of_gt (Nat.lt_of_lt_of_le HC2_24_9_17.out.lt hb), trivial⟩) _ _ _ _ _ _ _ _).any
      change Exit.then _ _ _ _ (eight v19 v2.heap.size (.string y.name) (.string y.kind) (.int .i64 y.cond.op) (.string y.cond.name) (.string y.cond.value) (.int .i64 y.cond.n) (.int .i64 y.cond.extra) (.slice Az y.cond.kids.length cz))
      generalize (eight v19 v2.heap.size (.string y.name) (.string y.kind) (.int .i64 y.cond.op) (.string y.cond.name) (.string y.cond.value) (.int .i64 y.cond.n) (.int .i64 y.cond.extra) (.slice Az y.cond.kids.length cz)) = we at *
      go_wp2_with fail
      go_meet
      exact ⟨_, _, _, rfl, rfl, rfl, hbe, hxe, hle, hce, hpe⟩
    refine AllReadyH.cons (o := ⟨_, _, _, _, _, _⟩) rfl (fun K hK => ?_) AllReadyH.nil
    go_simp
    have HB24 := Lib.hid (HB.out.alloc HB.out.size (.cells #[.string ⟨#[]⟩, .string ⟨#[]⟩, .int .i64 0, .string ⟨#[]⟩, .string ⟨#[]⟩, .int .i64 0, .int .i64 0, .slice none 0 0] 31))
    have HT24 := Lib.hid (HT.out.later ((Below.refl _ _).alloc (Nat.le_refl _) (.cells #[.string ⟨#[]⟩, .string ⟨#[]⟩, .int .i64 0, .string ⟨#[]⟩, .string ⟨#[]⟩, .int .i64 0, .int .i64 0, .slice none 0 0] 31)))
    have HX24 := Lib.hid (HX.out.alloc (.cells #[.string ⟨#[]⟩, .string ⟨#[]⟩, .int .i64 0, .string ⟨#[]⟩, .string ⟨#[]⟩, .int .i64 0, .int .i64 0, .slice none 0 0] 31))
    have LX24 := Lib.hid (LX.out.later ((Below.refl _ _).alloc (Nat.le_refl _) (.cells #[.string ⟨#[]⟩, .string ⟨#[]⟩, .int .i64 0, .string ⟨#[]⟩, .string ⟨#[]⟩, .int .i64 0, .int .i64 0, .slice none 0 0] 31)))
    have HN24 := Lib.hid (Nat.le_trans HN.out ((Below.refl _ _).alloc (Nat.le_refl _) (.cells #[.string ⟨#[]⟩, .string ⟨#[]⟩, .int .i64 0, .string ⟨#[]⟩, .string ⟨#[]⟩, .int .i64 0, .int .i64 0, .slice none 0 0] 31)).size)
    have HC24 := Lib.hid (show Has _ w6.heap.size 31 #[.string ⟨#[]⟩, .string ⟨#[]⟩, .int .i64 0, .string ⟨#[]⟩, .string ⟨#[]⟩, .int .i64 0, .int .i64 0, .slice none 0 0] from Has.new w6.drew 31 #[.string ⟨#[]⟩, .string ⟨#[]⟩, .int .i64 0, .string ⟨#[]⟩, .string ⟨#[]⟩, .int .i64 0, .int .i64 0, .slice none 0 0])
    refine hK.out _ _ (trivial) (fun hHeld => ?_)
    clear hK K
    try simp only [Act.put, List.setIfInBounds_toArray, List.set_cons_zero, List.set_cons_succ]
    refine wpAnyH_ready (rs := [2]) (by kernel_rfl) (by simp) ?_
    refine AllReadyH.cons (o := ⟨_, _, _, _, _, _⟩) rfl (fun K hK => ?_) AllReadyH.nil
    go_simp
    go_at_call 8; refine (HW1.out _ _ (show TokS _ (.slice (some ⟨tk, 0, none⟩) 5 ct) _ from HT24.out.part 0 5 (Nat.zero_le _) HZ.out.2.2.2.2.1 HZ.out.2.1)).mono ?_; rintro e v2 ⟨rfl, hb⟩; have HB24_2 := Lib.hid (HB24.out.trans (hb.mono HB24.out.size)); have HT24_2 := Lib.hid (HT24.out.later hb); have HX24_2 := Lib.hid (HX24.out.below hb HX24.out.lt); have LX24_2 := Lib.hid (LX24.out.later hb); have HN24_2 := Lib.hid (Nat.le_trans HN24.out hb.size); have HC24_2 := Lib.hid (HC24.out.below hb HC24.out.lt); clear hb
    refine hK.out _ _ (trivial) (fun hHeld => ?_)
    clear hK K
    try simp only [Act.put, List.setIfInBounds_toArray, List.set_cons_zero, List.set_cons_succ]
    refine plI [(3, false)] ?_
    repeat ((first | ((with_reducible show Plan ((_, true) :: _) _); refine plF ?_) | (refine plR (v := ?_) ?_ ?_; rotate_left; focus (intro W hSW; (try dsimp only at hSW); go_simp; all_goals (with_reducible rfl)))); try simp only [Act.put, List.setIfInBounds_toArray, List.set_cons_zero, List.set_cons_succ])
    refine plE ?_
    refine wpAnyH_ready (rs := [9]) (by kernel_rfl) (by simp) ?_
    refine AllReadyH.cons (o := ⟨_, _, _, _, _, _⟩) rfl (fun K hK => ?_) AllReadyH.nil
    go_simp
    go_at_call 8; refine (HW2.out _ _ (show TokS _ (.slice (some ⟨tk, 15, none⟩) (p - 5) (ct - 5)) _ from HT24_2.out.part 5 p HZ.out.1 HZ.out.2.2.2.2.2 HZ.out.2.2.1)).mono ?_; rintro e v9 ⟨rfl, hb⟩; have HB24_2_9 := Lib.hid (HB24_2.out.trans (hb.mono HB24_2.out.size)); have HT24_2_9 := Lib.hid (HT24_2.out.later hb); have HX24_2_9 := Lib.hid (HX24_2.out.below hb HX24_2.out.lt); have LX24_2_9 := Lib.hid (LX24_2.out.later hb); have HN24_2_9 := Lib.hid (Nat.le_trans HN24_2.out hb.size); have HC24_2_9 := Lib.hid (HC24_2.out.below hb HC24_2.out.lt); clear hb
    refine hK.out _ _ (trivial) (fun hHeld => ?_)
    clear hK K
    try simp only [Act.put, List.setIfInBounds_toArray, List.set_cons_zero, List.set_cons_succ]
    refine plI [(10, false), (11, false)] ?_
    repeat ((first | ((with_reducible show Plan ((_, true) :: _) _); refine plF ?_) | (refine plR (v := ?_) ?_ ?_; rotate_left; focus (intro W hSW; (try dsimp only at hSW); go_simp; all_goals (with_reducible rfl)))); try simp only [Act.put, List.setIfInBounds_toArray, List.set_cons_zero, List.set_cons_succ])
    refine plE ?_
    refine wpAnyH_ready (rs := [17]) (by kernel_rfl) (by simp) ?_
    refine AllReadyH.cons (o := ⟨_, _, _, _, _, _⟩) rfl (fun K hK => ?_) AllReadyH.nil
    go_simp
    go_at_call 8; refine (HW9.out _ _ (show TokS _ (.slice (some ⟨tk, p * 3, none⟩) (l.length - p) (ct - p)) _ from (by have h := HT24_2_9.out.part p l.length HZ.out.2.2.2.2.2 (Nat.le_refl _) HZ.out.2.2.2.1; rw [Nat.zero_add] at h; exact h))).mono ?_; rintro e v17 ⟨rfl, hb⟩; have HB24_2_9_17 := Lib.hid (HB24_2_9.out.trans (hb.mono HB24_2_9.out.size)); have HT24_2_9_17 := Lib.hid (HT24_2_9.out.later hb); have HX24_2_9_17 := Lib.hid (HX24_2_9.out.below hb HX24_2_9.out.lt); have LX24_2_9_17 := Lib.hid (LX24_2_9.out.later hb); have HN24_2_9_17 := Lib.hid (Nat.le_trans HN24_2_9.out hb.size); have HC24_2_9_17 := Lib.hid (HC24_2_9.out.below hb HC24_2_9.out.lt); clear hb
    refine hK.out _ _ (trivial) (fun hHeld => ?_)
    clear hK K
    try simp only [Act.put, List.setIfInBounds_toArray, List.set_cons_zero, List.set_cons_succ]
    refine plI [(18, false)] ?_
    repeat ((first | ((with_reducible show Plan ((_, true) :: _) _); refine plF ?_) | (refine plR (v := ?_) ?_ ?_; rotate_left; focus (intro W hSW; (try dsimp only at hSW); go_simp; all_goals (with_reducible rfl)))); try simp only [Act.put, List.setIfInBounds_toArray, List.set_cons_zero, List.set_cons_succ])
    refine plE ?_
    refine wpAnyH_ready (rs := [19]) (by kernel_rfl) (by simp) ?_
    refine AllReadyH.cons (o := ⟨_, _, _, _, _, _⟩) rfl (fun K hK => ?_) AllReadyH.nil
    rw [← HPE.out]
    go_simp
    go_at_call 7; refine (HPP.out _ HB24_2_9_17.out).mono ?_; rintro e v19 ⟨kz, rfl, hl, hb⟩; obtain ⟨Az, cz, rfl, _⟩ := hl.slice; have LP24_2_9_17_19 := Lib.hid hl; have HB24_2_9_17_19 := Lib.hid (HB24_2_9_17.out.trans (hb.mono HB24_2_9_17.out.size)); have HT24_2_9_17_19 := Lib.hid (HT24_2_9_17.out.later hb); have HX24_2_9_17_19 := Lib.hid (HX24_2_9_17.out.below hb HX24_2_9_17.out.lt); have LX24_2_9_17_19 := Lib.hid (LX24_2_9_17.out.later hb); have HN24_2_9_17_19 := Lib.hid (Nat.le_trans HN24_2_9_17.out hb.size); have HC24_2_9_17_19 := Lib.hid (HC24_2_9_17.out.below hb HC24_2_9_17.out.lt); clear hb
    refine hK.out _ _ (trivial) (fun hHeld => ?_)
    clear hK K
    try simp only [Act.put, List.setIfInBounds_toArray, List.set_cons_zero, List.set_cons_succ]
    refine plI [(20, false), (21, false), (22, false), (23, false)] ?_
    repeat ((first | ((with_reducible show Plan ((_, true) :: _) _); refine plF ?_) | (refine plR (v := ?_) ?_ ?_; rotate_left; focus (intro W hSW; (try dsimp only at hSW); go_simp; all_goals (with_reducible rfl)))); try simp only [Act.put, List.setIfInBounds_toArray, List.set_cons_zero, List.set_cons_succ])
    refine plE ?_
    refine wpAnyH_ready (rs := [25]) (by kernel_rfl) (by simp) ?_
    refine AllReadyH.cons (o := ⟨_, _, _, _, _, _⟩) rfl (fun K hK => ?_) AllReadyH.nil
    obtain ⟨dc, fc⟩ := HC24_2_9_17_19.out.facts
    go_simp
    clear dc fc
    refine hK.out _ _ (trivial) (fun hHeld => ?_)
    clear hK K
    try simp only [Act.put]
    refine plI [(26, false), (27, false)] ?_
    repeat ((first | ((with_reducible show Plan ((_, true) :: _) _); refine plF ?_) | (refine plR (v := ?_) ?_ ?_; rotate_left; focus (intro W hSW; (try dsimp only at hSW); go_simp; all_goals (with_reducible rfl)))); try simp only [Act.put, List.setIfInBounds_toArray, List.set_cons_zero, List.set_cons_succ])
    refine plE ?_
    refine wpAnyH_done (by kernel_rfl) ?_ _
    clear hHeld
    have hbe : Below w.heap.size w (eight v19 w6.heap.size (.string y.name) (.string y.kind) (.int .i64 y.cond.op) (.string y.cond.name) (.string y.cond.value) (.int .i64 y.cond.n) (.int .i64 y.cond.extra) (.slice Az y.cond.kids.length cz)) := eight_below HB24_2_9_17_19.out (Nat.le_trans HB.out.size (Nat.le_refl _)) _ _ _ _ _ _ _ _
    have hxe : Has (eight v19 w6.heap.size (.string y.name) (.string y.kind) (.int .i64 y.cond.op) (.string y.cond.name) (.string y.cond.value) (.int .i64 y.cond.n) (.int .i64 y.cond.extra) (.slice Az y.cond.kids.length cz)) w3.heap.size 31 #[.string y.name, .string y.kind, .int .i64 y.cond.op, .string y.cond.name, .string y.cond.value, .int .i64 y.cond.n, .int .i64 y.cond.extra, .slice Ax y.cond.kids.length cx] := (eight_old _ _ _ _ _ _ _ _ _ _ (Nat.ne_of_lt (Nat.lt_of_lt_of_le HW3.out HN.out))).trans HX24_2_9_17_19.out
    have hle : Lay (eight v19 w6.heap.size (.string y.name) (.string y.kind) (.int .i64 y.cond.op) (.string y.cond.name) (.string y.cond.value) (.int .i64 y.cond.n) (.int .i64 y.cond.extra) (.slice Az y.cond.kids.length cz)) (.slice Ax y.cond.kids.length cx) y.cond.kids := (eight_lay (T := fun _ => True) LX24_2_9_17_19.out (fun b hb => ⟨Nat.ne_of_lt (Nat.lt_of_lt_of_le hb HN.out), trivial⟩) _ _ _ _ _ _ _ _).any
    have hce : Has (eight v19 w6.heap.size (.string y.name) (.string y.kind) (.int .i64 y.cond.op) (.string y.cond.name) (.string y.cond.value) (.int .i64 y.cond.n) (.int .i64 y.cond.extra) (.slice Az y.cond.kids.length cz)) w6.heap.size 31 #[.string y.name, .string y.kind, .int .i64 y.cond.op, .string y.cond.name, .string y.cond.value, .int .i64 y.cond.n, .int .i64 y.cond.extra, .slice Az y.cond.kids.length cz] := eight_has HC24_2_9_17_19.out _ _ _ _ _ _ _ _
    have hpe : Lay (eight v19 w6.heap.size (.string y.name) (.string y.kind) (.int .i64 y.cond.op) (.string y.cond.name) (.string y.cond.value) (.int .i64 y.cond.n) (.int .i64 y.cond.extra) (.slice Az y.cond.kids.length cz)) (.slice Az y.cond.kids.length cz) y.cond.kids := (eight_lay (T := fun _ => True) LP24_2_9_17_19.out (fun b hb => ⟨Nat.ne_of_gt (Nat.lt_of_lt_of_le HC24_2_9_17.out.lt hb), trivial⟩) _ _ _ _ _ _ _ _).any
    change Exit.then _ _ _ _ (eight v19 w6.heap.size (.string y.name) (.string y.kind) (.int .i64 y.cond.op) (.string y.cond.name) (.string y.cond.value) (.int .i64 y.cond.n) (.int .i64 y.cond.extra) (.slice Az y.cond.kids.length cz))
    generalize (eight v19 w6.heap.size (.string y.name) (.string y.kind) (.int .i64 y.cond.op) (.string y.cond.name) (.string y.cond.value) (.int .i64 y.cond.n) (.int .i64 y.cond.extra) (.slice Az y.cond.kids.length cz)) = we at *
    go_wp2_with fail
    go_meet
    exact ⟨_, _, _, rfl, rfl, rfl, hbe, hxe, hle, hce, hpe⟩
  case rest =>
    obtain ⟨gc, Az, cz, rfl, rfl, rfl, HB9, HX9, LX9, HC9, LC9⟩ := hcut
    obtain ⟨dx9, fx9⟩ := HX9.out.facts; (try dsimp only [ruA] at dx9)
    obtain ⟨dc9, fc9⟩ := HC9.out.facts; (try dsimp only [ruA] at dc9)
    go_wp2_with (go_at_call 9; refine (HSM.out _ _ _ LX9.out LC9.out).mono ?_; rintro e w10 ⟨rfl, hb⟩; have HBA := Lib.hid (HB9.out.trans (hb.mono HB9.out.size)); clear hb)
    go_ret
    exact ⟨rfl, HBA.out⟩
theorem gaps_any (w0 : World) (ht : Tab w0) (hv : Evs w0) (tx : ByteArray) (w : World) (hb0 : Below w0.heap.size w0 w) (htm : tx.size ≤ maxLen) :
    Calls Tryd.prog 3 #[.string tx] w fun e w' => e = .returned (.bool true) ∧ Below w.heap.size w w' := by
  rcases Nat.lt_or_ge 2000 tx.size with hs | hs
  · exact gaps_big w0 ht hv tx w hb0 htm hs
  by_cases he : (lexL tx).2.1 = 0
  · by_cases hf : (parseU tx).2.1 = 0
    · exact gaps_good w0 ht hv tx w hb0 htm hs he hf
    · exact gaps_bad w0 ht hv tx w hb0 htm hs he hf
  · exact gaps_lex w0 ht hv tx w hb0 htm hs he
end Go.Proofs.YtppoeiofdmlpeaaDoor
