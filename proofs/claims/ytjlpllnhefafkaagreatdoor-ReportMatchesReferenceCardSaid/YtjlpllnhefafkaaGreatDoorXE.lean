/- strconv.Atoi at every text, and the closure of event.read that calls it. Condition: the table of powers of ten is not needed; the two error variables hold something. event.read: the event that tokens seem to be. Condition: the error variables, and that the tokens' texts lie in memory. -/
import Derived.RangeFuncBox
import Derived.WalkSmall
import Derived.Test.YtjlpllnhefafkaaGreatDoorU01
import Derived.Test.YtjlpllnhefafkaaGreatDoorU07
import Derived.Test.YtjlpllnhefafkaaGreatDoorXC
namespace Go.Proofs.YtjlpllnhefafkaaGreatDoor
open Go Go.RowKit
/-- The two variables that hold strconv's errors. -/
def Evs (w0 : World) : Prop := ∀ w, Below w0.heap.size w0 w → (∃ tp p, w.var? Tryz.prog "strconv.ErrSyntax" = some #[.iface tp p]) ∧ (∃ tp p, w.var? Tryz.prog "strconv.ErrRange" = some #[.iface tp p])
theorem atoi_any (w0 : World) (hv : Evs w0) (s : ByteArray) (hs : s.size ≤ 1000000) (w : World) (hb : Below w0.heap.size w0 w) :
    Calls Tryz.prog 67 #[.string s] w fun e w' => ∃ er, e = .returned (.tuple #[.int .i64 (atoiV s.data.toList), er]) ∧ Below w.heap.size w w' := by
  obtain ⟨⟨tp, p, hv1⟩, ⟨tq, q, hv2⟩⟩ := hv w hb
  unfold atoiV
  cases h : Lib.atoiAll s.data.toList with
  | ok v =>
    refine (Tryz.strconv_Atoi_ok s (by omega) v h w).mono ?_
    rintro e w' ⟨rfl, h1⟩
    refine ⟨_, rfl, ?_⟩
    rcases h1 with rfl | ⟨t, rfl⟩
    · exact Below.refl _ _
    · exact Lib.bytesWorld_below w 5 t
  | «syntax» =>
    refine (Tryz.strconv_Atoi_syntax_var s (by omega) h tp p w hv1).mono ?_
    rintro e w' ⟨N, rfl, _, _, h2⟩
    exact ⟨_, rfl, h2⟩
  | range =>
    refine (Tryz.strconv_Atoi_range_var s (by omega) h tq q w hv2).mono ?_
    rintro e w' ⟨N, rfl, _, _, h2⟩
    exact ⟨_, rfl, h2⟩
/-- The tokens of event.read, in the box, with what is read of them. -/
structure Tok (bt : Nat) (ts : List ByteArray) (V : World) : Prop where
  has : ∃ g m cap, V.cell? ⟨bt, 0, none⟩ = some (.slice (some ⟨g, 0, none⟩) (m + 9) cap) ∧ (∀ i < 9, V.cell? ⟨g, 3 * i + 1, none⟩ = some (.string (ts.getD i ⟨#[]⟩))) ∧ m + 9 ≤ maxLen ∧ g < V.heap.size
  lt : bt < V.heap.size
theorem Tok.below {bt : Nat} {ts : List ByteArray} {V V' : World} (h : Tok bt ts V) (hb : Below V.heap.size V V') : Tok bt ts V' := by
  obtain ⟨⟨g, m, cap, h1, h2, h3, h4⟩, h5⟩ := h
  exact ⟨⟨g, m, cap, (hb.cell (p := ⟨bt, 0, none⟩) h5).trans h1, fun i hi => (hb.cell (p := ⟨g, 3 * i + 1, none⟩) h4).trans (h2 i hi), h3, Nat.lt_of_lt_of_le h4 hb.size⟩, Nat.lt_of_lt_of_le h5 hb.size⟩
set_option maxRecDepth 100000 in
set_option maxHeartbeats 4000000 in
theorem rd1_any (w0 : World) (hv : Evs w0) (bt : Nat) (ts : List ByteArray) (hts : ∀ t ∈ ts, t.size ≤ 1000000) (i : Nat) (hi : i < 9) (w : World) (hb : Below w0.heap.size w0 w) (h : Tok bt ts w) :
    Calls Tryz.prog 66 #[.int .i64 i, .pointer (some ⟨bt, 0, none⟩)] w fun e w' => e = .returned (.int .i64 (numAt ts i)) ∧ Below w.heap.size w w' := by
  obtain ⟨⟨g, m, cap, h1, h2, h3, h4⟩, h5⟩ := h
  have hsz : (ts.getD i ⟨#[]⟩).size ≤ 1000000 := by
    rcases Nat.lt_or_ge i ts.length with h | h
    · rw [List.getD_eq_getElem?_getD, List.getElem?_eq_getElem h]; exact hts _ (List.getElem_mem h)
    · rw [List.getD_eq_getElem?_getD, List.getElem?_eq_none h]; show (0 : Nat) ≤ _; omega
  have HA := Lib.hid (atoi_any w0 hv (ts.getD i ⟨#[]⟩) hsz w hb)
  have hmx : ((m + 9 : Nat) : Int) ≤ 9223372036854775807 := by unfold maxLen at h3; omega
  have hc := h2 i hi
  show Calls Tryz.prog 66 #[.int .i64 i, .pointer (some ⟨bt, 0, none⟩)] w fun e w' => e = .returned (.int .i64 (atoiV (ts.getD i ⟨#[]⟩).data.toList)) ∧ Below w.heap.size w w'
  clear hts hv hb h2 hsz h3
  generalize ts.getD i ⟨#[]⟩ = s at *
  rcases (by omega : i = 0 ∨ i = 1 ∨ i = 2 ∨ i = 3 ∨ i = 4 ∨ i = 5 ∨ i = 6 ∨ i = 7 ∨ i = 8) with rfl | rfl | rfl | rfl | rfl | rfl | rfl | rfl | rfl
  all_goals
    go_enter Tryz.func66, Tryz.ntmps66
    go_wp2_with (go_at_call 67; refine HA.out.mono ?_; rintro e w2 ⟨er, rfl, hb2⟩)
    refine bodyPost_ret (v := .int .i64 (atoiV s.data.toList)) (by simp [results, Tryz.results66, go_sem]) rfl ?_
    exact ⟨rfl, hb2⟩
end Go.Proofs.YtjlpllnhefafkaaGreatDoor
namespace Go.Proofs.YtjlpllnhefafkaaGreatDoor
open Go Go.RowKit
def zTok : Fnd := ⟨0, ⟨#[]⟩, 0, 0⟩
/-- The tokens' box, and the result's, while tokens are added. -/
structure RdL (base : Nat) (w : World) (fs : List Fnd) (v : Value) (V : World) : Prop where
  box : Boxed V w.heap.size 64 v
  own : V.ownsRow base 99 3 v fs.length (tokCells fs)
  z : Has V (w.heap.size + 1) 49 #[.int .i64 0, .int .i64 0, .string ⟨#[]⟩, .string ⟨#[]⟩, .string ⟨#[]⟩, .string ⟨#[]⟩, .string ⟨#[]⟩, .string ⟨#[]⟩, .int .i64 0, .int .i64 0, .int .i64 0, .int .i64 0, .int .i64 0, .int .i64 0]
  b : Below base w V
theorem RdL.step {base : Nat} {w V W5 : World} {fs : List Fnd} {v v' : Value} {tmp : Obj} (h : RdL base w fs v V) (hb : base ≤ w.heap.size) (x : Fnd) (ho : W5.ownsRow base 99 3 v' (fs.length + 1) (tokCells fs ++ tokV x)) (hg : (V.alloc tmp).grownBy W5 v.ownBlock) :
    Boxed W5 w.heap.size 64 v ∧ RdL base w (fs ++ [x]) v' (W5.setCell ⟨w.heap.size, 0, none⟩ v') := by
  have hz : base ≤ V.heap.size := by have := h.b.size; omega
  obtain ⟨h1, h2, h3, _, h5⟩ := h.box.appended (by decide) h.own hz hb ho hg
  have hn : some (w.heap.size + 1) ≠ v.ownBlock := by
    rcases h.own.2 with ⟨e, _⟩ | ⟨g, cap, cur, e, _, hh, _⟩
    · rw [e]; simp [Value.ownBlock]
    · rw [e]; intro e2
      have e3 : w.heap.size + 1 = g := by simpa [Value.ownBlock] using e2
      rw [← e3, show V.heap[w.heap.size + 1]? = _ from h.z] at hh
      injection hh with hh
      injection hh with _ hh
      revert hh; decide
  refine ⟨h1, h2, by rw [List.length_append, List.length_singleton, tok_snoc]; exact h3, (((h.z.alloc tmp).grown hg hn).far ⟨w.heap.size, 0, none⟩ (fun e => by have e : w.heap.size + 1 = w.heap.size := e; omega) v'), h.b.trans h5⟩
theorem tok_cell (fs : List Fnd) (i : Nat) (hi : i < fs.length) : (tokCells fs)[3 * i + 1]? = some (.string (fs[i]'hi).text) := by
  induction fs generalizing i with
  | nil => exact absurd hi (Nat.not_lt_zero _)
  | cons f r ih =>
    cases i with
    | zero => rfl
    | succ k =>
      show (tokV f ++ tokCells r)[3 * (k + 1) + 1]? = _
      rw [List.getElem?_append_right (by simp [tokV]; omega)]
      have : 3 * (k + 1) + 1 - (tokV f).length = 3 * k + 1 := by simp [tokV]; omega
      rw [this]
      exact ih k (by simpa using hi)
/-- What the box holds once ten empty tokens lie behind the tokens. -/
theorem RdL.tok {base : Nat} {w V : World} {fs : List Fnd} {v : Value} (h : RdL base w (fs ++ List.replicate 10 zTok) v V) (hl : fs.length ≤ 5000) : Tok w.heap.size (fs.map Fnd.text) V := by
  refine ⟨?_, h.box.lt⟩
  rcases h.own.2 with ⟨_, h0⟩ | ⟨g, cap, cur, rfl, _, hh, _, hcap, hsz, ht⟩
  · rw [List.length_append, List.length_replicate] at h0; omega
  · refine ⟨g, fs.length + 1, cap, ?_, fun i hi => ?_, by unfold maxLen; omega, (Array.getElem?_eq_some_iff.1 hh).1⟩
    · rw [h.box.cell, List.length_append, List.length_replicate]
    · have hl2 : (fs ++ List.replicate 10 zTok).length = fs.length + 10 := by rw [List.length_append, List.length_replicate]
      rw [cell_of_row V g _ cur 99 (0, 0) hh]
      have h1 := tok_cell (fs ++ List.replicate 10 zTok) i (by omega)
      rw [← ht, List.getElem?_take] at h1
      split at h1
      · rw [← Array.getElem?_toList, h1]
        congr 2
        rw [List.getD_eq_getElem?_getD, List.getElem?_map]
        rcases Nat.lt_or_ge i fs.length with h2 | h2
        · rw [List.getElem_append_left h2, List.getElem?_eq_getElem h2]; rfl
        · rw [List.getElem_append_right h2, List.getElem?_eq_none h2, List.getElem_replicate]; rfl
      · cases h1
theorem put14 {B b t : Nat} {W V : World} {c0 c1 c2 c3 c4 c5 c6 c7 c8 c9 c10 c11 c12 c13 : Value} (hB : Below B W V) (hb : B ≤ b) (h : Has V b t #[c0, c1, c2, c3, c4, c5, c6, c7, c8, c9, c10, c11, c12, c13]) (a0 a1 a2 a3 a4 a5 a6 a7 a8 a9 a10 a11 a12 a13 : Value) :
    Has (((((((((((((((V).setCell ⟨b, 0, none⟩ a0).setCell ⟨b, 1, none⟩ a1).setCell ⟨b, 2, none⟩ a2).setCell ⟨b, 3, none⟩ a3).setCell ⟨b, 4, none⟩ a4).setCell ⟨b, 5, none⟩ a5).setCell ⟨b, 6, none⟩ a6).setCell ⟨b, 7, none⟩ a7).setCell ⟨b, 8, none⟩ a8).setCell ⟨b, 9, none⟩ a9).setCell ⟨b, 10, none⟩ a10).setCell ⟨b, 11, none⟩ a11).setCell ⟨b, 12, none⟩ a12).setCell ⟨b, 13, none⟩ a13) b t #[a0, a1, a2, a3, a4, a5, a6, a7, a8, a9, a10, a11, a12, a13] ∧ Below B W (((((((((((((((V).setCell ⟨b, 0, none⟩ a0).setCell ⟨b, 1, none⟩ a1).setCell ⟨b, 2, none⟩ a2).setCell ⟨b, 3, none⟩ a3).setCell ⟨b, 4, none⟩ a4).setCell ⟨b, 5, none⟩ a5).setCell ⟨b, 6, none⟩ a6).setCell ⟨b, 7, none⟩ a7).setCell ⟨b, 8, none⟩ a8).setCell ⟨b, 9, none⟩ a9).setCell ⟨b, 10, none⟩ a10).setCell ⟨b, 11, none⟩ a11).setCell ⟨b, 12, none⟩ a12).setCell ⟨b, 13, none⟩ a13) :=
  ⟨by simpa using ((((((((((((((h).put 0 a0).put 1 a1).put 2 a2).put 3 a3).put 4 a4).put 5 a5).put 6 a6).put 7 a7).put 8 a8).put 9 a9).put 10 a10).put 11 a11).put 12 a12).put 13 a13, ((((((((((((((hB).setCell (p := ⟨b, 0, none⟩) hb a0).setCell (p := ⟨b, 1, none⟩) hb a1).setCell (p := ⟨b, 2, none⟩) hb a2).setCell (p := ⟨b, 3, none⟩) hb a3).setCell (p := ⟨b, 4, none⟩) hb a4).setCell (p := ⟨b, 5, none⟩) hb a5).setCell (p := ⟨b, 6, none⟩) hb a6).setCell (p := ⟨b, 7, none⟩) hb a7).setCell (p := ⟨b, 8, none⟩) hb a8).setCell (p := ⟨b, 9, none⟩) hb a9).setCell (p := ⟨b, 10, none⟩) hb a10).setCell (p := ⟨b, 11, none⟩) hb a11).setCell (p := ⟨b, 12, none⟩) hb a12).setCell (p := ⟨b, 13, none⟩) hb a13⟩
theorem share {A G : Nat → World → Prop} {p : Prop} (h1 : (∀ b V, A b V → G b V) → p) (h2 : ∀ b V, A b V → G b V) : p := h1 h2
theorem read_cells (ts : List ByteArray) (tk : Nat → ByteArray) (h : ∀ i, ts.getD i ⟨#[]⟩ = tk i) : (readE ts).cells = #[.int .i64 (opOf (tk 0)), .int .i64 (numAt ts 1), .string (tk 2), .string (if opOf (tk 0) = 1 then tk 3 else ⟨#[]⟩), .string (if opOf (tk 0) = 2 then tk 3 else ⟨#[]⟩), .string (if opOf (tk 0) = 2 then tk 4 else ⟨#[]⟩), .string (if opOf (tk 0) = 6 then tk 3 else ⟨#[]⟩), .string (if opOf (tk 0) = 6 then tk 4 else ⟨#[]⟩), .int .i64 (if opOf (tk 0) = 4 then numAt ts 3 else 0), .int .i64 (if opOf (tk 0) = 4 then numAt ts 4 else 0), .int .i64 (if opOf (tk 0) = 4 then numAt ts 5 else 0), .int .i64 (if opOf (tk 0) = 4 then numAt ts 6 else 0), .int .i64 (if opOf (tk 0) = 4 then numAt ts 7 else 0), .int .i64 (if opOf (tk 0) = 4 then numAt ts 8 else 0)] := by
  unfold readE Ev.cells
  simp only [h]
def opUp : Nat → ByteArray → Int
  | 0, _ => 0
  | k + 1, t => if t = wordS ((k : Int) + 1) then (k : Int) + 1 else opUp k t
theorem op_up (t : ByteArray) : opUp 7 t = opOf t := rfl
set_option maxRecDepth 100000 in
set_option maxHeartbeats 8000000 in
theorem read_any (base : Nat) (fs : List Fnd) (v : Value) (w0 w : World) (hv : Evs w0) (hb0 : Below w0.heap.size w0 w) (hbase : w0.heap.size ≤ base ∧ base ≤ w.heap.size) (ho : w.ownsRow base 99 3 v fs.length (tokCells fs)) (hl : fs.length ≤ 5000) (hts : ∀ t ∈ fs.map Fnd.text, t.size ≤ 1000000) :
    Calls Tryz.prog 38 #[v] w fun r w' => r = .returned (.agg (readE (fs.map Fnd.text)).cells) ∧ Below base w w' := by
  obtain ⟨i0, hi0, hz0, hz1, hz2⟩ := info_parts infoT
  have HI := Lib.hid hi0
  have HZ := Lib.hid hz0
  have HBS := Lib.hid hbase
  have HL := Lib.hid hl
  obtain ⟨A, cc, rfl⟩ : ∃ A cc, v = .slice A fs.length cc := by
    rcases ho.2 with ⟨rfl, h0⟩ | ⟨g, cap, cur, rfl, _⟩
    · exact ⟨none, 0, by rw [h0]⟩
    · exact ⟨_, _, rfl⟩
  have HS := Lib.hid (show RdL base w fs (.slice A fs.length cc) ((w.alloc (.cells #[.slice A fs.length cc] 64)).alloc (.cells #[.int .i64 0, .int .i64 0, .string ⟨#[]⟩, .string ⟨#[]⟩, .string ⟨#[]⟩, .string ⟨#[]⟩, .string ⟨#[]⟩, .string ⟨#[]⟩, .int .i64 0, .int .i64 0, .int .i64 0, .int .i64 0, .int .i64 0, .int .i64 0] 49)) from
    ⟨(Boxed.new w _ _).alloc _, (ho.alloc _).alloc _, (by have h := Has.new (w.alloc (.cells #[.slice A fs.length cc] 64)) 49 #[.int .i64 0, .int .i64 0, .string ⟨#[]⟩, .string ⟨#[]⟩, .string ⟨#[]⟩, .string ⟨#[]⟩, .string ⟨#[]⟩, .string ⟨#[]⟩, .int .i64 0, .int .i64 0, .int .i64 0, .int .i64 0, .int .i64 0, .int .i64 0]; rwa [World.size_alloc] at h), (((Below.refl _ _).alloc hbase.2 _).alloc (by rw [World.size_alloc]; omega) _)⟩)
  have HR := Lib.hid (fun bt i (hi : i < 9) W (hb : Below w0.heap.size w0 W) (h : Tok bt (fs.map Fnd.text) W) => rd1_any w0 hv bt (fs.map Fnd.text) hts i hi W hb h)
  have HB0 := Lib.hid hb0
  clear hi0 hz0 hbase hl ho hts hv hb0
  go_enter Tryz.func38, Tryz.ntmps38
  go_wp2_with fail
  go_loopw [8] (fun i wr => ∃ k : Nat, k ≤ 10 ∧ i = .int .i64 k ∧ ∃ v, Hid (RdL base w (fs ++ List.replicate k zTok) v wr)) (fun i _ => 10 - (intOf i).toNat)
  case atStart => exact ⟨0, by omega, rfl, _, Lib.hid (by simpa using HS.out)⟩
  case round =>
    obtain ⟨k, hk, rfl, v, HQ⟩ := hrel
    have q4 := HQ.out.box
    have d4 := q4.cell
    have g4 := q4.frozen
    by_cases hk10 : k = 10
    · subst hk10
      obtain ⟨w1, hw1⟩ : ∃ W, W = wr := ⟨_, rfl⟩
      subst hw1
      have HT := Lib.hid (HQ.out.tok HL.out)
      have HBW := Lib.hid HQ.out.b
      have HZ1 := Lib.hid HQ.out.z
      clear HQ q4 d4 g4 hk HI HZ hz1 hz2 HS
      obtain ⟨⟨g, m, cap, hq, hc, hm, hg⟩, hbt⟩ := HT.out
      have HC := Lib.hid (fun W (h : Below w1.heap.size w1 W) i (hi : i < 9) => (h.cell (p := ⟨g, 3 * i + 1, none⟩) hg).trans (hc i hi))
      have HQ1 := Lib.hid (fun W (h : Below w1.heap.size w1 W) => (h.cell (p := ⟨w.heap.size, 0, none⟩) hbt).trans hq)
      have HK := Lib.hid (fun W (h : Below w1.heap.size w1 W) => HT.out.below h)
      have HB9 := Lib.hid (fun W (h : Below w1.heap.size w1 W) => HB0.out.trans ((HBW.out.mono HBS.out.1).trans (h.mono (by have := HBW.out.size; have := HBS.out; omega))))
      have hmx : ((m + 9 : Nat) : Int) ≤ 9223372036854775807 := by unfold maxLen at hm; omega
      have hm9 : (9 : Int) ≤ ((m + 9 : Nat) : Int) := by omega
      generalize m + 9 = M at *
      have hm0 : (0 : Int) < (M : Int) := by omega
      have hm0n : 0 < M := by omega
      have hm2 : (2 : Int) < (M : Int) := by omega
      have hm3 : (3 : Int) < (M : Int) := by omega
      have hm4 : (4 : Int) < (M : Int) := by omega
      have HT2 := Lib.hid (show ∃ ts : List ByteArray, ts = fs.map Fnd.text from ⟨_, rfl⟩)
      clear hc hm
      generalize hts : fs.map Fnd.text = ts at *
      obtain ⟨tk, htk⟩ : ∃ tk : Nat → ByteArray, ∀ i, ts.getD i ⟨#[]⟩ = tk i := ⟨_, fun _ => rfl⟩
      simp only [htk] at HC
      go_wp2_with fail
      apply share (A := fun b4 V => w1.heap.size ≤ b4 ∧ Hid (Has V b4 49 #[.int .i64 0, .int .i64 (numAt ts 1), .string (tk 2), .string ⟨#[]⟩, .string ⟨#[]⟩, .string ⟨#[]⟩, .string ⟨#[]⟩, .string ⟨#[]⟩, .int .i64 0, .int .i64 0, .int .i64 0, .int .i64 0, .int .i64 0, .int .i64 0]) ∧ Hid (Below w1.heap.size w1 V))
      case h1 =>
        intro REST
        refine wp_region_held_drew (S := fun W => W.cell? ⟨w.heap.size, 0, none⟩ = some (.slice (some ⟨g, 0, none⟩) M cap) ∧ W.cell? ⟨g, 7, none⟩ = some (.string (tk 2))) (by kernel_rfl) (⟨HQ1.out _ ((Below.refl w1.heap.size w1).drew), HC.out _ ((Below.refl w1.heap.size w1).drew) 2 (by decide)⟩) (fun hHeld => ?_)
        refine plI [(0, false), (2, false), (3, false), (4, false), (5, false)] ?_
        repeat ((first | ((with_reducible show Plan ((_, true) :: _) _); refine plF ?_) | (refine plR (v := ?_) ?_ ?_; rotate_left; focus (intro W hSW; (try dsimp only at hSW); go_simp; all_goals (with_reducible rfl)))); try simp only [Act.put, List.setIfInBounds_toArray, List.set_cons_zero, List.set_cons_succ])
        refine plE ?_
        refine wpAnyH_ready (rs := [1, 7]) (by kernel_rfl) (by simp) ?_
        refine AllReadyH.cons (o := ⟨_, _, _, _, _, _⟩) rfl (fun K hK => ?_) ?_
        · go_simp
          go_at_call 66; refine (HR.out w.heap.size 1 (by decide) _ (HB9.out _ ((Below.refl w1.heap.size w1).drew)) (HK.out _ ((Below.refl w1.heap.size w1).drew))).mono ?_; rintro e u1 ⟨rfl, hb⟩; have HB1s := Lib.hid (((Below.refl w1.heap.size w1).drew).trans (hb.mono ((Below.refl w1.heap.size w1).drew).size))
          clear hb
          refine hK.out _ _ (⟨HQ1.out _ (HB1s.out), HC.out _ (HB1s.out) 2 (by decide)⟩) (fun hHeld => ?_)
          clear hK K
          try simp only [Act.put, List.setIfInBounds_toArray, List.set_cons_zero, List.set_cons_succ]
          refine plI [(6, false)] ?_
          repeat ((first | ((with_reducible show Plan ((_, true) :: _) _); refine plF ?_) | (refine plR (v := ?_) ?_ ?_; rotate_left; focus (intro W hSW; (try dsimp only at hSW); go_simp; all_goals (with_reducible rfl)))); try simp only [Act.put, List.setIfInBounds_toArray, List.set_cons_zero, List.set_cons_succ])
          refine plE ?_
          refine wpAnyH_ready (rs := [7]) (by kernel_rfl) (by simp) ?_
          refine AllReadyH.cons (o := ⟨_, _, _, _, _, _⟩) rfl (fun K hK => ?_) AllReadyH.nil
          go_simp
          have HE7s := Lib.hid (show Has ((u1).alloc (.cells #[.int .i64 0, .int .i64 0, .string ⟨#[]⟩, .string ⟨#[]⟩, .string ⟨#[]⟩, .string ⟨#[]⟩, .string ⟨#[]⟩, .string ⟨#[]⟩, .int .i64 0, .int .i64 0, .int .i64 0, .int .i64 0, .int .i64 0, .int .i64 0] 49)) u1.heap.size 49 #[.int .i64 0, .int .i64 0, .string ⟨#[]⟩, .string ⟨#[]⟩, .string ⟨#[]⟩, .string ⟨#[]⟩, .string ⟨#[]⟩, .string ⟨#[]⟩, .int .i64 0, .int .i64 0, .int .i64 0, .int .i64 0, .int .i64 0, .int .i64 0] from Has.new (u1) 49 #[.int .i64 0, .int .i64 0, .string ⟨#[]⟩, .string ⟨#[]⟩, .string ⟨#[]⟩, .string ⟨#[]⟩, .string ⟨#[]⟩, .string ⟨#[]⟩, .int .i64 0, .int .i64 0, .int .i64 0, .int .i64 0, .int .i64 0, .int .i64 0])
          have HB7s := Lib.hid ((HB1s.out).alloc (HB1s.out).size (.cells #[.int .i64 0, .int .i64 0, .string ⟨#[]⟩, .string ⟨#[]⟩, .string ⟨#[]⟩, .string ⟨#[]⟩, .string ⟨#[]⟩, .string ⟨#[]⟩, .int .i64 0, .int .i64 0, .int .i64 0, .int .i64 0, .int .i64 0, .int .i64 0] 49))
          refine hK.out _ _ (⟨HQ1.out _ (HB7s.out), HC.out _ (HB7s.out) 2 (by decide)⟩) (fun hHeld => ?_)
          clear hK K
          try simp only [Act.put, List.setIfInBounds_toArray, List.set_cons_zero, List.set_cons_succ]
          refine wpAnyH_ready (rs := [8]) (by kernel_rfl) (by simp) ?_
          refine AllReadyH.cons (o := ⟨_, _, _, _, _, _⟩) rfl (fun K hK => ?_) AllReadyH.nil
          obtain ⟨x7, y7⟩ := HE7s.out.facts
          go_simp
          have HEV := Lib.hid (Has.new u1 49 #[.int .i64 0, .int .i64 (numAt ts 1), .string (tk 2), .string ⟨#[]⟩, .string ⟨#[]⟩, .string ⟨#[]⟩, .string ⟨#[]⟩, .string ⟨#[]⟩, .int .i64 0, .int .i64 0, .int .i64 0, .int .i64 0, .int .i64 0, .int .i64 0])
          have HBV := Lib.hid (HB1s.out.alloc HB1s.out.size (.cells #[.int .i64 0, .int .i64 (numAt ts 1), .string (tk 2), .string ⟨#[]⟩, .string ⟨#[]⟩, .string ⟨#[]⟩, .string ⟨#[]⟩, .string ⟨#[]⟩, .int .i64 0, .int .i64 0, .int .i64 0, .int .i64 0, .int .i64 0, .int .i64 0] 49))
          have hb4 : w1.heap.size ≤ u1.heap.size := HB1s.out.size
          refine hK.out _ _ (⟨HQ1.out _ (HBV.out), HC.out _ (HBV.out) 2 (by decide)⟩) (fun hHeld => ?_)
          clear hK K
          try simp only [Act.put]
          refine wpAnyH_done (by kernel_rfl) ?_ _
          clear hHeld x7 y7
          generalize u1.alloc (.cells #[.int .i64 0, .int .i64 (numAt ts 1), .string (tk 2), .string ⟨#[]⟩, .string ⟨#[]⟩, .string ⟨#[]⟩, .string ⟨#[]⟩, .string ⟨#[]⟩, .int .i64 0, .int .i64 0, .int .i64 0, .int .i64 0, .int .i64 0, .int .i64 0] 49) = V at *
          generalize hbq : u1.heap.size = b4 at hb4 HEV ⊢
          exact REST b4 V ⟨hb4, HEV, HBV⟩
        refine AllReadyH.cons (o := ⟨_, _, _, _, _, _⟩) rfl (fun K hK => ?_) AllReadyH.nil
        go_simp
        have HE7s := Lib.hid (show Has ((w1.drew).alloc (.cells #[.int .i64 0, .int .i64 0, .string ⟨#[]⟩, .string ⟨#[]⟩, .string ⟨#[]⟩, .string ⟨#[]⟩, .string ⟨#[]⟩, .string ⟨#[]⟩, .int .i64 0, .int .i64 0, .int .i64 0, .int .i64 0, .int .i64 0, .int .i64 0] 49)) w1.heap.size 49 #[.int .i64 0, .int .i64 0, .string ⟨#[]⟩, .string ⟨#[]⟩, .string ⟨#[]⟩, .string ⟨#[]⟩, .string ⟨#[]⟩, .string ⟨#[]⟩, .int .i64 0, .int .i64 0, .int .i64 0, .int .i64 0, .int .i64 0, .int .i64 0] from Has.new (w1.drew) 49 #[.int .i64 0, .int .i64 0, .string ⟨#[]⟩, .string ⟨#[]⟩, .string ⟨#[]⟩, .string ⟨#[]⟩, .string ⟨#[]⟩, .string ⟨#[]⟩, .int .i64 0, .int .i64 0, .int .i64 0, .int .i64 0, .int .i64 0, .int .i64 0])
        have HB7s := Lib.hid (((Below.refl w1.heap.size w1).drew).alloc ((Below.refl w1.heap.size w1).drew).size (.cells #[.int .i64 0, .int .i64 0, .string ⟨#[]⟩, .string ⟨#[]⟩, .string ⟨#[]⟩, .string ⟨#[]⟩, .string ⟨#[]⟩, .string ⟨#[]⟩, .int .i64 0, .int .i64 0, .int .i64 0, .int .i64 0, .int .i64 0, .int .i64 0] 49))
        refine hK.out _ _ (⟨HQ1.out _ (HB7s.out), HC.out _ (HB7s.out) 2 (by decide)⟩) (fun hHeld => ?_)
        clear hK K
        try simp only [Act.put, List.setIfInBounds_toArray, List.set_cons_zero, List.set_cons_succ]
        refine wpAnyH_ready (rs := [1]) (by kernel_rfl) (by simp) ?_
        refine AllReadyH.cons (o := ⟨_, _, _, _, _, _⟩) rfl (fun K hK => ?_) AllReadyH.nil
        go_simp
        go_at_call 66; refine (HR.out w.heap.size 1 (by decide) _ (HB9.out _ (HB7s.out)) (HK.out _ (HB7s.out))).mono ?_; rintro e u1 ⟨rfl, hb⟩; have HB1s := Lib.hid ((HB7s.out).trans (hb.mono (HB7s.out).size))
        have HE1s := Lib.hid (HE7s.out.below hb HE7s.out.lt)
        clear hb
        refine hK.out _ _ (⟨HQ1.out _ (HB1s.out), HC.out _ (HB1s.out) 2 (by decide)⟩) (fun hHeld => ?_)
        clear hK K
        try simp only [Act.put, List.setIfInBounds_toArray, List.set_cons_zero, List.set_cons_succ]
        refine plI [(6, false)] ?_
        repeat ((first | ((with_reducible show Plan ((_, true) :: _) _); refine plF ?_) | (refine plR (v := ?_) ?_ ?_; rotate_left; focus (intro W hSW; (try dsimp only at hSW); go_simp; all_goals (with_reducible rfl)))); try simp only [Act.put, List.setIfInBounds_toArray, List.set_cons_zero, List.set_cons_succ])
        refine plE ?_
        refine wpAnyH_ready (rs := [8]) (by kernel_rfl) (by simp) ?_
        refine AllReadyH.cons (o := ⟨_, _, _, _, _, _⟩) rfl (fun K hK => ?_) AllReadyH.nil
        obtain ⟨x7, y7⟩ := HE1s.out.facts
        go_simp
        have hb4 : w1.heap.size ≤ w1.heap.size := Nat.le_refl _
        obtain ⟨HEV, HBV⟩ := put14 HB1s.out hb4 HE1s.out (.int .i64 0) (.int .i64 (numAt ts 1)) (.string (tk 2)) (.string ⟨#[]⟩) (.string ⟨#[]⟩) (.string ⟨#[]⟩) (.string ⟨#[]⟩) (.string ⟨#[]⟩) (.int .i64 0) (.int .i64 0) (.int .i64 0) (.int .i64 0) (.int .i64 0) (.int .i64 0)
        replace HEV := Lib.hid HEV
        replace HBV := Lib.hid HBV
        refine hK.out _ _ (⟨HQ1.out _ (HBV.out), HC.out _ (HBV.out) 2 (by decide)⟩) (fun hHeld => ?_)
        clear hK K
        try simp only [Act.put]
        refine wpAnyH_done (by kernel_rfl) ?_ _
        clear hHeld x7 y7
        generalize ((((((((((((((u1).setCell ⟨w1.heap.size, 0, none⟩ (.int .i64 0)).setCell ⟨w1.heap.size, 1, none⟩ (.int .i64 (numAt ts 1))).setCell ⟨w1.heap.size, 2, none⟩ (.string (tk 2))).setCell ⟨w1.heap.size, 3, none⟩ (.string ⟨#[]⟩)).setCell ⟨w1.heap.size, 4, none⟩ (.string ⟨#[]⟩)).setCell ⟨w1.heap.size, 5, none⟩ (.string ⟨#[]⟩)).setCell ⟨w1.heap.size, 6, none⟩ (.string ⟨#[]⟩)).setCell ⟨w1.heap.size, 7, none⟩ (.string ⟨#[]⟩)).setCell ⟨w1.heap.size, 8, none⟩ (.int .i64 0)).setCell ⟨w1.heap.size, 9, none⟩ (.int .i64 0)).setCell ⟨w1.heap.size, 10, none⟩ (.int .i64 0)).setCell ⟨w1.heap.size, 11, none⟩ (.int .i64 0)).setCell ⟨w1.heap.size, 12, none⟩ (.int .i64 0)).setCell ⟨w1.heap.size, 13, none⟩ (.int .i64 0) = V at *
        exact REST w1.heap.size V ⟨hb4, HEV, HBV⟩
      case h2 =>
        intro b4 V hAll
        obtain ⟨hb4, HEV, HBV⟩ := hAll
        go_wp2_with fail
        go_loopw [23] (fun i wr2 => ∃ k : Nat, k ≤ 7 ∧ i = .int .i64 k ∧ Hid (Has wr2 b4 49 #[.int .i64 (opUp k (tk 0)), .int .i64 (numAt ts 1), .string (tk 2), .string ⟨#[]⟩, .string ⟨#[]⟩, .string ⟨#[]⟩, .string ⟨#[]⟩, .string ⟨#[]⟩, .int .i64 0, .int .i64 0, .int .i64 0, .int .i64 0, .int .i64 0, .int .i64 0]) ∧ Hid (Below w1.heap.size w1 wr2)) (fun i _ => 7 - (intOf i).toNat)
        case atStart => exact ⟨0, by omega, rfl, HEV, HBV⟩
        case round =>
          obtain ⟨k, hk, rfl, HE, HB⟩ := hrel
          clear HEV HBV
          by_cases hk7 : k = 7
          · subst hk7
            replace HE := Lib.hid (show Has wr b4 49 #[.int .i64 (opOf (tk 0)), .int .i64 (numAt ts 1), .string (tk 2), .string ⟨#[]⟩, .string ⟨#[]⟩, .string ⟨#[]⟩, .string ⟨#[]⟩, .string ⟨#[]⟩, .int .i64 0, .int .i64 0, .int .i64 0, .int .i64 0, .int .i64 0, .int .i64 0] from HE.out)
            generalize hop : opOf (tk 0) = op at HE
            have hq7 := HQ1.out _ HB.out
            have c3 : wr.cell? ⟨g, 10, none⟩ = some (.string (tk 3)) := HC.out _ HB.out 3 (by decide)
            have c4 : wr.cell? ⟨g, 13, none⟩ = some (.string (tk 4)) := HC.out _ HB.out 4 (by decide)
            by_cases h1 : op = 1
            · subst h1
              obtain ⟨x7, y7⟩ := HE.out.facts
              have HEs := Lib.hid (show Has (wr.setCell ⟨b4, 3, none⟩ (.string (tk 3))) b4 49 #[.int .i64 1, .int .i64 (numAt ts 1), .string (tk 2), .string (tk 3), .string ⟨#[]⟩, .string ⟨#[]⟩, .string ⟨#[]⟩, .string ⟨#[]⟩, .int .i64 0, .int .i64 0, .int .i64 0, .int .i64 0, .int .i64 0, .int .i64 0] from by simpa using HE.out.put 3 (.string (tk 3)))
              have HBs := Lib.hid (HB.out.setCell (p := ⟨b4, 3, none⟩) hb4 (.string (tk 3)))
              have HZV := Lib.hid (HZ1.out.below (HBs.out) HZ1.out.lt)
              obtain ⟨xz, yz⟩ := HZV.out.facts
              obtain ⟨xe, ye⟩ := (HEs.out).facts
              go_wp2_with fail
              obtain ⟨HF, HFB⟩ := put14 (HBW.out.trans ((HBs.out).mono (by have := HBW.out.size; have := HBS.out; omega))) (show base ≤ w.heap.size + 1 by have := HBS.out; omega) HZV.out (.int .i64 1) (.int .i64 (numAt ts 1)) (.string (tk 2)) (.string (tk 3)) (.string ⟨#[]⟩) (.string ⟨#[]⟩) (.string ⟨#[]⟩) (.string ⟨#[]⟩) (.int .i64 0) (.int .i64 0) (.int .i64 0) (.int .i64 0) (.int .i64 0) (.int .i64 0)
              obtain ⟨xf, yf⟩ := HF.facts
              refine bodyPost_ret (v := .agg #[.int .i64 1, .int .i64 (numAt ts 1), .string (tk 2), .string (tk 3), .string ⟨#[]⟩, .string ⟨#[]⟩, .string ⟨#[]⟩, .string ⟨#[]⟩, .int .i64 0, .int .i64 0, .int .i64 0, .int .i64 0, .int .i64 0, .int .i64 0]) (by simp [results, Tryz.results38, go_sem, xf]) rfl ?_
              exact ⟨by rw [hts, read_cells ts tk htk, hop]; rfl, HFB⟩
            by_cases h2 : op = 2
            · subst h2
              obtain ⟨x7, y7⟩ := HE.out.facts
              go_wp2_with fail
              clear x7 y7
              refine wp_region_held_drew (S := fun W => W.cell? ⟨w.heap.size, 0, none⟩ = some (.slice (some ⟨g, 0, none⟩) M cap) ∧ W.cell? ⟨g, 10, none⟩ = some (.string (tk 3)) ∧ W.cell? ⟨g, 13, none⟩ = some (.string (tk 4))) (by kernel_rfl) (⟨HQ1.out _ (HB.out.drew), HC.out _ (HB.out.drew) 3 (by decide), HC.out _ (HB.out.drew) 4 (by decide)⟩) (fun hHeld => ?_)
              refine plI [(0, false), (1, false), (2, false), (3, false), (4, false), (5, false), (6, false), (7, false), (8, false)] ?_
              repeat ((first | ((with_reducible show Plan ((_, true) :: _) _); refine plF ?_) | (refine plR (v := ?_) ?_ ?_; rotate_left; focus (intro W hSW; (try dsimp only at hSW); go_simp; all_goals (with_reducible rfl)))); try simp only [Act.put, List.setIfInBounds_toArray, List.set_cons_zero, List.set_cons_succ])
              refine plE ?_
              refine wpAnyH_ready (rs := [9]) (by kernel_rfl) (by simp) ?_
              refine AllReadyH.cons (o := ⟨_, _, _, _, _, _⟩) rfl (fun K hK => ?_) AllReadyH.nil
              obtain ⟨x7, y7⟩ := HE.out.facts
              go_simp
              have HEa := Lib.hid (show Has (wr.drew.setCell ⟨b4, 4, none⟩ (.string (tk 3))) b4 49 #[.int .i64 2, .int .i64 (numAt ts 1), .string (tk 2), .string ⟨#[]⟩, .string (tk 3), .string ⟨#[]⟩, .string ⟨#[]⟩, .string ⟨#[]⟩, .int .i64 0, .int .i64 0, .int .i64 0, .int .i64 0, .int .i64 0, .int .i64 0] from by simpa using HE.out.drew.put 4 (.string (tk 3)))
              have HBa := Lib.hid (HB.out.drew.setCell (p := ⟨b4, 4, none⟩) hb4 (.string (tk 3)))
              refine hK.out _ _ (⟨HQ1.out _ (HBa.out), HC.out _ (HBa.out) 3 (by decide), HC.out _ (HBa.out) 4 (by decide)⟩) (fun hHeld => ?_)
              clear hK K
              try simp only [Act.put]
              refine plI [(10, false)] ?_
              repeat ((first | ((with_reducible show Plan ((_, true) :: _) _); refine plF ?_) | (refine plR (v := ?_) ?_ ?_; rotate_left; focus (intro W hSW; (try dsimp only at hSW); go_simp; all_goals (with_reducible rfl)))); try simp only [Act.put, List.setIfInBounds_toArray, List.set_cons_zero, List.set_cons_succ])
              refine plE ?_
              refine wpAnyH_ready (rs := [11]) (by kernel_rfl) (by simp) ?_
              refine AllReadyH.cons (o := ⟨_, _, _, _, _, _⟩) rfl (fun K hK => ?_) AllReadyH.nil
              go_simp
              have HEs := Lib.hid (show Has ((wr.drew.setCell ⟨b4, 4, none⟩ (.string (tk 3))).setCell ⟨b4, 5, none⟩ (.string (tk 4))) b4 49 #[.int .i64 2, .int .i64 (numAt ts 1), .string (tk 2), .string ⟨#[]⟩, .string (tk 3), .string (tk 4), .string ⟨#[]⟩, .string ⟨#[]⟩, .int .i64 0, .int .i64 0, .int .i64 0, .int .i64 0, .int .i64 0, .int .i64 0] from by simpa using HEa.out.put 5 (.string (tk 4)))
              have HBs := Lib.hid (HBa.out.setCell (p := ⟨b4, 5, none⟩) hb4 (.string (tk 4)))
              refine hK.out _ _ (⟨HQ1.out _ (HBs.out), HC.out _ (HBs.out) 3 (by decide), HC.out _ (HBs.out) 4 (by decide)⟩) (fun hHeld => ?_)
              clear hK K
              try simp only [Act.put]
              refine wpAnyH_done (by kernel_rfl) ?_ _
              clear hHeld x7 y7
              replace HEs := Lib.hid (show Has (((wr.setCell ⟨b4, 4, none⟩ (.string (tk 3))).setCell ⟨b4, 5, none⟩ (.string (tk 4))).drew) b4 49 #[.int .i64 2, .int .i64 (numAt ts 1), .string (tk 2), .string ⟨#[]⟩, .string (tk 3), .string (tk 4), .string ⟨#[]⟩, .string ⟨#[]⟩, .int .i64 0, .int .i64 0, .int .i64 0, .int .i64 0, .int .i64 0, .int .i64 0] from HEs.out)
              replace HBs := Lib.hid (show Below w1.heap.size w1 (((wr.setCell ⟨b4, 4, none⟩ (.string (tk 3))).setCell ⟨b4, 5, none⟩ (.string (tk 4))).drew) from HBs.out)
              generalize ((wr.setCell ⟨b4, 4, none⟩ (.string (tk 3))).setCell ⟨b4, 5, none⟩ (.string (tk 4))).drew = V2 at *
              have HZV := Lib.hid (HZ1.out.below (HBs.out) HZ1.out.lt)
              obtain ⟨xz, yz⟩ := HZV.out.facts
              obtain ⟨xe, ye⟩ := (HEs.out).facts
              go_wp2_with fail
              obtain ⟨HF, HFB⟩ := put14 (HBW.out.trans ((HBs.out).mono (by have := HBW.out.size; have := HBS.out; omega))) (show base ≤ w.heap.size + 1 by have := HBS.out; omega) HZV.out (.int .i64 2) (.int .i64 (numAt ts 1)) (.string (tk 2)) (.string ⟨#[]⟩) (.string (tk 3)) (.string (tk 4)) (.string ⟨#[]⟩) (.string ⟨#[]⟩) (.int .i64 0) (.int .i64 0) (.int .i64 0) (.int .i64 0) (.int .i64 0) (.int .i64 0)
              obtain ⟨xf, yf⟩ := HF.facts
              refine bodyPost_ret (v := .agg #[.int .i64 2, .int .i64 (numAt ts 1), .string (tk 2), .string ⟨#[]⟩, .string (tk 3), .string (tk 4), .string ⟨#[]⟩, .string ⟨#[]⟩, .int .i64 0, .int .i64 0, .int .i64 0, .int .i64 0, .int .i64 0, .int .i64 0]) (by simp [results, Tryz.results38, go_sem, xf]) rfl ?_
              exact ⟨by rw [hts, read_cells ts tk htk, hop]; rfl, HFB⟩
            by_cases h6 : op = 6
            · subst h6
              obtain ⟨x7, y7⟩ := HE.out.facts
              go_wp2_with fail
              clear x7 y7
              refine wp_region_held_drew (S := fun W => W.cell? ⟨w.heap.size, 0, none⟩ = some (.slice (some ⟨g, 0, none⟩) M cap) ∧ W.cell? ⟨g, 10, none⟩ = some (.string (tk 3)) ∧ W.cell? ⟨g, 13, none⟩ = some (.string (tk 4))) (by kernel_rfl) (⟨HQ1.out _ (HB.out.drew), HC.out _ (HB.out.drew) 3 (by decide), HC.out _ (HB.out.drew) 4 (by decide)⟩) (fun hHeld => ?_)
              refine plI [(0, false), (1, false), (2, false), (3, false), (4, false), (5, false), (6, false), (7, false), (8, false)] ?_
              repeat ((first | ((with_reducible show Plan ((_, true) :: _) _); refine plF ?_) | (refine plR (v := ?_) ?_ ?_; rotate_left; focus (intro W hSW; (try dsimp only at hSW); go_simp; all_goals (with_reducible rfl)))); try simp only [Act.put, List.setIfInBounds_toArray, List.set_cons_zero, List.set_cons_succ])
              refine plE ?_
              refine wpAnyH_ready (rs := [9]) (by kernel_rfl) (by simp) ?_
              refine AllReadyH.cons (o := ⟨_, _, _, _, _, _⟩) rfl (fun K hK => ?_) AllReadyH.nil
              obtain ⟨x7, y7⟩ := HE.out.facts
              go_simp
              have HEa := Lib.hid (show Has (wr.drew.setCell ⟨b4, 6, none⟩ (.string (tk 3))) b4 49 #[.int .i64 6, .int .i64 (numAt ts 1), .string (tk 2), .string ⟨#[]⟩, .string ⟨#[]⟩, .string ⟨#[]⟩, .string (tk 3), .string ⟨#[]⟩, .int .i64 0, .int .i64 0, .int .i64 0, .int .i64 0, .int .i64 0, .int .i64 0] from by simpa using HE.out.drew.put 6 (.string (tk 3)))
              have HBa := Lib.hid (HB.out.drew.setCell (p := ⟨b4, 6, none⟩) hb4 (.string (tk 3)))
              refine hK.out _ _ (⟨HQ1.out _ (HBa.out), HC.out _ (HBa.out) 3 (by decide), HC.out _ (HBa.out) 4 (by decide)⟩) (fun hHeld => ?_)
              clear hK K
              try simp only [Act.put]
              refine plI [(10, false)] ?_
              repeat ((first | ((with_reducible show Plan ((_, true) :: _) _); refine plF ?_) | (refine plR (v := ?_) ?_ ?_; rotate_left; focus (intro W hSW; (try dsimp only at hSW); go_simp; all_goals (with_reducible rfl)))); try simp only [Act.put, List.setIfInBounds_toArray, List.set_cons_zero, List.set_cons_succ])
              refine plE ?_
              refine wpAnyH_ready (rs := [11]) (by kernel_rfl) (by simp) ?_
              refine AllReadyH.cons (o := ⟨_, _, _, _, _, _⟩) rfl (fun K hK => ?_) AllReadyH.nil
              go_simp
              have HEs := Lib.hid (show Has ((wr.drew.setCell ⟨b4, 6, none⟩ (.string (tk 3))).setCell ⟨b4, 7, none⟩ (.string (tk 4))) b4 49 #[.int .i64 6, .int .i64 (numAt ts 1), .string (tk 2), .string ⟨#[]⟩, .string ⟨#[]⟩, .string ⟨#[]⟩, .string (tk 3), .string (tk 4), .int .i64 0, .int .i64 0, .int .i64 0, .int .i64 0, .int .i64 0, .int .i64 0] from by simpa using HEa.out.put 7 (.string (tk 4)))
              have HBs := Lib.hid (HBa.out.setCell (p := ⟨b4, 7, none⟩) hb4 (.string (tk 4)))
              refine hK.out _ _ (⟨HQ1.out _ (HBs.out), HC.out _ (HBs.out) 3 (by decide), HC.out _ (HBs.out) 4 (by decide)⟩) (fun hHeld => ?_)
              clear hK K
              try simp only [Act.put]
              refine wpAnyH_done (by kernel_rfl) ?_ _
              clear hHeld x7 y7
              replace HEs := Lib.hid (show Has (((wr.setCell ⟨b4, 6, none⟩ (.string (tk 3))).setCell ⟨b4, 7, none⟩ (.string (tk 4))).drew) b4 49 #[.int .i64 6, .int .i64 (numAt ts 1), .string (tk 2), .string ⟨#[]⟩, .string ⟨#[]⟩, .string ⟨#[]⟩, .string (tk 3), .string (tk 4), .int .i64 0, .int .i64 0, .int .i64 0, .int .i64 0, .int .i64 0, .int .i64 0] from HEs.out)
              replace HBs := Lib.hid (show Below w1.heap.size w1 (((wr.setCell ⟨b4, 6, none⟩ (.string (tk 3))).setCell ⟨b4, 7, none⟩ (.string (tk 4))).drew) from HBs.out)
              generalize ((wr.setCell ⟨b4, 6, none⟩ (.string (tk 3))).setCell ⟨b4, 7, none⟩ (.string (tk 4))).drew = V2 at *
              have HZV := Lib.hid (HZ1.out.below (HBs.out) HZ1.out.lt)
              obtain ⟨xz, yz⟩ := HZV.out.facts
              obtain ⟨xe, ye⟩ := (HEs.out).facts
              go_wp2_with fail
              obtain ⟨HF, HFB⟩ := put14 (HBW.out.trans ((HBs.out).mono (by have := HBW.out.size; have := HBS.out; omega))) (show base ≤ w.heap.size + 1 by have := HBS.out; omega) HZV.out (.int .i64 6) (.int .i64 (numAt ts 1)) (.string (tk 2)) (.string ⟨#[]⟩) (.string ⟨#[]⟩) (.string ⟨#[]⟩) (.string (tk 3)) (.string (tk 4)) (.int .i64 0) (.int .i64 0) (.int .i64 0) (.int .i64 0) (.int .i64 0) (.int .i64 0)
              obtain ⟨xf, yf⟩ := HF.facts
              refine bodyPost_ret (v := .agg #[.int .i64 6, .int .i64 (numAt ts 1), .string (tk 2), .string ⟨#[]⟩, .string ⟨#[]⟩, .string ⟨#[]⟩, .string (tk 3), .string (tk 4), .int .i64 0, .int .i64 0, .int .i64 0, .int .i64 0, .int .i64 0, .int .i64 0]) (by simp [results, Tryz.results38, go_sem, xf]) rfl ?_
              exact ⟨by rw [hts, read_cells ts tk htk, hop]; rfl, HFB⟩
            by_cases h4 : op = 4
            · subst h4
              obtain ⟨x7, y7⟩ := HE.out.facts
              go_wp2_with (go_at_call 45; refine (intervals_any _ _ _).mono ?_; rintro e v9 ⟨rfl, hb9⟩; have HE9 := Lib.hid (HE.out.below hb9 HE.out.lt); have HB9v := Lib.hid (HB.out.trans (hb9.mono HB.out.size)); clear hb9)
              clear x7 y7 hq7 c3 c4
              go_loopw [75] (fun i wr2 => ∃ k : Nat, k ≤ 3 ∧ i = .int .i64 k ∧ Hid (Has wr2 b4 49 #[.int .i64 4, .int .i64 (numAt ts 1), .string (tk 2), .string ⟨#[]⟩, .string ⟨#[]⟩, .string ⟨#[]⟩, .string ⟨#[]⟩, .string ⟨#[]⟩, .int .i64 (if 0 < k then numAt ts 3 else 0), .int .i64 (if 0 < k then numAt ts 4 else 0), .int .i64 (if 1 < k then numAt ts 5 else 0), .int .i64 (if 1 < k then numAt ts 6 else 0), .int .i64 (if 2 < k then numAt ts 7 else 0), .int .i64 (if 2 < k then numAt ts 8 else 0)]) ∧ Hid (Below w1.heap.size w1 wr2)) (fun i _ => 3 - (intOf i).toNat)
              case atStart => exact ⟨0, by omega, rfl, Lib.hid (by simpa using HE9.out), HB9v⟩
              case round =>
                obtain ⟨k, hk, rfl, HQE, HQB⟩ := hrel
                rcases (by omega : k = 0 ∨ k = 1 ∨ k = 2 ∨ k = 3) with rfl | rfl | rfl | rfl
                · replace HQE := Lib.hid (show Has wr b4 49 #[.int .i64 4, .int .i64 (numAt ts 1), .string (tk 2), .string ⟨#[]⟩, .string ⟨#[]⟩, .string ⟨#[]⟩, .string ⟨#[]⟩, .string ⟨#[]⟩, .int .i64 0, .int .i64 0, .int .i64 0, .int .i64 0, .int .i64 0, .int .i64 0] from by simpa using HQE.out)
                  go_wp2_with (go_at_call 66; first | ((with_reducible show Calls _ _ #[.int .i64 3, _] _ _); refine (HR.out w.heap.size 3 (by decide) _ (HB9.out _ HQB.out) (HK.out _ HQB.out)).mono ?_; rintro e u4 ⟨rfl, hb⟩; have HQE4 := Lib.hid (HQE.out.below hb HQE.out.lt); have HQB4 := Lib.hid (HQB.out.trans (hb.mono HQB.out.size)); clear hb) | ((with_reducible show Calls _ _ #[.int .i64 4, _] _ _); refine (HR.out w.heap.size 4 (by decide) _ (HB9.out _ HQB4.out) (HK.out _ HQB4.out)).mono ?_; rintro e u5 ⟨rfl, hb⟩; have HQE5 := Lib.hid (HQE4.out.below hb HQE4.out.lt); have HQB5 := Lib.hid (HQB4.out.trans (hb.mono HQB4.out.size)); obtain ⟨x5, y5⟩ := HQE5.out.facts; clear hb))
                  go_roundw
                  case rel => exact ⟨1, by omega, rfl, Lib.hid (by have h := (HQE5.out.put 8 (.int .i64 (numAt ts 3))).put 9 (.int .i64 (numAt ts 4)); simpa using h), Lib.hid ((HQB5.out.setCell (p := ⟨b4, 8, none⟩) hb4 _).setCell (p := ⟨b4, 9, none⟩) hb4 _)⟩
                  case measure => simp [intOf]
                · replace HQE := Lib.hid (show Has wr b4 49 #[.int .i64 4, .int .i64 (numAt ts 1), .string (tk 2), .string ⟨#[]⟩, .string ⟨#[]⟩, .string ⟨#[]⟩, .string ⟨#[]⟩, .string ⟨#[]⟩, .int .i64 (numAt ts 3), .int .i64 (numAt ts 4), .int .i64 0, .int .i64 0, .int .i64 0, .int .i64 0] from by simpa using HQE.out)
                  go_wp2_with (go_at_call 66; first | ((with_reducible show Calls _ _ #[.int .i64 5, _] _ _); refine (HR.out w.heap.size 5 (by decide) _ (HB9.out _ HQB.out) (HK.out _ HQB.out)).mono ?_; rintro e u4 ⟨rfl, hb⟩; have HQE4 := Lib.hid (HQE.out.below hb HQE.out.lt); have HQB4 := Lib.hid (HQB.out.trans (hb.mono HQB.out.size)); clear hb) | ((with_reducible show Calls _ _ #[.int .i64 6, _] _ _); refine (HR.out w.heap.size 6 (by decide) _ (HB9.out _ HQB4.out) (HK.out _ HQB4.out)).mono ?_; rintro e u5 ⟨rfl, hb⟩; have HQE5 := Lib.hid (HQE4.out.below hb HQE4.out.lt); have HQB5 := Lib.hid (HQB4.out.trans (hb.mono HQB4.out.size)); obtain ⟨x5, y5⟩ := HQE5.out.facts; clear hb))
                  go_roundw
                  case rel => exact ⟨2, by omega, rfl, Lib.hid (by have h := (HQE5.out.put 10 (.int .i64 (numAt ts 5))).put 11 (.int .i64 (numAt ts 6)); simpa using h), Lib.hid ((HQB5.out.setCell (p := ⟨b4, 10, none⟩) hb4 _).setCell (p := ⟨b4, 11, none⟩) hb4 _)⟩
                  case measure => simp [intOf]
                · replace HQE := Lib.hid (show Has wr b4 49 #[.int .i64 4, .int .i64 (numAt ts 1), .string (tk 2), .string ⟨#[]⟩, .string ⟨#[]⟩, .string ⟨#[]⟩, .string ⟨#[]⟩, .string ⟨#[]⟩, .int .i64 (numAt ts 3), .int .i64 (numAt ts 4), .int .i64 (numAt ts 5), .int .i64 (numAt ts 6), .int .i64 0, .int .i64 0] from by simpa using HQE.out)
                  go_wp2_with (go_at_call 66; first | ((with_reducible show Calls _ _ #[.int .i64 7, _] _ _); refine (HR.out w.heap.size 7 (by decide) _ (HB9.out _ HQB.out) (HK.out _ HQB.out)).mono ?_; rintro e u4 ⟨rfl, hb⟩; have HQE4 := Lib.hid (HQE.out.below hb HQE.out.lt); have HQB4 := Lib.hid (HQB.out.trans (hb.mono HQB.out.size)); clear hb) | ((with_reducible show Calls _ _ #[.int .i64 8, _] _ _); refine (HR.out w.heap.size 8 (by decide) _ (HB9.out _ HQB4.out) (HK.out _ HQB4.out)).mono ?_; rintro e u5 ⟨rfl, hb⟩; have HQE5 := Lib.hid (HQE4.out.below hb HQE4.out.lt); have HQB5 := Lib.hid (HQB4.out.trans (hb.mono HQB4.out.size)); obtain ⟨x5, y5⟩ := HQE5.out.facts; clear hb))
                  go_roundw
                  case rel => exact ⟨3, by omega, rfl, Lib.hid (by have h := (HQE5.out.put 12 (.int .i64 (numAt ts 7))).put 13 (.int .i64 (numAt ts 8)); simpa using h), Lib.hid ((HQB5.out.setCell (p := ⟨b4, 12, none⟩) hb4 _).setCell (p := ⟨b4, 13, none⟩) hb4 _)⟩
                  case measure => simp [intOf]
                · replace HQE := Lib.hid (show Has wr b4 49 #[.int .i64 4, .int .i64 (numAt ts 1), .string (tk 2), .string ⟨#[]⟩, .string ⟨#[]⟩, .string ⟨#[]⟩, .string ⟨#[]⟩, .string ⟨#[]⟩, .int .i64 (numAt ts 3), .int .i64 (numAt ts 4), .int .i64 (numAt ts 5), .int .i64 (numAt ts 6), .int .i64 (numAt ts 7), .int .i64 (numAt ts 8)] from by simpa using HQE.out)
                  have HZV := Lib.hid (HZ1.out.below (HQB.out) HZ1.out.lt)
                  obtain ⟨xz, yz⟩ := HZV.out.facts
                  obtain ⟨xe, ye⟩ := (HQE.out).facts
                  go_wp2_with fail
                  obtain ⟨HF, HFB⟩ := put14 (HBW.out.trans ((HQB.out).mono (by have := HBW.out.size; have := HBS.out; omega))) (show base ≤ w.heap.size + 1 by have := HBS.out; omega) HZV.out (.int .i64 4) (.int .i64 (numAt ts 1)) (.string (tk 2)) (.string ⟨#[]⟩) (.string ⟨#[]⟩) (.string ⟨#[]⟩) (.string ⟨#[]⟩) (.string ⟨#[]⟩) (.int .i64 (numAt ts 3)) (.int .i64 (numAt ts 4)) (.int .i64 (numAt ts 5)) (.int .i64 (numAt ts 6)) (.int .i64 (numAt ts 7)) (.int .i64 (numAt ts 8))
                  obtain ⟨xf, yf⟩ := HF.facts
                  refine bodyPost_ret (v := .agg #[.int .i64 4, .int .i64 (numAt ts 1), .string (tk 2), .string ⟨#[]⟩, .string ⟨#[]⟩, .string ⟨#[]⟩, .string ⟨#[]⟩, .string ⟨#[]⟩, .int .i64 (numAt ts 3), .int .i64 (numAt ts 4), .int .i64 (numAt ts 5), .int .i64 (numAt ts 6), .int .i64 (numAt ts 7), .int .i64 (numAt ts 8)]) (by simp [results, Tryz.results38, go_sem, xf]) rfl ?_
                  exact ⟨by rw [hts, read_cells ts tk htk, hop]; rfl, HFB⟩
            have g1 : (op == 1) = false := by rw [beq_eq_false_iff_ne]; exact h1
            have g2 : (op == 2) = false := by rw [beq_eq_false_iff_ne]; exact h2
            have g6 : (op == 6) = false := by rw [beq_eq_false_iff_ne]; exact h6
            have g4 : (op == 4) = false := by rw [beq_eq_false_iff_ne]; exact h4
            obtain ⟨x7, y7⟩ := HE.out.facts
            have HZV := Lib.hid (HZ1.out.below (HB.out) HZ1.out.lt)
            obtain ⟨xz, yz⟩ := HZV.out.facts
            obtain ⟨xe, ye⟩ := (HE.out).facts
            go_wp2_with fail
            obtain ⟨HF, HFB⟩ := put14 (HBW.out.trans ((HB.out).mono (by have := HBW.out.size; have := HBS.out; omega))) (show base ≤ w.heap.size + 1 by have := HBS.out; omega) HZV.out (.int .i64 op) (.int .i64 (numAt ts 1)) (.string (tk 2)) (.string ⟨#[]⟩) (.string ⟨#[]⟩) (.string ⟨#[]⟩) (.string ⟨#[]⟩) (.string ⟨#[]⟩) (.int .i64 0) (.int .i64 0) (.int .i64 0) (.int .i64 0) (.int .i64 0) (.int .i64 0)
            obtain ⟨xf, yf⟩ := HF.facts
            refine bodyPost_ret (v := .agg #[.int .i64 op, .int .i64 (numAt ts 1), .string (tk 2), .string ⟨#[]⟩, .string ⟨#[]⟩, .string ⟨#[]⟩, .string ⟨#[]⟩, .string ⟨#[]⟩, .int .i64 0, .int .i64 0, .int .i64 0, .int .i64 0, .int .i64 0, .int .i64 0]) (by simp [results, Tryz.results38, go_sem, xf]) rfl ?_
            exact ⟨by rw [hts, read_cells ts tk htk, hop]; simp only [if_neg h1, if_neg h2, if_neg h4, if_neg h6], HFB⟩
          · have hki : (k : Int) < 7 := by omega
            have hwr : IntKind.i64.wrap ((k : Int) + 1) = (k : Int) + 1 := by rw [IntKind.wrap_i64]; omega
            obtain ⟨x7, y7⟩ := HE.out.facts
            go_wp2_with fail
            refine wp_region_held_drew (S := fun W => W.cell? ⟨w.heap.size, 0, none⟩ = some (.slice (some ⟨g, 0, none⟩) M cap) ∧ W.cell? ⟨g, 1, none⟩ = some (.string (tk 0))) (by kernel_rfl) (⟨HQ1.out _ (HB.out.drew), HC.out _ (HB.out.drew) 0 (by decide)⟩) (fun hHeld => ?_)
            refine plI [(0, false), (1, false), (3, false), (4, false), (5, false), (6, false)] ?_
            repeat ((first | ((with_reducible show Plan ((_, true) :: _) _); refine plF ?_) | (refine plR (v := ?_) ?_ ?_; rotate_left; focus (intro W hSW; (try dsimp only at hSW); go_simp; all_goals (with_reducible rfl)))); try simp only [Act.put, List.setIfInBounds_toArray, List.set_cons_zero, List.set_cons_succ])
            refine plE ?_
            refine wpAnyH_ready (rs := [2]) (by kernel_rfl) (by simp) ?_
            refine AllReadyH.cons (o := ⟨_, _, _, _, _, _⟩) rfl (fun K hK => ?_) AllReadyH.nil
            go_simp
            go_at_call 43; refine (word_any _ _).mono ?_; rintro e u2 ⟨rfl, hb⟩; have HE2s := Lib.hid (HE.out.drew.below hb HE.out.drew.lt); have HB2s := Lib.hid (HB.out.drew.trans (hb.mono HB.out.drew.size))
            clear hb x7 y7
            refine hK.out _ _ (⟨HQ1.out _ (HB2s.out), HC.out _ (HB2s.out) 0 (by decide)⟩) (fun hHeld => ?_)
            clear hK K
            try simp only [Act.put, List.setIfInBounds_toArray, List.set_cons_zero, List.set_cons_succ]
            refine plI [(7, false)] ?_
            repeat ((first | ((with_reducible show Plan ((_, true) :: _) _); refine plF ?_) | (refine plR (v := ?_) ?_ ?_; rotate_left; focus (intro W hSW; (try dsimp only at hSW); go_simp; all_goals (with_reducible rfl)))); try simp only [Act.put, List.setIfInBounds_toArray, List.set_cons_zero, List.set_cons_succ])
            refine plE ?_
            refine wpAnyH_done (by kernel_rfl) ?_ _
            clear hHeld
            obtain ⟨x8, y8⟩ := HE2s.out.facts
            try simp only [hwr]
            generalize hbe : ((wordS ((k : Int) + 1)).toList == (tk 0).toList) = bb
            rw [bytes_beq] at hbe
            cases bb
            · have ht := of_decide_eq_false hbe
              go_wp2_with fail
              go_roundw
              case rel => exact ⟨k + 1, by omega, rfl, Lib.hid (by rw [show opUp (k + 1) (tk 0) = opUp k (tk 0) from if_neg (fun e => ht e.symm)]; exact HE2s.out), HB2s⟩
              case measure => simp [intOf]; omega
            · have ht := of_decide_eq_true hbe
              go_wp2_with fail
              go_roundw
              case rel => exact ⟨k + 1, by omega, rfl, Lib.hid (by have h := HE2s.out.put 0 (.int .i64 ((k : Int) + 1)); rw [show opUp (k + 1) (tk 0) = (k : Int) + 1 from if_pos ht.symm]; simpa using h), Lib.hid (HB2s.out.setCell (p := ⟨b4, 0, none⟩) hb4 _)⟩
              case measure => simp [intOf]; omega
    · have hlen : (fs ++ List.replicate k zTok).length = fs.length + k := by rw [List.length_append, List.length_replicate]
      have hki : (k : Int) < 10 := by omega
      have hfl := HL.out
      obtain ⟨A, cc, rfl⟩ : ∃ A cc, v = .slice A (fs.length + k) cc := by
        have ho := HQ.out.own
        rw [hlen] at ho
        rcases ho.2 with ⟨rfl, h0⟩ | ⟨g, cap, cur, rfl, _⟩
        · exact ⟨none, 0, by rw [h0]⟩
        · exact ⟨_, _, rfl⟩
      have ho1 : wr.ownsRow base 99 3 (.slice A (fs.length + k) cc) (fs.length + k) (tokCells (fs ++ List.replicate k zTok)) := by have ho := HQ.out.own; rwa [hlen] at ho
      go_wp2_with ((with_reducible show wpList _ _ _ (Oper.mk (some 13) _ _ _ _ _ :: _) _ _); refine wpList_app rfl (.tmp 10) (.tmp 12) 64 rfl base 99 i0 (.agg #[.int .i64 0, .string ⟨#[]⟩, .int .i64 0]) 3 32 Tryz.underlying64 HI.out HZ.out hz1 hz2 rfl (by decide) _ _ _ rfl (ho1.alloc _) (some ⟨wr.heap.size, 0, none⟩) 1 1 [.int .i64 0, .string ⟨#[]⟩, .int .i64 0] rfl rfl (.inr ⟨_, rfl, tok_src wr _ _⟩) (fun u hu => by simp only [List.mem_cons, List.not_mem_nil, or_false] at hu; rcases hu with rfl | rfl | rfl <;> rfl) (by unfold maxLen; omega) (by omega) (by have := HQ.out.b.size; have := HBS.out.2; simp; omega) ?_; intro v' w5 ho' hg'; obtain ⟨g', cap', rfl⟩ := ownsRow_succ ho'; obtain ⟨hq5, hL5⟩ := HQ.out.step HBS.out.2 zTok (by rw [hlen]; exact ho') hg'; have hc5 := hq5.cell; have hf5 := hq5.frozen)
      go_roundw
      case rel => exact ⟨k + 1, by omega, by simp, _, Lib.hid (by rw [List.replicate_succ', ← List.append_assoc]; exact hL5)⟩
      case measure => simp [intOf]; omega
end Go.Proofs.YtjlpllnhefafkaaGreatDoor
