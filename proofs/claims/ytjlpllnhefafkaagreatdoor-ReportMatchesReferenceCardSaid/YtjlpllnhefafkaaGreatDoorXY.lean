/- bogieref13.Parse: the reference's report of a text is report.Parse's. Condition: the text lies in memory. -/
import Derived.Test.YtjlpllnhefafkaaGreatDoorXK
import Derived.Test.YtjlpllnhefafkaaGreatDoorXT
import Derived.Test.YtjlpllnhefafkaaGreatDoorXV
namespace Go.Proofs.YtjlpllnhefafkaaGreatDoor
open Go Go.RowKit
theorem lines_snoc : ∀ (l : List UInt8) (D : List (List UInt8)) (cur : List UInt8), linesL l = D ++ [cur] → linesL (l ++ [10]) = (D ++ [cur]) ++ [[]] ∧ ∀ c, c ≠ 10 → linesL (l ++ [c]) = D ++ [cur ++ [c]]
  | [], D, cur, h => by
    have h1 : [[]] = D ++ [cur] := h
    cases D with
    | nil =>
      simp at h1; subst h1
      refine ⟨rfl, fun c hc => ?_⟩
      show linesL [c] = _
      rw [lines_miss hc [] [] [] rfl]; rfl
    | cons a D => simp at h1
  | a :: r, D, cur, h => by
    by_cases ha : a = 10
    · subst ha
      rw [lines_hit] at h
      cases D with
      | nil => rw [List.nil_append] at h; exact absurd (List.cons.inj h).2 (linesL_ne r)
      | cons x D =>
        rw [List.cons_append] at h
        obtain ⟨h1, h2⟩ := List.cons.inj h
        obtain ⟨i1, i2⟩ := lines_snoc r D cur h2
        refine ⟨?_, fun c hc => ?_⟩
        · rw [List.cons_append, lines_hit, i1, h1]; rfl
        · rw [List.cons_append, lines_hit, i2 c hc, h1]; rfl
    · cases hr : linesL r with
      | nil => exact absurd hr (linesL_ne r)
      | cons x q =>
        rw [lines_miss ha r x q hr] at h
        cases D with
        | nil =>
          rw [List.nil_append] at h
          obtain ⟨h1, h2⟩ := List.cons.inj h
          subst h2
          obtain ⟨i1, i2⟩ := lines_snoc r [] x hr
          refine ⟨?_, fun c hc => ?_⟩
          · rw [List.cons_append, lines_miss ha _ x [[]] i1, h1]; rfl
          · rw [List.cons_append, lines_miss ha _ (x ++ [c]) [] (i2 c hc), ← h1]; rfl
        | cons y D =>
          rw [List.cons_append] at h
          obtain ⟨h1, h2⟩ := List.cons.inj h
          obtain ⟨i1, i2⟩ := lines_snoc r (x :: D) cur (by rw [hr, h2]; rfl)
          refine ⟨?_, fun c hc => ?_⟩
          · rw [List.cons_append, lines_miss ha _ x ((D ++ [cur]) ++ [[]]) i1, h1]; rfl
          · rw [List.cons_append, lines_miss ha _ x (D ++ [cur ++ [c]]) (i2 c hc), h1]; rfl
def doneL (s : ByteArray) : List ByteArray := (linesB s).take ((linesB s).length - 1)
def refReadR (D : List ByteArray) : Rep := if D.length ≤ 5 then ⟨(D.drop 1).map fun l => (parseE l).1, decide (0 < D.length ∧ D.getD 0 ⟨#[]⟩ = perhapsS)⟩ else noRep
def refParseR (s : ByteArray) : Rep × Int :=
  if 20000 < s.size then (noRep, 7) else if repOk (refReadR (doneL s)).opts = true ∧ textR (refReadR (doneL s)) = s then (refReadR (doneL s), 0) else (noRep, 8)
theorem refParseR_same (s : ByteArray) : refParseR s = parseR s := by
  unfold refParseR
  by_cases hb : 20000 < s.size
  · rw [if_pos hb]; unfold parseR; rw [if_pos hb]
  · rw [if_neg hb]
    rcases parseR_only s with ⟨h0, hok, ht⟩ | h8 | ⟨_, h⟩
    · generalize hp : parseR s = p at *
      obtain ⟨r, er⟩ := p
      dsimp only at h0 hok ht
      subst h0
      have hd : doneL s = lineR r := by
        unfold doneL
        rw [← ht, linesB_text hok, List.length_append, List.length_singleton, Nat.add_sub_cancel, List.take_left]
      have h4 := repOk_le hok
      have hrd : refReadR (lineR r) = r := by
        have h := read_text hok
        unfold readR at h
        rw [List.length_append, List.length_singleton, Nat.add_sub_cancel, List.take_left] at h
        have hl := lineR_len r
        have h0 : (lineR r ++ [(⟨#[]⟩ : ByteArray)]).getD 0 ⟨#[]⟩ = (lineR r).getD 0 ⟨#[]⟩ := by
          rw [List.getD_eq_getElem?_getD, List.getD_eq_getElem?_getD, List.getElem?_append_left (by omega)]
        rw [h0] at h
        unfold refReadR
        rw [if_pos (by omega)]
        have hdd : decide (0 < (lineR r).length ∧ (lineR r).getD 0 ⟨#[]⟩ = perhapsS) = decide ((lineR r).getD 0 ⟨#[]⟩ = perhapsS) := by
          rw [decide_eq_decide]
          exact ⟨fun h => h.2, fun h => ⟨by omega, h⟩⟩
        rw [hdd]
        exact h
      rw [hd, hrd, if_pos ⟨hok, ht⟩]
    · rw [h8]
      split
      · rename_i h
        have := parse_textR h.1
        rw [h.2, h8] at this
        cases (Prod.mk.inj this).2
      · rfl
    · omega
/-- The events of the lines 1 .. k-1. -/
def evUp (D : List ByteArray) (k : Nat) : List Ev := ((D.drop 1).take (k - 1)).map fun l => (parseE l).1
theorem evUp_succ (D : List ByteArray) (k : Nat) (h0 : 1 ≤ k) (h : k < D.length) : evUp D (k + 1) = evUp D k ++ [(parseE (D.getD k ⟨#[]⟩)).1] := by
  unfold evUp
  obtain ⟨q, rfl⟩ : ∃ q, k = q + 1 := ⟨k - 1, by omega⟩
  rw [Nat.add_sub_cancel, Nat.add_sub_cancel, take_getD (D.drop 1) q ⟨#[]⟩ (by rw [List.length_drop]; omega), List.map_append]
  have e : (D.drop 1).getD q ⟨#[]⟩ = D.getD (q + 1) ⟨#[]⟩ := by
    rw [List.getD_eq_getElem?_getD, List.getD_eq_getElem?_getD, List.getElem?_drop, Nat.add_comm]
  rw [e]; rfl
theorem evUp_len (D : List ByteArray) (k : Nat) (h : k ≤ D.length) : (evUp D k).length = k - 1 := by
  unfold evUp
  rw [List.length_map, List.length_take, List.length_drop]; omega
theorem evUp_short (D : List ByteArray) (k : Nat) : ∀ e ∈ evUp D k, e.short := by
  intro e he
  obtain ⟨l, _, rfl⟩ := List.mem_map.1 he
  exact parseE_short l
def LinesAt (s : ByteArray) (D : List ByteArray) (f k : Nat) : Prop := f ≤ k ∧ linesL (s.data.toList.take k) = (D.map (·.data.toList)) ++ [(s.data.toList.take k).drop f]
theorem LinesAt.line {s : ByteArray} {D : List ByteArray} {f k : Nat} (h : LinesAt s D f k) (hk : k < s.size) (hc : s[k] = 10) : LinesAt s (D ++ [s.extract f k]) (k + 1) (k + 1) := by
  have hk2 : k < s.data.toList.length := hk
  refine ⟨Nat.le_refl _, ?_⟩
  have h1 := (lines_snoc _ _ _ h.2).1
  have e : (s.data.toList.take k ++ [10]).drop (k + 1) = [] := List.drop_of_length_le (by simp; omega)
  rw [take_next hk2, show s.data.toList[k] = 10 from hc, h1, e, List.map_append, List.map_cons, List.map_nil, mid_data]
theorem LinesAt.more {s : ByteArray} {D : List ByteArray} {f k : Nat} (h : LinesAt s D f k) (hk : k < s.size) (hc : s[k] ≠ 10) : LinesAt s D f (k + 1) := by
  have hk2 : k < s.data.toList.length := hk
  refine ⟨Nat.le_succ_of_le h.1, ?_⟩
  have h1 := (lines_snoc _ _ _ h.2).2 s.data.toList[k] hc
  rw [take_next hk2, h1, List.drop_append_of_le_length (by rw [List.length_take]; have := h.1; omega)]
theorem LinesAt.fin {s : ByteArray} {D : List ByteArray} {f : Nat} (h : LinesAt s D f s.size) : doneL s = D := by
  have h2 := h.2
  have hl : s.data.toList.take s.size = s.data.toList := List.take_of_length_le (Nat.le_refl _)
  rw [hl] at h2
  have e : linesB s = D ++ [⟨(s.data.toList.drop f).toArray⟩] := by
    unfold linesB
    rw [h2, List.map_append, map_back]; rfl
  unfold doneL
  rw [e, List.length_append, List.length_singleton, Nat.add_sub_cancel, List.take_left]
theorem doneL_le (s : ByteArray) : (doneL s).length ≤ s.size := by
  have := lines_le s
  unfold doneL
  rw [List.length_take]; omega
set_option maxRecDepth 100000 in
set_option maxHeartbeats 8000000 in
theorem rpr_big (s : ByteArray) (w : World) (hbig : 20000 < s.size) :
    Calls Tryz.prog 9 #[.string s] w fun r w' => r = .returned (.tuple #[.agg #[.slice none 0 0, .bool false], .int .i64 7]) ∧ Below w.heap.size w w' := by
  have hbig' : (20000 : Int) < (s.size : Int) := by omega
  go_enter Tryz.func9, Tryz.ntmps9
  go_wp2_with fail
  refine bodyPost_ret (v := .tuple #[.agg #[.slice none 0 0, .bool false], .int .i64 7]) (by simp [results, Tryz.results9, go_sem]) rfl ?_
  exact ⟨rfl, (Below.refl _ _).alloc (Nat.le_refl _) _⟩
set_option maxRecDepth 100000 in
set_option maxHeartbeats 8000000 in
theorem rpr_rest (s : ByteArray) (w : World) (hs : s.size ≤ 20000) :
    Calls Tryz.prog 9 #[.string s] w fun r w' => ∃ v, r = .returned (.tuple #[.agg #[v, .bool (refParseR s).1.doubt], .int .i64 (refParseR s).2]) ∧ Sl w' v (refParseR s).1.opts.length 14 (evF (refParseR s).1.opts) ∧ Below w.heap.size w w' := by
  have hbig' : ¬ (20000 : Int) < (s.size : Int) := by omega
  have hP : refParseR s = if repOk (refReadR (doneL s)).opts = true ∧ textR (refReadR (doneL s)) = s then (refReadR (doneL s), 0) else (noRep, 8) := by
    unfold refParseR
    rw [if_neg (by omega)]
  have hdl := doneL_le s
  have HFI := Lib.hid (fun D f (h : LinesAt s D f s.size) => h.fin)
  have hll : ∀ l ∈ linesB s, l.size ≤ maxLen := fun l h => by have := line_le h; unfold maxLen; omega
  have hdm : ∀ l ∈ doneL s, l.size ≤ maxLen := fun l h => hll l (List.mem_of_mem_take h)
  generalize refParseR s = P at *
  generalize doneL s = DD at *
  have HP := Lib.hid hP
  have HDM := Lib.hid hdm
  obtain ⟨i0, hi, hz0, hq1, hq2⟩ := info_parts info_str
  have HI := Lib.hid hi
  have HZ := Lib.hid hz0
  obtain ⟨e0, hei, hez0, he1, he2⟩ := info_parts info_ev
  have HEI := Lib.hid hei
  have HEZ := Lib.hid hez0
  have HZ0 := Lib.hid (Has.new w 31 #[.slice none 0 0, .bool false])
  have HB0 := Lib.hid ((Below.refl w.heap.size w).alloc (Nat.le_refl _) (.cells #[.slice none 0 0, .bool false] 31))
  clear hi hz0 hei hez0 hP hll hdm
  go_enter Tryz.func9, Tryz.ntmps9
  go_wp2_with fail
  go_loopw [4, 5, 6] (fun o f i wr => ∃ (k f' : Nat) (D : List ByteArray) (A : Option Addr) (c : Nat), k ≤ s.size ∧ o = .slice A D.length c ∧ f = .int .i64 f' ∧ i = .int .i64 k ∧ D.length ≤ k ∧ Hid (LinesAt s D f' k) ∧ Hid (wr.ownsRow (w.heap.size + 1) 9 1 (.slice A D.length c) D.length (D.map .string)) ∧ Hid (Has wr w.heap.size 31 #[.slice none 0 0, .bool false]) ∧ Hid (Below w.heap.size w wr)) (fun _ _ i _ => s.size - (intOf i).toNat)
  case atStart => exact ⟨0, 0, [], none, 0, Nat.zero_le _, rfl, rfl, rfl, Nat.le_refl _, ⟨Nat.le_refl _, rfl⟩, World.ownsRow_nil _ _ _ _, HZ0.out, HB0.out⟩
  case round =>
    obtain ⟨k, f, D, A, c, hk, rfl, rfl, rfl, hDk, HL, HO, HX, HB⟩ := hrel
    have hzw := HX.out.lt
    clear HZ0 HB0
    by_cases hlt : k < s.size
    · have hki : (k : Int) < (s.size : Int) := by omega
      by_cases h10 : s[k].toNat = 10
      · have HN := Lib.hid (HL.out.line hlt (UInt8.toNat_inj.1 h10))
        have hfk := HL.out.1
        have hfi : (f : Int) ≤ (k : Int) := by omega
        go_wp2_with (at_builtin; refine wpList_append_own _ rfl (.tmp 27) (.tmp 32) 41 rfl (w.heap.size + 1) 9 i0 (.string ⟨#[]⟩) 1 16 Tryz.underlying41 HI.out HZ.out hq1 hq2 rfl (by decide) _ _ _ rfl (HO.out.alloc _) ⟨wr.heap.size, 0, none⟩ 1 1 [.string (s.extract f k)] rfl rfl ?c1 ?c2 ?c3 ?c4 ?c5 ?_)
        case c1 =>
          intro j u hj
          rw [Addr.add_mid, Nat.zero_add]
          exact ((Has.new wr 9 #[.string (s.extract f k)]).cell j).trans (by simpa using hj)
        case c2 => intro u hu; simp at hu; subst hu; rfl
        case c3 => unfold maxLen; omega
        case c4 => omega
        case c5 => simp; omega
        · intro v' w6 hown6 hg6 _
          have hbg : Below (w.heap.size + 1) (wr.alloc (.cells #[.string (s.extract f k)] 9)) w6 := (Below.refl _ _).grown hg6 (by simp; omega) (fun j hj => (HO.out.lt j hj).1)
          have HX6 := Lib.hid ((HX.out.alloc (.cells #[.string (s.extract f k)] 9)).below hbg (by omega))
          have HB6 := Lib.hid ((HB.out.alloc HB.out.size (.cells #[.string (s.extract f k)] 9)).trans (hbg.mono (by omega)))
          obtain ⟨g6, c6, rfl⟩ : ∃ g c, v' = .slice (some ⟨g, 0, none⟩) (D.length + 1) c := by
            rcases hown6.2 with ⟨_, h⟩ | ⟨g, cap, cur, rfl, _⟩
            · omega
            · exact ⟨_, _, rfl⟩
          have HO6 := Lib.hid hown6
          clear hown6 hg6 hbg
          go_wp2_with fail
          go_roundw
          case rel => exact ⟨k + 1, k + 1, D ++ [s.extract f k], some ⟨g6, 0, none⟩, c6, by omega, by simp, by go_num, by go_num, by simp; omega, HN.out, by rw [List.length_append, List.map_append]; exact HO6.out, HX6.out, HB6.out⟩
          case measure => simp [intOf]; omega
      · have HN := Lib.hid (HL.out.more hlt (fun h => h10 (by rw [h]; decide)))
        go_wp2_with fail
        go_roundw
        case rel => exact ⟨k + 1, f, D, A, c, by omega, rfl, rfl, by go_num, by omega, HN.out, HO.out, HX.out, HB.out⟩
        case measure => simp [intOf]; omega
    · have hke : k = s.size := by omega
      have hDD : DD = D := HFI.out D f (hke ▸ HL.out)
      subst hDD
      have hki : ¬ (k : Int) < (s.size : Int) := by omega
      obtain ⟨HO', _⟩ : (Hid (wr.ownsRow (w.heap.size + 1) 9 1 (.slice A DD.length c) DD.length (DD.map .string))) ∧ True := ⟨HO, trivial⟩
      have HSL := Lib.hid (str_own HO.out)
      clear hke HL
      have hzs := HX.out.lt
      by_cases h5 : DD.length ≤ 5
      · have h5i : (DD.length : Int) ≤ 5 := by omega
        obtain ⟨R, hR⟩ : ∃ R, refReadR DD = R := ⟨_, rfl⟩
        rw [hR] at HP
        have hRo : R.opts = evUp DD DD.length := by
          rw [← hR]
          unfold refReadR evUp
          rw [if_pos h5]
          show (DD.drop 1).map _ = _
          rw [List.take_of_length_le (by rw [List.length_drop]; omega)]
        have hRd : R.doubt = if DD.length = 0 then false else decide (DD.getD 0 ⟨#[]⟩ = perhapsS) := by
          rw [← hR]
          unfold refReadR
          rw [if_pos h5]
          show decide _ = _
          split
          · rename_i h0; exact decide_eq_false (by omega)
          · rename_i h0; rw [decide_eq_decide]; exact ⟨fun h => h.2, fun h => ⟨by omega, h⟩⟩
        have HRO := Lib.hid hRo
        have HRD := Lib.hid hRd
        clear hR hRo hRd
        generalize hdd : decide (DD.getD 0 ⟨#[]⟩ = perhapsS) = dd at *
        have HDD := Lib.hid hdd
        obtain ⟨W1, hW1⟩ : ∃ V, wr = V := ⟨_, rfl⟩
        rw [hW1] at HO HX HB HSL hzs
        rw [hW1]
        clear hW1 hdd HO'
        go_wp2_with fail
        go_loopw [8] (fun i wr => ∃ (k : Nat) (v : Value), k ≤ DD.length ∧ i = .int .i64 k ∧ Hid (Has wr W1.heap.size 31 #[v, .bool (if k = 0 then false else dd)]) ∧ Hid (wr.ownsRow (W1.heap.size + 1) 49 14 v (evUp DD k).length (evCells (evUp DD k))) ∧ Hid (Below W1.heap.size W1 wr) ∧ W1.heap.size < wr.heap.size) (fun i _ => DD.length - (intOf i).toNat)
        case atStart => exact ⟨0, _, Nat.zero_le _, rfl, Has.new W1 _ _, World.ownsRow_nil _ _ _ _, (Below.refl _ _).alloc (Nat.le_refl _) _, by simp⟩
        case round =>
          obtain ⟨k, v, hk, rfl, HX2, HO2, HB2, hsz⟩ := hrel
          obtain ⟨xr, yr⟩ := HX2.out.facts
          by_cases hlt : k < DD.length
          · have hki : (k : Int) < (DD.length : Int) := by omega
            obtain ⟨A3, c3, he3, hn3, h03⟩ := HSL.out
            rcases h03 with h03 | ⟨b, o, hA3, hc3⟩
            · omega
            obtain ⟨hAA, hcc⟩ : A = A3 ∧ c = c3 := by injection he3; exact ⟨by assumption, by assumption⟩
            rw [← hAA] at hA3
            subst hA3
            have xk : wr.cell? ⟨b, o + k, none⟩ = some (.string (DD.getD k ⟨#[]⟩)) := cell_later HB2.out (hc3 k (by omega))
            have hli := HDM.out _ (getD_mem DD k ⟨#[]⟩ hlt)
            have hplen := evUp_len DD k (by omega)
            by_cases h0 : k = 0
            · subst h0
              have hbb : ((DD.getD 0 ⟨#[]⟩).toList == [112, 101, 114, 104, 97, 112, 115]) = dd := by rw [← perhaps_list, bytes_beq, HDD.out]
              generalize DD.getD 0 ⟨#[]⟩ = li at *
              clear hc3 he3 hAA hcc
              rw [if_pos rfl] at HX2 xr
              rw [Nat.add_zero] at xk
              have HXN : Hid (Has (wr.setCell ⟨W1.heap.size, 1, none⟩ (.bool dd)) W1.heap.size 31 #[v, .bool (if (1 : Nat) = 0 then false else dd)]) := Lib.hid (by rw [if_neg (by decide)]; exact HX2.out.put 1 (.bool dd))
              go_wp2_with fail
              go_roundw
              case rel => exact ⟨1, v, by omega, by go_num, HXN, own_put HO2.out (by omega), HB2.out.setCell (p := ⟨W1.heap.size, 1, none⟩) (Nat.le_refl _) (.bool dd), by simpa using hsz⟩
              case measure => simp [intOf]; omega
            · have hk0 : ((k : Int) == 0) = false := by rw [beq_eq_false_iff_ne]; omega
              have hsucc := Lib.hid (evUp_succ DD k (by omega) hlt)
              have hsh := parseE_short (DD.getD k ⟨#[]⟩)
              have hpe := fun W => refParseE_any (DD.getD k ⟨#[]⟩) W hli
              rw [if_neg h0] at HX2 xr
              generalize DD.getD k ⟨#[]⟩ = li at *
              generalize parseE li = pe at *
              obtain ⟨e, er⟩ := pe
              dsimp only at hsucc hsh hpe
              obtain ⟨op, day, part, kind, into, slot, key, value, kl, kh, cl, ch, ll, lh⟩ := e
              have HPE : Hid (∀ W, Calls Tryz.prog 25 #[.string li] W fun r w' => r = .returned (.tuple #[.agg #[.int .i64 op, .int .i64 day, .string part, .string kind, .string into, .string slot, .string key, .string value, .int .i64 kl, .int .i64 kh, .int .i64 cl, .int .i64 ch, .int .i64 ll, .int .i64 lh], .int .i64 er]) ∧ Below W.heap.size W w') := hpe
              clear hpe hsh hli hc3 he3 hAA hcc
              go_wp2_with (first | (go_at_call 25; refine (HPE.out _).mono ?_; rintro e w5 ⟨rfl, hb5⟩; have HR5 := Lib.hid (HX2.out.below hb5 hsz); obtain ⟨xr5, yr5⟩ := HR5.out.facts; have HOWN5 := Lib.hid (HO2.out.kept (row := none) (World.grownBy_of_below hb5) (by cases Value.ownBlock _ <;> simp)); have HB5 := Lib.hid (HB2.out.trans (hb5.mono HB2.out.size)); have hsz5 : W1.heap.size < w5.heap.size := Nat.lt_of_lt_of_le hsz hb5.size; clear hb5 xr yr xk) | (at_builtin; refine wpList_append_own _ rfl (.tmp 64) (.tmp 66) 26 rfl (W1.heap.size + 1) 49 e0 (.agg zeroEv.cells) 14 160 Tryz.underlying26 HEI.out HEZ.out he1 he2 rfl (by decide) _ _ _ rfl ((HOWN5.out.alloc _).alloc _) ⟨w5.heap.size + 1, 0, none⟩ 1 1 [.int .i64 op, .int .i64 day, .string part, .string kind, .string into, .string slot, .string key, .string value, .int .i64 kl, .int .i64 kh, .int .i64 cl, .int .i64 ch, .int .i64 ll, .int .i64 lh] rfl rfl ?c1 ?c2 ?c3 ?c4 ?c5 ?_))
              case c1 =>
                intro j u hj
                rw [Addr.add_mid, Nat.zero_add]
                have h1 := (Has.new (w5.alloc (.cells #[.int .i64 op, .int .i64 day, .string part, .string kind, .string into, .string slot, .string key, .string value, .int .i64 kl, .int .i64 kh, .int .i64 cl, .int .i64 ch, .int .i64 ll, .int .i64 lh] 49)) 49 #[.int .i64 op, .int .i64 day, .string part, .string kind, .string into, .string slot, .string key, .string value, .int .i64 kl, .int .i64 kh, .int .i64 cl, .int .i64 ch, .int .i64 ll, .int .i64 lh]).cell j
                rw [World.size_alloc] at h1
                exact h1.trans (by simpa using hj)
              case c2 => intro u hu; simp at hu; rcases hu with rfl | rfl | rfl | rfl | rfl | rfl | rfl | rfl | rfl | rfl | rfl | rfl | rfl | rfl <;> rfl
              case c3 => unfold maxLen; omega
              case c4 => omega
              case c5 => simp; omega
              · intro v' w6 hown6 hg6 _
                have hbg : Below (W1.heap.size + 1) ((w5.alloc (.cells #[.int .i64 op, .int .i64 day, .string part, .string kind, .string into, .string slot, .string key, .string value, .int .i64 kl, .int .i64 kh, .int .i64 cl, .int .i64 ch, .int .i64 ll, .int .i64 lh] 49)).alloc (.cells #[.int .i64 op, .int .i64 day, .string part, .string kind, .string into, .string slot, .string key, .string value, .int .i64 kl, .int .i64 kh, .int .i64 cl, .int .i64 ch, .int .i64 ll, .int .i64 lh] 49)) w6 := (Below.refl _ _).grown hg6 (by simp; omega) (fun j hj => (HOWN5.out.lt j hj).1)
                have hR6 := ((HR5.out.alloc (.cells #[.int .i64 op, .int .i64 day, .string part, .string kind, .string into, .string slot, .string key, .string value, .int .i64 kl, .int .i64 kh, .int .i64 cl, .int .i64 ch, .int .i64 ll, .int .i64 lh] 49)).alloc (.cells #[.int .i64 op, .int .i64 day, .string part, .string kind, .string into, .string slot, .string key, .string value, .int .i64 kl, .int .i64 kh, .int .i64 cl, .int .i64 ch, .int .i64 ll, .int .i64 lh] 49)).below hbg (by omega)
                have HR6 := Lib.hid hR6
                obtain ⟨xr6, yr6⟩ := hR6.facts
                have HB6 := Lib.hid ((((HB5.out.alloc HB5.out.size (.cells #[.int .i64 op, .int .i64 day, .string part, .string kind, .string into, .string slot, .string key, .string value, .int .i64 kl, .int .i64 kh, .int .i64 cl, .int .i64 ch, .int .i64 ll, .int .i64 lh] 49)).alloc (by have := HB5.out.size; simp; omega) (.cells #[.int .i64 op, .int .i64 day, .string part, .string kind, .string into, .string slot, .string key, .string value, .int .i64 kl, .int .i64 kh, .int .i64 cl, .int .i64 ch, .int .i64 ll, .int .i64 lh] 49))).trans (hbg.mono (by omega)))
                have hsz6 : W1.heap.size < w6.heap.size := by have := hbg.size; simp at this; omega
                obtain ⟨A6, n6, c6, rfl⟩ : ∃ A n c, v' = .slice A n c := by
                  rcases hown6.2 with ⟨rfl, _⟩ | ⟨g, cap, cur, rfl, _⟩
                  · exact ⟨_, _, _, rfl⟩
                  · exact ⟨_, _, _, rfl⟩
                have HOWN6 := Lib.hid hown6
                clear hown6 hg6 hbg hR6 xr5 yr5
                have HXN : Hid (Has (w6.setCell ⟨W1.heap.size, 0, none⟩ (.slice A6 n6 c6)) W1.heap.size 31 #[.slice A6 n6 c6, .bool (if k + 1 = 0 then false else dd)]) := Lib.hid (by rw [if_neg (by omega)]; exact HR6.out.put 0 (.slice A6 n6 c6))
                go_wp2_with fail
                go_roundw
                case rel => exact ⟨k + 1, .slice A6 n6 c6, by omega, by go_num, HXN, by
                  rw [hsucc.out, List.length_append]
                  have h := HOWN6.out
                  have e : evCells (evUp DD k ++ [⟨op, day, part, kind, into, slot, key, value, kl, kh, cl, ch, ll, lh⟩]) = evCells (evUp DD k) ++ [.int .i64 op, .int .i64 day, .string part, .string kind, .string into, .string slot, .string key, .string value, .int .i64 kl, .int .i64 kh, .int .i64 cl, .int .i64 ch, .int .i64 ll, .int .i64 lh] := by simp [evCells, Ev.cells]
                  have e2 : (evUp DD k).length + [(⟨op, day, part, kind, into, slot, key, value, kl, kh, cl, ch, ll, lh⟩ : Ev)].length = k - 1 + 1 := by rw [hplen]; rfl
                  rw [e, e2]; exact own_put h (by omega), HB6.out.setCell (p := ⟨W1.heap.size, 0, none⟩) (Nat.le_refl _) (.slice A6 n6 c6), by simpa using hsz6⟩
                case measure => simp [intOf]; omega
          · have hke : k = DD.length := by omega
            have hki : ¬ (k : Int) < (DD.length : Int) := by omega
            have hsl := sl_own HO2.out
            rw [hke, ← HRO.out] at hsl
            have hshort : ∀ e ∈ R.opts, e.short := by rw [HRO.out]; exact evUp_short DD _
            have hRl : R.opts.length ≤ 1000 := by rw [HRO.out, evUp_len DD _ (Nat.le_refl _)]; omega
            have hdb : (if k = 0 then false else dd) = R.doubt := by rw [HRD.out, hke]
            rw [hdb] at HX2 xr
            have htx := Lib.hid (refRepText_any v R wr hsl hshort hRl)
            have HO3 := Lib.hid (show wr.ownsRow (W1.heap.size + 1) 49 14 v R.opts.length (evCells R.opts) by have h := HO2.out; rw [hke, ← HRO.out] at h; exact h)
            have HSL3 := Lib.hid hsl
            have HZ3 := Lib.hid (HX.out.below HB2.out hzs)
            have HB3 := Lib.hid (HB.out.trans (HB2.out.mono HB.out.size))
            clear hsl hshort hRl hdb hke
            by_cases hok : repOk R.opts = true
            · rw [if_pos hok, if_pos hok] at htx
              generalize hbb : ((textR R).toList == s.toList) = bb
              rw [bytes_beq] at hbb
              cases bb
              · have hne := of_decide_eq_false hbb
                have hp := HP.out
                rw [if_neg (fun h => hne h.2)] at hp
                subst hp
                have HNE := Lib.hid (show ((textR R).toList == s.toList) = false by rw [bytes_beq]; exact decide_eq_false hne)
                clear hbb hne
                go_wp2_with (go_at_call 13; refine htx.out.mono ?_; rintro e w6 ⟨rfl, hb6⟩; have hne2 := HNE.out; have HZ6 := Lib.hid (HZ3.out.below hb6 HZ3.out.lt); obtain ⟨xz6, yz6⟩ := HZ6.out.facts; have HB6 := Lib.hid (HB3.out.trans (hb6.mono HB3.out.size)); clear hb6)
                obtain ⟨HF, HFB⟩ := put2 HB6.out (Nat.le_refl _) HZ6.out (.slice none 0 0) (.bool false)
                obtain ⟨xf, yf⟩ := HF.facts
                refine bodyPost_ret (v := .tuple #[.agg #[.slice none 0 0, .bool false], .int .i64 8]) (by simp [results, Tryz.results9, go_sem, xf]) rfl ?_
                exact ⟨_, rfl, ⟨_, _, rfl, Nat.le_refl _, .inl rfl⟩, HFB⟩
              · have heq := of_decide_eq_true hbb
                have hp := HP.out
                rw [if_pos ⟨hok, heq⟩] at hp
                subst hp
                have HNE := Lib.hid (show ((textR R).toList == s.toList) = true by rw [bytes_beq]; exact decide_eq_true heq)
                obtain ⟨A7, c7, rfl, hn7⟩ := sl_len HSL3.out
                clear hbb heq
                go_wp2_with (go_at_call 13; refine htx.out.mono ?_; rintro e w6 ⟨rfl, hb6⟩; have hne2 := HNE.out; have HZ6 := Lib.hid (HZ3.out.below hb6 HZ3.out.lt); obtain ⟨xz6, yz6⟩ := HZ6.out.facts; have HB6 := Lib.hid (HB3.out.trans (hb6.mono HB3.out.size)); have HR6 := Lib.hid (HX2.out.below hb6 HX2.out.lt); obtain ⟨xr6, yr6⟩ := HR6.out.facts; have HOWN6 := Lib.hid (HO3.out.kept (row := none) (World.grownBy_of_below hb6) (by cases Value.ownBlock _ <;> simp)); clear hb6)
                obtain ⟨HF, HFB⟩ := put2 HB6.out (Nat.le_refl _) HZ6.out (.slice A7 R.opts.length c7) (.bool R.doubt)
                obtain ⟨xf, yf⟩ := HF.facts
                refine bodyPost_ret (v := .tuple #[.agg #[.slice A7 R.opts.length c7, .bool R.doubt], .int .i64 0]) (by simp [results, Tryz.results9, go_sem, xf]) rfl ?_
                have hs6 := sl_own (own_put (i := 1) (u := .bool R.doubt) (own_put (i := 0) (u := .slice A7 R.opts.length c7) HOWN6.out (by omega : w.heap.size < W1.heap.size + 1)) (by omega : w.heap.size < W1.heap.size + 1))
                exact ⟨_, rfl, hs6, HFB⟩
            · rw [if_neg hok, if_neg hok] at htx
              have hp := HP.out
              rw [if_neg (fun h => hok h.1)] at hp
              subst hp
              go_wp2_with (go_at_call 13; refine htx.out.mono ?_; rintro e w6 ⟨rfl, hb6⟩; have HZ6 := Lib.hid (HZ3.out.below hb6 HZ3.out.lt); obtain ⟨xz6, yz6⟩ := HZ6.out.facts; have HB6 := Lib.hid (HB3.out.trans (hb6.mono HB3.out.size)); clear hb6)
              obtain ⟨HF, HFB⟩ := put2 HB6.out (Nat.le_refl _) HZ6.out (.slice none 0 0) (.bool false)
              obtain ⟨xf, yf⟩ := HF.facts
              refine bodyPost_ret (v := .tuple #[.agg #[.slice none 0 0, .bool false], .int .i64 8]) (by simp [results, Tryz.results9, go_sem, xf]) rfl ?_
              exact ⟨_, rfl, ⟨_, _, rfl, Nat.le_refl _, .inl rfl⟩, HFB⟩
      · have h5i : ¬ (DD.length : Int) ≤ 5 := by omega
        have h0i : (0 : Int) < (DD.length : Int) := by omega
        have hR : refReadR DD = noRep := by unfold refReadR; rw [if_neg h5]
        rw [hR] at HP
        have hp := HP.out
        rw [if_neg (by rintro ⟨h, _⟩; revert h; decide)] at hp
        subst hp
        have htx := Lib.hid (refRepText_any (.slice none 0 0) noRep (wr.alloc (.cells #[.slice none 0 0, .bool false] 31)) ⟨_, _, rfl, Nat.le_refl _, .inl rfl⟩ (fun e he => by cases he) (by decide))
        have HZ3 := Lib.hid (HX.out.alloc (.cells #[.slice none 0 0, .bool false] 31))
        have HB3 := Lib.hid (HB.out.alloc HB.out.size (.cells #[.slice none 0 0, .bool false] 31))
        rw [if_neg (by decide), if_neg (by decide)] at htx
        obtain ⟨xz, yz⟩ := HZ3.out.facts
        clear hR
        go_wp2_with fail
        refine wp_loop_rounds 1 ?_
        rw [rounds_succ]
        go_wp2_with (go_at_call 13; refine htx.out.mono ?_; rintro e w6 ⟨rfl, hb6⟩; have HZ6 := Lib.hid (HZ3.out.below hb6 HZ3.out.lt); obtain ⟨xz6, yz6⟩ := HZ6.out.facts; have HB6 := Lib.hid (HB3.out.trans (hb6.mono HB3.out.size)); clear hb6 xz yz)
        obtain ⟨HF, HFB⟩ := put2 HB6.out (Nat.le_refl _) HZ6.out (.slice none 0 0) (.bool false)
        obtain ⟨xf, yf⟩ := HF.facts
        refine bodyPost_ret (v := .tuple #[.agg #[.slice none 0 0, .bool false], .int .i64 8]) (by simp [results, Tryz.results9, go_sem, xf]) rfl ?_
        exact ⟨_, rfl, ⟨_, _, rfl, Nat.le_refl _, .inl rfl⟩, HFB⟩
theorem refParseRep_any (s : ByteArray) (w : World) :
    Calls Tryz.prog 9 #[.string s] w fun r w' => ∃ v, r = .returned (.tuple #[.agg #[v, .bool (parseR s).1.doubt], .int .i64 (parseR s).2]) ∧ Sl w' v (parseR s).1.opts.length 14 (evF (parseR s).1.opts) ∧ Below w.heap.size w w' := by
  by_cases hb : 20000 < s.size
  · refine (rpr_big s w hb).mono ?_
    rintro e w' ⟨rfl, h⟩
    unfold parseR
    rw [if_pos hb]
    exact ⟨_, rfl, ⟨_, _, rfl, Nat.le_refl _, .inl rfl⟩, h⟩
  · rw [← refParseR_same]
    exact rpr_rest s w (by omega)
end Go.Proofs.YtjlpllnhefafkaaGreatDoor
