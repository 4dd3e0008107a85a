/- event.Text at events of small days that are made, removed, overhauled, scrapped: for the examples of the statements. -/
import Derived.Test.YtmbalkebdmdmaaaDoorEv3
import Derived.Deep.RegionHeld3
namespace Go.Proofs.YtmbalkebdmdmaaaDoor
open Go Go.RowKit
def dig (d : Nat) : ByteArray := ⟨(Lib.decDigits d).toArray⟩
theorem itoa_small (d : Nat) (w : World) (h : d < 100) : Calls Tryd.prog 44 #[.int .i64 d] w fun e w' => e = .returned (.string (dig d)) ∧ w = w' :=
  (Tryd.strconv_Itoa_small d h w).mono fun _ _ ⟨h1, h2⟩ => ⟨h1, h2.symm⟩

/-- strings.Join of some strings in a slice. -/
def joined (l : List ByteArray) (sep : ByteArray) : ByteArray := ⟨(Lib.join (l.map (·.data.toList)) sep.data.toList).toArray⟩
theorem join_any (v : Value) (l : List ByteArray) (sep : ByteArray) (w : World) (h : Sl w v l.length 1 (strF l)) (hl : l.length ≤ 1000000) (hlen : (joined l sep).size ≤ 140737488355328) :
    Calls Tryd.prog 34 #[v, .string sep] w fun e w' => e = .returned (.string (joined l sep)) ∧ Below w.heap.size w w' := by
  obtain ⟨A, c, rfl, hn, h0 | ⟨b, o, rfl, hc⟩⟩ := h
  · have : l = [] := List.eq_nil_of_length_eq_zero h0
    subst this
    refine (Tryd.strings_Join_none A c sep w).mono fun e w' ⟨h1, h2⟩ => ⟨h1, h2 ▸ Below.refl _ _⟩
  · by_cases hz : l.length = 0
    · have : l = [] := List.eq_nil_of_length_eq_zero hz
      subst this
      refine (Tryd.strings_Join_none _ c sep w).mono fun e w' ⟨h1, h2⟩ => ⟨h1, h2 ▸ Below.refl _ _⟩
    · have hcell : ∀ (j : Nat) x, l[j]? = some x → w.cell? ⟨b, o + j, none⟩ = some (.string x) := fun j x hx => by
        have hj : j < l.length := by
          rcases Nat.lt_or_ge j l.length with h1 | h1
          · exact h1
          · rw [List.getElem?_eq_none h1] at hx; cases hx
        rw [hc j (by omega)]
        unfold strF
        rw [List.getD_eq_getElem?_getD, hx]; rfl
      have hb : b < w.heap.size := World.block_lt_of_cell? _ _ (hc 0 (by omega))
      exact (Tryd.strings_Join b o c l sep w hcell hb (by omega) hn hlen).mono fun e w' ⟨h1, h2⟩ => ⟨h1, h2⟩

set_option maxRecDepth 100000 in
set_option maxHeartbeats 4000000 in
theorem text_3 (day : Nat) (part kind into slot key value : ByteArray) (kl kh cl ch ll lh : Int) (w : World) (hd : day < 100)
    (hs : Ev.short ⟨3, day, part, kind, into, slot, key, value, kl, kh, cl, ch, ll, lh⟩) (hok : evOk ⟨3, day, part, kind, into, slot, key, value, kl, kh, cl, ch, ll, lh⟩ = true) (hlen : (joined [wordS 3, dig day, part] ⟨#[32]⟩).size ≤ 140737488355328) :
    Calls Tryd.prog 33 #[.agg #[.int .i64 3, .int .i64 day, .string part, .string kind, .string into, .string slot, .string key, .string value, .int .i64 kl, .int .i64 kh, .int .i64 cl, .int .i64 ch, .int .i64 ll, .int .i64 lh]] w fun r w' =>
      r = .returned (.tuple #[.string (joined [wordS 3, dig day, part] ⟨#[32]⟩), .int .i64 0]) ∧ Below w.heap.size w w' := by
  have HS := Lib.hid hs
  have HOK := Lib.hid hok
  clear hs hok
  go_enter Tryd.func33, Tryd.ntmps33
  go_wp2_with (go_at_call 17; refine (valid_any ⟨3, day, part, kind, into, slot, key, value, kl, kh, cl, ch, ll, lh⟩ _ HS.out).mono ?_; rintro e w2 ⟨rfl, hb2⟩; rw [HOK.out]; obtain ⟨hE2, hB2, hz2⟩ := boxed hb2; obtain ⟨hc2, hf2⟩ := hE2.facts; have HE2 := Lib.hid hE2; have HB2 := Lib.hid hB2; clear hb2 hE2 hB2)
  have c0 : w2.cell? ⟨w.heap.size, 0, none⟩ = some (.int .i64 3) := hc2 0
  have c1 : w2.cell? ⟨w.heap.size, 1, none⟩ = some (.int .i64 day) := hc2 1
  have c2 : w2.cell? ⟨w.heap.size, 2, none⟩ = some (.string part) := hc2 2
  clear hc2
  go_region_held3 (fun w' => w'.cell? ⟨w.heap.size, 0, none⟩ = some (.int .i64 3) ∧ w'.cell? ⟨w.heap.size, 1, none⟩ = some (.int .i64 day) ∧ w'.cell? ⟨w.heap.size, 2, none⟩ = some (.string part))
    (first | go_keep | (refine ⟨?_, ?_, ?_⟩ <;> (first | assumption | exact cell_later (by assumption) (by assumption))))
    ((first | (go_at_call 27; refine (word_any _ _).mono ?_; rintro e w3 ⟨rfl, hb3⟩) | (go_at_call 44; refine (itoa_small _ _ hd).mono ?_; rintro e w4 ⟨rfl, rfl⟩)))
  all_goals
    rename_i hHeld
    obtain ⟨q0, q1, q2⟩ := hHeld
    go_wp2_with (go_at_call 34; refine (join_any _ [wordS 3, dig day, part] _ _ (Sl.has (n := 3) (sz := 1) (c := 3) (Has.new _ 9 #[.string (wordS 3), .string (dig day), .string part]) (by omega) (f := strF [wordS 3, dig day, part]) (by intro j hj; match j, hj with | 0, _ => rfl | 1, _ => rfl | 2, _ => rfl)) (by simp) hlen).mono ?_; rintro e w9 ⟨rfl, hb9⟩)
    go_ret2
    have hs3 : w2.heap.size ≤ w3.heap.size := hb3.size
    have b3 : Below w.heap.size w w3 := (HB2.out.drew).trans (hb3.mono (by show w.heap.size ≤ w2.heap.size; omega))
    exact ⟨rfl, (b3.alloc (by omega) _).trans (hb9.mono (by simp; omega))⟩
theorem own_of_has {w : World} {g t : Nat} {cs : Array Value} {base n sz : Nat} (h : Has w g t cs) (hb : base ≤ g) (hs : cs.size = n * sz) (hn : n ≤ maxLen) :
    w.ownsRow base t sz (.slice (some ⟨g, 0, none⟩) n n) n cs.toList :=
  ⟨by simpa using hs, .inr ⟨g, n, cs, rfl, hb, h, Nat.le_refl _, hn, hs, by rw [List.take_of_length_le (by simp [hs])]⟩⟩
/-- What an append has made reads as a slice of strings. -/
theorem str_own {w : World} {base : Nat} {t : Nat} {v : Value} {l : List ByteArray} (h : w.ownsRow base t 1 v l.length (l.map .string)) : Sl w v l.length 1 (strF l) := by
  rcases h.2 with ⟨rfl, h0⟩ | ⟨g, cap, cur, rfl, hg, hh, hn, hc, hs, ht⟩
  · rw [h0]; exact ⟨_, _, rfl, Nat.le_refl _, .inl rfl⟩
  · refine ⟨_, cap, rfl, hn, .inr ⟨g, 0, rfl, fun j hj => ?_⟩⟩
    have hj' : j < l.length := by omega
    rw [Nat.zero_add, cell_of_row w g j cur t (0, 0) hh]
    have h1 : (l.map Value.string)[j]? = some (strF l j) := by
      unfold strF
      rw [List.getElem?_map, List.getD_eq_getElem?_getD, List.getElem?_eq_getElem hj']; rfl
    rw [← ht, List.getElem?_take, if_pos hj] at h1
    simpa using h1
theorem info_str : (Tryd.prog.info? 9).map (fun i => (i.zero, i.size, i.bytes)) = some (some (.string ⟨#[]⟩), 1, 16) := by kernel_rfl

set_option maxRecDepth 100000 in
set_option maxHeartbeats 4000000 in
theorem text_1 (day : Nat) (part kind into slot key value : ByteArray) (kl kh cl ch ll lh : Int) (w : World) (hd : day < 100)
    (hs : Ev.short ⟨1, day, part, kind, into, slot, key, value, kl, kh, cl, ch, ll, lh⟩) (hok : evOk ⟨1, day, part, kind, into, slot, key, value, kl, kh, cl, ch, ll, lh⟩ = true) (hlen : (joined [wordS 1, dig day, part, kind] ⟨#[32]⟩).size ≤ 140737488355328) :
    Calls Tryd.prog 33 #[.agg #[.int .i64 1, .int .i64 day, .string part, .string kind, .string into, .string slot, .string key, .string value, .int .i64 kl, .int .i64 kh, .int .i64 cl, .int .i64 ch, .int .i64 ll, .int .i64 lh]] w fun r w' =>
      r = .returned (.tuple #[.string (joined [wordS 1, dig day, part, kind] ⟨#[32]⟩), .int .i64 0]) ∧ Below w.heap.size w w' := by
  obtain ⟨i0, hi, hz0, hq1, hq2⟩ := info_parts info_str
  have hI := Lib.hid hi
  have hZ := Lib.hid hz0
  clear hi hz0
  have HS := Lib.hid hs
  have HOK := Lib.hid hok
  clear hs hok
  go_enter Tryd.func33, Tryd.ntmps33
  go_wp2_with (go_at_call 17; refine (valid_any ⟨1, day, part, kind, into, slot, key, value, kl, kh, cl, ch, ll, lh⟩ _ HS.out).mono ?_; rintro e w2 ⟨rfl, hb2⟩; rw [HOK.out]; obtain ⟨hE2, hB2, hz2⟩ := boxed hb2; obtain ⟨hc2, hf2⟩ := hE2.facts; have HE2 := Lib.hid hE2; have HB2 := Lib.hid hB2; clear hb2 hE2 hB2)
  have c0 : w2.cell? ⟨w.heap.size, 0, none⟩ = some (.int .i64 1) := hc2 0
  have c1 : w2.cell? ⟨w.heap.size, 1, none⟩ = some (.int .i64 day) := hc2 1
  have c2 : w2.cell? ⟨w.heap.size, 2, none⟩ = some (.string part) := hc2 2
  have c3 : w2.cell? ⟨w.heap.size, 3, none⟩ = some (.string kind) := hc2 3
  clear hc2
  go_region_held3 (fun w' => w'.cell? ⟨w.heap.size, 0, none⟩ = some (.int .i64 1) ∧ w'.cell? ⟨w.heap.size, 1, none⟩ = some (.int .i64 day) ∧ w'.cell? ⟨w.heap.size, 2, none⟩ = some (.string part) ∧ w'.cell? ⟨w.heap.size, 3, none⟩ = some (.string kind))
    (first | go_keep | (refine ⟨?_, ?_, ?_, ?_⟩ <;> (first | assumption | exact cell_later (by assumption) (by assumption))))
    ((first | (go_at_call 27; refine (word_any _ _).mono ?_; rintro e w3 ⟨rfl, hb3⟩) | (go_at_call 44; refine (itoa_small _ _ hd).mono ?_; rintro e w4 ⟨rfl, rfl⟩)))
  all_goals
    rename_i hHeld
    obtain ⟨q0, q1, q2, q3⟩ := hHeld
    have hs3 : w2.heap.size ≤ w3.heap.size := hb3.size
    have b3 : Below w.heap.size w w3 := (HB2.out.drew).trans (hb3.mono (by show w.heap.size ≤ w2.heap.size; omega))
    have B3 := Lib.hid b3
    clear b3 hb3
    have hown := own_of_has (base := w.heap.size) (n := 3) (sz := 1) (Has.new w3 9 #[.string (wordS 1), .string (dig day), .string part]) (by omega) rfl (by simp [maxLen])
    have HOWN := Lib.hid hown
    clear hown
    go_wp2_with (at_builtin; refine wpList_append_own _ rfl (.tmp 23) (.tmp 26) 45 rfl w.heap.size 9 i0 (.string ⟨#[]⟩) 1 16 Tryd.underlying45 hI.out hZ.out hq1 hq2 rfl (by decide) _ _ _ rfl (HOWN.out.alloc _) ⟨w3.heap.size + 1, 0, none⟩ 1 1 [.string kind] rfl rfl ?c1 ?c2 ?c3 ?c4 ?c5 ?_)
    case c2 => rfl
    case c3 => unfold maxLen; omega
    case c5 => omega
    · intro v' w5 hown5 hg5 _
      have HOWN5 := Lib.hid (show w5.ownsRow w.heap.size 9 1 v' 4 ([wordS 1, dig day, part, kind].map .string) from hown5)
      have b5 : Below w.heap.size w w5 := ((B3.out.alloc (by omega) _).alloc (by simp; omega) _).grown hg5 (by simp; omega) (fun j hj => by simp [Value.ownBlock] at hj; omega)
      have hz5 := b5.size
      have B5 := Lib.hid b5
      clear b5 hown5 hg5
      go_wp2_with (go_at_call 34; refine (join_any _ [wordS 1, dig day, part, kind] _ _ (str_own HOWN5.out) (by simp) hlen).mono ?_; rintro e w9 ⟨rfl, hb9⟩)
      go_ret2
      exact ⟨rfl, B5.out.trans (hb9.mono hz5)⟩
end Go.Proofs.YtmbalkebdmdmaaaDoor
