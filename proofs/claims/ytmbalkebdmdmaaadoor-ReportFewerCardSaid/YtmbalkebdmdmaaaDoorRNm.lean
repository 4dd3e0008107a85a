/- report.Names: the parts that a report mentions. -/
import Derived.Test.YtmbalkebdmdmaaaDoorNam
import Derived.Test.YtmbalkebdmdmaaaDoorIn
import Derived.Test.YtmbalkebdmdmaaaDoorNm1
import Derived.Test.YtmbalkebdmdmaaaDoorRep4
namespace Go.Proofs.YtmbalkebdmdmaaaDoor
open Go Go.RowKit
theorem info_strs : (Tryd.prog.info? 45).map (fun i => (i.zero, i.size, i.bytes)) = some (some (.slice none 0 0), 1, 24) := by kernel_rfl
theorem own_base {w : World} {b b' t sz n : Nat} {v : Value} {xs : List Value} (h : w.ownsRow b t sz v n xs) (hb : b' ≤ b) : w.ownsRow b' t sz v n xs := by
  refine ⟨h.1, ?_⟩
  rcases h.2 with h | ⟨g, cap, cur, h1, h2, h3⟩
  · exact .inl h
  · exact .inr ⟨g, cap, cur, h1, by omega, h3⟩
def repNames (l : List Ev) : List ByteArray := if repOk l then joinL (l.map evNames).flatten else []
theorem evNames_le (e : Ev) : (evNames e).length ≤ 2 := by unfold evNames; split <;> (try split) <;> simp
theorem flat_le (l : List Ev) : (l.map evNames).flatten.length ≤ l.length * 2 := by
  induction l with
  | nil => simp
  | cons e l ih =>
    have := evNames_le e
    simp only [List.map_cons, List.flatten_cons, List.length_append, List.length_cons]
    omega
/-- What the first rounds have gathered: slices, each owning the names of its event. -/
def Rows (w : World) (B : Nat) (l : List Ev) (k : Nat) (svs : List Value) : Prop := svs.length = k ∧ ∀ j, j < k → ∃ sv, svs[j]? = some sv ∧ sv.oneCell' = true ∧ w.ownsRow B 9 1 sv (evNames (l.getD j noEv)).length ((evNames (l.getD j noEv)).map .string)
theorem Rows.kept {w w' : World} {B k : Nat} {l : List Ev} {svs : List Value} {row : Option Nat} (h : Rows w B l k svs) (hg : w.grownBy w' row)
    (hne : ∀ sv n xs, w.ownsRow B 9 1 sv n xs → sv.ownBlock = none ∨ sv.ownBlock ≠ row) : Rows w' B l k svs :=
  ⟨h.1, fun j hj => by obtain ⟨sv, h1, h2, h3⟩ := h.2 j hj; exact ⟨sv, h1, h2, h3.kept hg (hne _ _ _ h3)⟩⟩
theorem Rows.alloc {w : World} {B k : Nat} {l : List Ev} {svs : List Value} (h : Rows w B l k svs) (o : Obj) : Rows (w.alloc o) B l k svs :=
  ⟨h.1, fun j hj => by obtain ⟨sv, h1, h2, h3⟩ := h.2 j hj; exact ⟨sv, h1, h2, h3.alloc o⟩⟩
theorem Rows.more {w : World} {B k : Nat} {l : List Ev} {svs : List Value} {sv : Value} (h : Rows w B l k svs) (h1 : sv.oneCell' = true) (h3 : w.ownsRow B 9 1 sv (evNames (l.getD k noEv)).length ((evNames (l.getD k noEv)).map .string)) : Rows w B l (k + 1) (svs ++ [sv]) := by
  refine ⟨by rw [List.length_append, h.1]; rfl, fun j hj => ?_⟩
  rcases Nat.lt_or_ge j k with hlt | hge
  · obtain ⟨s, a, b, c⟩ := h.2 j hlt
    exact ⟨s, by rw [List.getElem?_append_left (by rw [h.1]; exact hlt)]; exact a, b, c⟩
  · obtain rfl : j = k := by omega
    exact ⟨sv, by rw [List.getElem?_append_right (by rw [h.1]; exact Nat.le_refl _), h.1]; simp, h1, h3⟩
theorem rows_str {w : World} {B base t : Nat} {l : List Ev} {v : Value} {svs : List Value} (hown : w.ownsRow base t 1 v l.length svs) (h : Rows w B l l.length svs) : StrRows w v (l.map evNames) := by
  obtain ⟨A, c, hv, hn, h0 | ⟨b, o, hA, hcell⟩⟩ := sl_row hown
  · exact ⟨A, c, by simpa using hv, by simpa using hn, .inl (by simpa using h0)⟩
  · refine ⟨A, c, by simpa using hv, by simpa using hn, .inr ⟨b, o, hA, fun i hi => ?_⟩⟩
    have hi' : i < l.length := by simpa using hi
    obtain ⟨sv, h1, _, h3⟩ := h.2 i hi'
    have e : (l.map evNames).getD i [] = evNames (l.getD i noEv) := by
      rw [List.getD_eq_getElem?_getD, List.getElem?_map, List.getD_eq_getElem?_getD, List.getElem?_eq_getElem hi']; rfl
    rw [e]
    refine ⟨sv, ?_, ?_⟩
    · rw [hcell i (by omega)]; show some ((svs[i]?).getD undef) = _; rw [h1]; rfl
    · have h4 := sl_row h3
      exact h4.congr fun j hj => by
        have hj' : j < (evNames (l.getD i noEv)).length := by omega
        generalize evNames (l.getD i noEv) = q at *
        rw [List.getElem?_map, List.getElem?_eq_getElem hj']
        unfold strF
        rw [List.getD_eq_getElem?_getD, List.getElem?_eq_getElem hj']; rfl
theorem own_one {w : World} {b t sz n : Nat} {v : Value} {xs : List Value} (h : w.ownsRow b t sz v n xs) : v.oneCell' = true := by
  rcases h.2 with ⟨rfl, _⟩ | ⟨g, cap, cur, rfl, _⟩ <;> rfl

theorem own_form {w : World} {b t sz n : Nat} {v : Value} {xs : List Value} (h : w.ownsRow b t sz v n xs) : ∃ A c, v = .slice A n c := by
  rcases h.2 with ⟨rfl, rfl⟩ | ⟨g, cap, cur, rfl, _⟩
  · exact ⟨_, _, rfl⟩
  · exact ⟨_, _, rfl⟩

set_option maxRecDepth 100000 in
set_option maxHeartbeats 4000000 in
theorem rnames_any (v : Value) (l : List Ev) (d : Bool) (w : World) (hv : Sl w v l.length 14 (evF l)) (hs : ∀ e ∈ l, e.short) (hl : l.length ≤ 1000) :
    Calls Tryd.prog 20 #[.agg #[v, .bool d]] w fun r w' => ∃ v', r = .returned v' ∧ Sl w' v' (repNames l).length 1 (strF (repNames l)) ∧ Below w.heap.size w w' := by
  obtain ⟨i0, hi, hz0, hq1, hq2⟩ := info_parts info_strs
  have hI := Lib.hid hi
  have hZ := Lib.hid hz0
  clear hi hz0
  have HV := Lib.hid hv
  have HS := Lib.hid hs
  obtain ⟨A, c, rfl, hn⟩ := sl_len hv
  clear hv hs
  cases hok : repOk l
  · have hr := Lib.hid (show repNames l = [] by simp [repNames, hok])
    have HOK := Lib.hid hok
    clear hok
    go_enter Tryd.func20, Tryd.ntmps20
    go_wp2_with (go_at_call 12; refine (repValid_any _ l _ _ (HV.out.below ((Below.refl _ _).alloc (Nat.le_refl _) _)) HS.out (by omega)).mono ?_; rintro e w2 ⟨rfl, hb2⟩; rw [HOK.out]; obtain ⟨hE2, hB2, hz2⟩ := boxed hb2; obtain ⟨hc2, hf2⟩ := hE2.facts; have HB2 := Lib.hid hB2; clear hb2 hE2 hB2)
    go_ret
    exact ⟨_, rfl, by rw [hr.out]; exact ⟨_, _, rfl, Nat.le_refl _, .inl rfl⟩, HB2.out⟩
  · have hr := Lib.hid (show repNames l = joinL (l.map evNames).flatten by simp [repNames, hok])
    have hl4 := repOk_le hok
    have HOK := Lib.hid hok
    clear hok
    go_enter Tryd.func20, Tryd.ntmps20
    go_wp2_with (go_at_call 12; refine (repValid_any _ l _ _ (HV.out.below ((Below.refl _ _).alloc (Nat.le_refl _) _)) HS.out (by omega)).mono ?_; rintro e w2 ⟨rfl, hb2⟩; rw [HOK.out]; obtain ⟨hE2, hB2, hz2⟩ := boxed hb2; obtain ⟨hc2, hf2⟩ := hE2.facts; have HB2 := Lib.hid hB2; clear hb2 hE2 hB2)
    go_loopw [3, 12] (fun v i wr => ∃ k : Nat, k ≤ l.length ∧ i = .int .i64 k ∧ (∃ svs, wr.ownsRow w.heap.size 45 1 v k svs ∧ Rows wr w.heap.size l k svs) ∧ Below w.heap.size w wr) (fun _ i _ => l.length - (intOf i).toNat)
    case atStart => exact ⟨0, Nat.zero_le _, rfl, ⟨[], World.ownsRow_nil _ _ _ _, rfl, fun j hj => absurd hj (by omega)⟩, HB2.out⟩
    case round =>
      obtain ⟨k, hk, rfl, ⟨svs, hown, hrows⟩, hB⟩ := hrel
      by_cases hlt : k < l.length
      · obtain ⟨A1, c1, he1, hn1, h0 | ⟨b, o, rfl, hc⟩⟩ := HV.out
        · omega
        obtain ⟨rfl, rfl⟩ : A = some ⟨b, o, none⟩ ∧ c = c1 := by injection he1; exact ⟨by assumption, by assumption⟩
        have hrg : wr.rangeAt b (o + k * 14) (l.getD k noEv).cells.toList := ev_range (fun j hj => cell_later hB (hc j hj)) hlt
        have hshort := HS.out _ (getD_mem l k noEv hlt)
        have hMore := Lib.hid (fun (W : World) (svs : List Value) (sv : Value) (h : Rows W w.heap.size l k svs) h1 h3 => h.more (sv := sv) h1 h3)
        have HOWN := Lib.hid hown
        have HROWS := Lib.hid hrows
        have HB := Lib.hid hB
        clear hc he1 hown hrows hB
        generalize l.getD k noEv = ev at *
        obtain ⟨n5, hn5⟩ : ∃ n, n = (evNames ev).length := ⟨_, rfl⟩
        have hcon : Hid (∀ W, Calls Tryd.prog 19 #[.agg ev.cells] W fun r w' => ∃ A c, r = .returned (.slice A n5 c) ∧ w'.ownsRow W.heap.size 9 1 (.slice A n5 c) (evNames ev).length ((evNames ev).map .string) ∧ Below W.heap.size W w') := fun W => (names_any ev W hshort).mono fun r w' ⟨v', h1, h2, h3⟩ => by
          obtain ⟨A, c, rfl⟩ := own_form h2
          rw [← hn5] at h1 
          exact ⟨A, c, h1, by rw [← hn5] at h2 ⊢; exact h2, h3⟩
        clear hn5
        obtain ⟨op, day, part, kind, into, slot, key, value, kl, kh, cl, ch, ll, lh⟩ := ev
        replace hrg : wr.rangeAt b (o + k * 14) [.int .i64 op, .int .i64 day, .string part, .string kind, .string into, .string slot, .string key, .string value, .int .i64 kl, .int .i64 kh, .int .i64 cl, .int .i64 ch, .int .i64 ll, .int .i64 lh] := hrg
        go_wp2_with (first | ((with_reducible show wpList _ _ _ (Oper.mk (some 15) _ _ _ _ _ :: _) _ _); refine wpList_load_mid rfl 39 _ rfl b (o + k * 14) rfl _ _ hrg Tryd.underlying39 rfl rfl ?_) | (go_at_call 19; refine (hcon.out _).mono ?_; rintro e w5 ⟨A5, c5, rfl, hown5, hb5⟩; have HOWN5 := Lib.hid hown5; have HB5 := Lib.hid hb5; clear hb5 hown5) | (at_builtin; refine wpList_append_own _ rfl (.tmp 16) (.tmp 19) 69 rfl w.heap.size 45 i0 (.slice none 0 0) 1 24 Tryd.underlying69 hI.out hZ.out hq1 hq2 rfl (by decide) _ _ _ rfl (((HOWN.out.alloc _).kept (row := none) (World.grownBy_of_below HB5.out) (by cases Value.ownBlock _ <;> simp)).alloc _) ⟨w5.heap.size, 0, none⟩ 1 1 [.slice A5 n5 c5] rfl rfl ?c1 ?c2 ?c3 ?c4 ?c5 ?_))
        case c1 => exact cell_one_new _ _ _
        case c2 => intro u hu; simp at hu; subst hu; exact own_one HOWN5.out
        case c3 => unfold maxLen; omega
        case c4 => omega
        case c5 => have := HB.out.size; have := HB5.out.size; simp at this ⊢; omega
        · intro v' w6 hown6 hg6 _
          have hsz5 : wr.heap.size + 1 ≤ w5.heap.size := by have := HB5.out.size; simpa using this
          have h0 := HB.out.size
          have hown4 := ((HOWN.out.alloc (.cells #[.int .i64 op, .int .i64 day, .string part, .string kind, .string into, .string slot, .string key, .string value, .int .i64 kl, .int .i64 kh, .int .i64 cl, .int .i64 ch, .int .i64 ll, .int .i64 lh] 39)).kept (row := none) (World.grownBy_of_below HB5.out) (by cases Value.ownBlock _ <;> simp)).alloc (.cells #[.slice A5 n5 c5] 45)
          have hr5 : Rows (w5.alloc (.cells #[.slice A5 n5 c5] 45)) w.heap.size l (k + 1) (svs ++ [.slice A5 n5 c5]) :=
            hMore.out _ _ _ (((HROWS.out.alloc _).kept (row := none) (World.grownBy_of_below HB5.out) (fun sv n xs _ => by cases Value.ownBlock _ <;> simp)).alloc _) (own_one HOWN5.out) ((own_base HOWN5.out (by simp; omega)).alloc _)
          have hr6 := Lib.hid (hr5.kept hg6 (fun sv n xs h => own_apart h hown4 (by decide)))
          have HOWN6 := Lib.hid hown6
          have b6 : Below w.heap.size w w6 := ((((HB.out.alloc h0 _).trans (HB5.out.mono (by simp; omega))).alloc (by omega) _)).grown hg6 (by simp; omega) (fun j hj => (HOWN.out.lt j hj).1)
          have B6 := Lib.hid b6
          clear b6 hown6 hg6 hr5 hown4
          go_wp2_with fail
          go_roundw
          case rel => exact ⟨k + 1, by omega, by go_num, ⟨_, HOWN6.out, hr6.out⟩, B6.out⟩
          case measure => simp [intOf]; omega
      · obtain rfl : k = l.length := by omega
        have HST := Lib.hid (rows_str hown hrows)
        have hfl := flat_le l
        have HB := Lib.hid hB
        have hsz := hB.size
        clear hown hrows hB
        go_wp2_with fail
        refine (joined_any _ (l.map evNames) _ HST.out (by simp; omega) _ rfl (by omega)).mono ?_
        rintro e w7 ⟨v7, rfl, hs7, hb7⟩
        have HS7 := Lib.hid hs7
        have HB7 := Lib.hid (HB.out.trans (hb7.mono hsz))
        clear hs7 hb7
        go_wp2_with fail
        go_ret
        exact ⟨_, rfl, by rw [hr.out]; exact HS7.out, HB7.out⟩
end Go.Proofs.YtmbalkebdmdmaaaDoor
