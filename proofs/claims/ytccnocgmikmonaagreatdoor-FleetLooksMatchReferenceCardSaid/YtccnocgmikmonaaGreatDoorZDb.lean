/- fleet.Digest$1: numbers in decimal digits, behind a list that lies in a box. Condition: strconv's table is laid, the list is not too long. fleet.Digest: what it returns. Condition: strconv's table is laid, the fields are not too many, nor too long. -/
import Derived.Test.YtccnocgmikmonaaGreatDoorU07
import Derived.Test.YtccnocgmikmonaaGreatDoorU26
import Derived.Test.YtccnocgmikmonaaGreatDoorZDa
namespace Go.Proofs.YtccnocgmikmonaaGreatDoor
open Go Go.RowKit
def itoaB (n : Int) : ByteArray := ⟨(Lib.itoa n).toArray⟩
/-- A list of strings of one's own that lies in box g; its row lies from base on. -/
def OutB (base g : Nat) (out : List ByteArray) (w : World) : Prop := base ≤ g ∧ ∃ v, Has w g 39 #[v] ∧ Own0 w base 9 1 v out.length (out.map .string)
/-- What is no string's row and not box g stays. -/
def KeepX (g : Nat) (w w' : World) : Prop := w.heap.size ≤ w'.heap.size ∧ ∀ k t cs, t ≠ 9 → k ≠ g → Has w k t cs → Has w' k t cs
theorem KeepX.refl (g : Nat) (w : World) : KeepX g w w := ⟨Nat.le_refl _, fun _ _ _ _ _ h => h⟩
theorem KeepX.trans {g : Nat} {a b c : World} (h : KeepX g a b) (h' : KeepX g b c) : KeepX g a c := ⟨Nat.le_trans h.1 h'.1, fun k t cs h1 h2 h3 => h'.2 k t cs h1 h2 (h.2 k t cs h1 h2 h3)⟩
theorem KeepX.below {g : Nat} {w w' : World} (hb : Below w.heap.size w w') : KeepX g w w' := ⟨hb.size, fun _ _ _ _ _ h => h.below hb h.lt⟩
theorem KeepX.alloc (g : Nat) (w : World) (o : Obj) : KeepX g w (w.alloc o) := .below ((Below.refl _ _).alloc (Nat.le_refl _) o)
theorem KeepX.grew {g base : Nat} {w w' : World} (h : Grew w w' base 9) : KeepX g w w' := ⟨(let ⟨_, hg, _⟩ := h; hg.size), fun _ _ _ h1 _ h3 => h.has h3 h1⟩
theorem KeepX.put (g : Nat) (w : World) (i : Nat) (u : Value) : KeepX g w (w.setCell ⟨g, i, none⟩ u) := ⟨by simp [World.setCell], fun k _ _ _ h2 h3 => h3.far ⟨g, i, none⟩ h2 u⟩
theorem own0_below {w w' : World} {base e size n : Nat} {v : Value} {xs : List Value} (h : Own0 w base e size v n xs) (hb : Below w.heap.size w w') : Own0 w' base e size v n xs := h.elim (fun h => .inl (own_below h hb (Nat.le_refl _))) .inr
theorem OutB.below {base g : Nat} {out : List ByteArray} {w w' : World} (h : OutB base g out w) (hb : Below w.heap.size w w') : OutB base g out w' := by
  obtain ⟨h1, v, h2, h3⟩ := h
  exact ⟨h1, v, h2.below hb h2.lt, own0_below h3 hb⟩
theorem OutB.alloc {base g : Nat} {out : List ByteArray} {w : World} (h : OutB base g out w) (o : Obj) : OutB base g out (w.alloc o) := h.below ((Below.refl _ _).alloc (Nat.le_refl _) o)
theorem infoS : (Tryz.prog.info? 9).map (fun i => (i.zero, i.size, i.bytes)) = some (some (.string ⟨#[]⟩), 1, 16) := by kernel_rfl
/-- A list grown by an append, and stored. -/
theorem OutB.more {base g : Nat} {out more : List ByteArray} {w w' : World} {v v' : Value} {n : Nat} (hg : base ≤ g) (h : Has w g 39 #[v]) (hgr : Grew w w' base 9) (ho : Own0 w' base 9 1 v' n (out.map .string ++ more.map .string)) (hn : n = out.length + more.length) :
    OutB base g (out ++ more) (w'.setCell ⟨g, 0, none⟩ v') := by
  have hh := hgr.has h (by decide)
  refine ⟨hg, v', hh.put 0 v', ?_⟩
  rw [List.length_append, List.map_append, ← hn]
  exact ho.put hh (by decide) 0 v'
theorem strs_one {l : List ByteArray} : ∀ u ∈ l.map Value.string, u.oneCell' = true := fun u h => by
  obtain ⟨x, _, rfl⟩ := List.mem_map.1 h
  rfl
set_option maxRecDepth 100000 in
set_option maxHeartbeats 4000000 in
theorem add_any (w0 : World) (ht : Tab w0) (base g k : Nat) (out : List ByteArray) (ns : List Int) (w : World) (hb0 : Below w0.heap.size w0 w) (hbase : w0.heap.size ≤ base) (hO : OutB base g out w) (hK : Has w k 3 (ns.map (Value.int .i64)).toArray) (hkg : k ≠ g)
    (hr : ∀ n ∈ ns, -9223372036854775808 ≤ n ∧ n ≤ 9223372036854775807) (hl : out.length + ns.length ≤ 1000000) (hbw : base ≤ w.heap.size) :
    Calls Tryz.prog 41 #[.slice (some ⟨k, 0, none⟩) ns.length ns.length, .pointer (some ⟨g, 0, none⟩)] w fun e w' => e = .returned (.tuple #[]) ∧ OutB base g (out ++ ns.map itoaB) w' ∧ KeepX g w w' ∧ Below base w w' := by
  obtain ⟨i0, hi, hz0, hz1, hz2⟩ := info_parts infoS
  have HI := Lib.hid hi
  have HZ := Lib.hid hz0
  have HO0 := Lib.hid hO
  have HK0 := Lib.hid hK
  have HR := Lib.hid hr
  have HB0 := Lib.hid hb0
  have HIT := Lib.hid (fun n h0 h1 W hb => itoa_any w0 ht n h0 h1 W hb)
  have HBW := Lib.hid hbw
  have HBS := Lib.hid hbase
  have HKG := Lib.hid hkg
  clear hi hz0 hO hK hr hb0 ht hbw hbase hkg
  go_enter Tryz.func41, Tryz.ntmps41
  go_wp2_with fail
  go_loopw [7] (fun i wr => ∃ j : Nat, j ≤ ns.length ∧ i = .int .i64 j ∧ Hid (OutB base g (out ++ (ns.take j).map itoaB) wr) ∧ Hid (KeepX g w wr) ∧ Hid (Below base w wr)) (fun i _ => ns.length - (intOf i).toNat)
  case atStart => exact ⟨0, Nat.zero_le _, rfl, (by show OutB _ _ _ _; simpa using HO0.out), KeepX.refl _ _, Below.refl _ _⟩
  case round =>
    obtain ⟨j, hj, rfl, HO, HX, HB⟩ := hrel
    by_cases hlt : j < ns.length
    · have HKr := Lib.hid (HX.out.2 k _ _ (by decide) HKG.out HK0.out)
      have hcell : wr.cell? ⟨k, j, none⟩ = some (.int .i64 (ns.getD j 0)) := by
        rw [HKr.out.cell j]
        simp [List.getD_eq_getElem?_getD, List.getElem?_eq_getElem hlt]
      obtain ⟨hn0, hn1⟩ := HR.out (ns.getD j 0) (by rw [List.getD_eq_getElem?_getD, List.getElem?_eq_getElem hlt]; exact List.getElem_mem _)
      have HTK : Hid ((ns.take (j + 1)).map itoaB = (ns.take j).map itoaB ++ [itoaB (ns.getD j 0)]) := by
        show _ = _
        rw [List.take_add_one, List.map_append, List.getElem?_eq_getElem hlt, List.getD_eq_getElem?_getD, List.getElem?_eq_getElem hlt]
        rfl
      have hji : (j : Int) < (ns.length : Int) := by omega
      have HLN : Hid ((out ++ (ns.take j).map itoaB).length + 1 ≤ 1000000) := by
        show _ ≤ _
        simp only [List.length_append, List.length_map, List.length_take]
        omega
      generalize ns.getD j 0 = x at *
      have HIX := Lib.hid (HIT.out x hn0 hn1)
      generalize hO1 : out ++ (ns.take j).map itoaB = o1 at HO HLN
      have HO1 := Lib.hid hO1
      clear hO1 hn0 hn1
      obtain ⟨hbg, v, hbox, hown⟩ := HO.out
      obtain ⟨A1, c1, hv⟩ := hown.form
      subst hv
      have HBX := Lib.hid hbox
      have HOW := Lib.hid hown
      have HBG := Lib.hid hbg
      have HSZ : Hid (w0.heap.size ≤ wr.heap.size) := Nat.le_trans HBS.out (Nat.le_trans HBW.out HB.out.size)
      have HB0r : Hid (Below w0.heap.size w0 wr) := HB0.out.trans (HB.out.mono HBS.out)
      clear hbox hown hbg
      go_wp2_with fail
      refine wp_region_held_drew (S := fun _ => True) (by kernel_rfl) (trivial) (fun hHeld => ?_)
      refine plI [(1, false)] ?_
      repeat ((first | ((with_reducible show Plan ((_, true) :: _) _); refine plF ?_) | (refine plR (v := ?_) ?_ ?_; rotate_left; focus (intro W hSW; (try dsimp only at hSW); go_simp; all_goals (with_reducible rfl)))); try simp only [Act.put, List.setIfInBounds_toArray, List.set_cons_zero, List.set_cons_succ])
      refine plE ?_
      refine wpAnyH_ready (rs := [0, 2]) (by kernel_rfl) (by simp) ?_
      refine AllReadyH.cons (o := ⟨_, _, _, _, _, _⟩) rfl (fun K hK => ?_) ?_
      · have xl := (HBX.out.drew).facts.1 0
        go_simp
        refine hK.out _ _ (trivial) (fun hHeld => ?_)
        clear hK K
        try simp only [Act.put, List.setIfInBounds_toArray, List.set_cons_zero, List.set_cons_succ]
        refine wpAnyH_ready (rs := [2]) (by kernel_rfl) (by simp) ?_
        refine AllReadyH.cons (o := ⟨_, _, _, _, _, _⟩) rfl (fun K hK => ?_) AllReadyH.nil
        go_simp
        go_at_call 40; refine (HIX.out _ HB0r.out.drew).mono ?_; rintro e w5 ⟨rfl, hb5⟩; have HBX5 := Lib.hid ((HBX.out.drew).below hb5 (HBX.out.drew).lt); have HOW5 := Lib.hid (own0_below (HOW.out.drew) hb5); have HB5 := Lib.hid hb5; clear hb5
        refine hK.out _ _ (trivial) (fun hHeld => ?_)
        clear hK K
        try simp only [Act.put, List.setIfInBounds_toArray, List.set_cons_zero, List.set_cons_succ]
        refine wpAnyH_ready (rs := [3]) (by kernel_rfl) (by simp) ?_
        refine AllReadyH.cons (o := ⟨_, _, _, _, _, _⟩) rfl (fun K hK => ?_) AllReadyH.nil
        go_simp
        refine hK.out _ _ (trivial) (fun hHeld => ?_)
        clear hK K
        try simp only [Act.put, List.setIfInBounds_toArray, List.set_cons_zero, List.set_cons_succ]
        refine wpAnyH_ready (rs := [4]) (by kernel_rfl) (by simp) ?_
        refine AllReadyH.cons (o := ⟨_, _, _, _, _, _⟩) rfl (fun K hK => ?_) AllReadyH.nil
        rw [if_pos (show Region.wanted _ _ = true by rfl)]
        refine wp_app0 (.tmp 11) (.tmp 14) 39 rfl base 9 i0 (.string ⟨#[]⟩) 1 16 Tryz.underlying39 HI.out HZ.out hz1 hz2 rfl (by decide) _ o1.length (o1.map .string) rfl (HOW5.out.alloc _) (some ⟨w5.heap.size, 0, none⟩) 1 1 ([itoaB x].map .string) rfl rfl (.inr ⟨_, rfl, own_src _ _ _⟩) strs_one (by have := HLN.out; unfold maxLen; omega) (by have := HLN.out; omega) (by have h1 := HB5.out.size; have h2 := HB.out.size; have h3 := HBW.out; simp at h1 ⊢; omega) ?_
        intro v6 w6 hown6 hg6
        obtain ⟨A6, c6, hf6⟩ := hown6.form
        subst hf6
        have HOW6 := Lib.hid hown6
        have HG6 := Lib.hid hg6
        have HBX6 := Lib.hid (hg6.has (HBX5.out.alloc _) (by decide))
        obtain ⟨x6, y6⟩ := HBX6.out.facts
        clear hown6 hg6
        refine hK.out _ _ (trivial) (fun hHeld => ?_)
        clear hK K
        try simp only [Act.put, List.setIfInBounds_toArray, List.set_cons_zero, List.set_cons_succ]
        refine wpAnyH_ready (rs := [5]) (by kernel_rfl) (by simp) ?_
        refine AllReadyH.cons (o := ⟨_, _, _, _, _, _⟩) rfl (fun K hK => ?_) AllReadyH.nil
        go_simp
        refine hK.out _ _ (trivial) (fun hHeld => ?_)
        clear hK K
        try simp only [Act.put]
        refine wpAnyH_done (by kernel_rfl) ?_ _
        clear hHeld
        go_wp2_with fail
        go_roundw
        case rel => exact ⟨j + 1, by omega, by go_num, (by rw [HTK.out, ← List.append_assoc, HO1.out]; exact OutB.more HBG.out (HBX5.out.alloc _) HG6.out HOW6.out rfl), HX.out.trans ((KeepX.below (g := g) (show Below wr.heap.size wr w5 from (Below.refl _ _).drew.trans HB5.out)).trans ((KeepX.alloc g w5 _).trans ((KeepX.grew HG6.out).trans (KeepX.put g w6 0 _)))), HB.out.trans (((HG6.out.below (((Below.refl base wr).drew.trans (HB5.out.mono (by have h2 := HB.out.size; have h3 := HBW.out; simp; omega))).alloc (by have h1 := HB5.out.size; have h2 := HB.out.size; have h3 := HBW.out; simp at h1; omega) _) (by have h1 := HB5.out.size; have h2 := HB.out.size; have h3 := HBW.out; simp at h1 ⊢; omega) (Nat.le_refl _))).setCell (p := ⟨g, 0, none⟩) HBG.out _)⟩
        case measure => simp [intOf]; omega
      refine AllReadyH.cons (o := ⟨_, _, _, _, _, _⟩) rfl (fun K hK => ?_) AllReadyH.nil
      go_simp
      go_at_call 40; refine (HIX.out _ HB0r.out.drew).mono ?_; rintro e w5 ⟨rfl, hb5⟩; have HBX5 := Lib.hid ((HBX.out.drew).below hb5 (HBX.out.drew).lt); have HOW5 := Lib.hid (own0_below (HOW.out.drew) hb5); have HB5 := Lib.hid hb5; clear hb5
      refine hK.out _ _ (trivial) (fun hHeld => ?_)
      clear hK K
      try simp only [Act.put, List.setIfInBounds_toArray, List.set_cons_zero, List.set_cons_succ]
      refine wpAnyH_ready (rs := [0, 3]) (by kernel_rfl) (by simp) ?_
      refine AllReadyH.cons (o := ⟨_, _, _, _, _, _⟩) rfl (fun K hK => ?_) ?_
      · have xl := (HBX5.out).facts.1 0
        go_simp
        refine hK.out _ _ (trivial) (fun hHeld => ?_)
        clear hK K
        try simp only [Act.put, List.setIfInBounds_toArray, List.set_cons_zero, List.set_cons_succ]
        refine wpAnyH_ready (rs := [3]) (by kernel_rfl) (by simp) ?_
        refine AllReadyH.cons (o := ⟨_, _, _, _, _, _⟩) rfl (fun K hK => ?_) AllReadyH.nil
        go_simp
        refine hK.out _ _ (trivial) (fun hHeld => ?_)
        clear hK K
        try simp only [Act.put, List.setIfInBounds_toArray, List.set_cons_zero, List.set_cons_succ]
        refine wpAnyH_ready (rs := [4]) (by kernel_rfl) (by simp) ?_
        refine AllReadyH.cons (o := ⟨_, _, _, _, _, _⟩) rfl (fun K hK => ?_) AllReadyH.nil
        rw [if_pos (show Region.wanted _ _ = true by rfl)]
        refine wp_app0 (.tmp 11) (.tmp 14) 39 rfl base 9 i0 (.string ⟨#[]⟩) 1 16 Tryz.underlying39 HI.out HZ.out hz1 hz2 rfl (by decide) _ o1.length (o1.map .string) rfl (HOW5.out.alloc _) (some ⟨w5.heap.size, 0, none⟩) 1 1 ([itoaB x].map .string) rfl rfl (.inr ⟨_, rfl, own_src _ _ _⟩) strs_one (by have := HLN.out; unfold maxLen; omega) (by have := HLN.out; omega) (by have h1 := HB5.out.size; have h2 := HB.out.size; have h3 := HBW.out; simp at h1 ⊢; omega) ?_
        intro v6 w6 hown6 hg6
        obtain ⟨A6, c6, hf6⟩ := hown6.form
        subst hf6
        have HOW6 := Lib.hid hown6
        have HG6 := Lib.hid hg6
        have HBX6 := Lib.hid (hg6.has (HBX5.out.alloc _) (by decide))
        obtain ⟨x6, y6⟩ := HBX6.out.facts
        clear hown6 hg6
        refine hK.out _ _ (trivial) (fun hHeld => ?_)
        clear hK K
        try simp only [Act.put, List.setIfInBounds_toArray, List.set_cons_zero, List.set_cons_succ]
        refine wpAnyH_ready (rs := [5]) (by kernel_rfl) (by simp) ?_
        refine AllReadyH.cons (o := ⟨_, _, _, _, _, _⟩) rfl (fun K hK => ?_) AllReadyH.nil
        go_simp
        refine hK.out _ _ (trivial) (fun hHeld => ?_)
        clear hK K
        try simp only [Act.put]
        refine wpAnyH_done (by kernel_rfl) ?_ _
        clear hHeld
        go_wp2_with fail
        go_roundw
        case rel => exact ⟨j + 1, by omega, by go_num, (by rw [HTK.out, ← List.append_assoc, HO1.out]; exact OutB.more HBG.out (HBX5.out.alloc _) HG6.out HOW6.out rfl), HX.out.trans ((KeepX.below (g := g) (show Below wr.heap.size wr w5 from (Below.refl _ _).drew.trans HB5.out)).trans ((KeepX.alloc g w5 _).trans ((KeepX.grew HG6.out).trans (KeepX.put g w6 0 _)))), HB.out.trans (((HG6.out.below (((Below.refl base wr).drew.trans (HB5.out.mono (by have h2 := HB.out.size; have h3 := HBW.out; simp; omega))).alloc (by have h1 := HB5.out.size; have h2 := HB.out.size; have h3 := HBW.out; simp at h1; omega) _) (by have h1 := HB5.out.size; have h2 := HB.out.size; have h3 := HBW.out; simp at h1 ⊢; omega) (Nat.le_refl _))).setCell (p := ⟨g, 0, none⟩) HBG.out _)⟩
        case measure => simp [intOf]; omega
      refine AllReadyH.cons (o := ⟨_, _, _, _, _, _⟩) rfl (fun K hK => ?_) AllReadyH.nil
      go_simp
      refine hK.out _ _ (trivial) (fun hHeld => ?_)
      clear hK K
      try simp only [Act.put, List.setIfInBounds_toArray, List.set_cons_zero, List.set_cons_succ]
      refine wpAnyH_ready (rs := [0]) (by kernel_rfl) (by simp) ?_
      refine AllReadyH.cons (o := ⟨_, _, _, _, _, _⟩) rfl (fun K hK => ?_) AllReadyH.nil
      have xl := ((HBX5.out.alloc (.cells #[.string ⟨(Lib.itoa x).toArray⟩] 9))).facts.1 0
      go_simp
      refine hK.out _ _ (trivial) (fun hHeld => ?_)
      clear hK K
      try simp only [Act.put, List.setIfInBounds_toArray, List.set_cons_zero, List.set_cons_succ]
      refine wpAnyH_ready (rs := [4]) (by kernel_rfl) (by simp) ?_
      refine AllReadyH.cons (o := ⟨_, _, _, _, _, _⟩) rfl (fun K hK => ?_) AllReadyH.nil
      rw [if_pos (show Region.wanted _ _ = true by rfl)]
      refine wp_app0 (.tmp 11) (.tmp 14) 39 rfl base 9 i0 (.string ⟨#[]⟩) 1 16 Tryz.underlying39 HI.out HZ.out hz1 hz2 rfl (by decide) _ o1.length (o1.map .string) rfl (HOW5.out.alloc _) (some ⟨w5.heap.size, 0, none⟩) 1 1 ([itoaB x].map .string) rfl rfl (.inr ⟨_, rfl, own_src _ _ _⟩) strs_one (by have := HLN.out; unfold maxLen; omega) (by have := HLN.out; omega) (by have h1 := HB5.out.size; have h2 := HB.out.size; have h3 := HBW.out; simp at h1 ⊢; omega) ?_
      intro v6 w6 hown6 hg6
      obtain ⟨A6, c6, hf6⟩ := hown6.form
      subst hf6
      have HOW6 := Lib.hid hown6
      have HG6 := Lib.hid hg6
      have HBX6 := Lib.hid (hg6.has (HBX5.out.alloc _) (by decide))
      obtain ⟨x6, y6⟩ := HBX6.out.facts
      clear hown6 hg6
      refine hK.out _ _ (trivial) (fun hHeld => ?_)
      clear hK K
      try simp only [Act.put, List.setIfInBounds_toArray, List.set_cons_zero, List.set_cons_succ]
      refine wpAnyH_ready (rs := [5]) (by kernel_rfl) (by simp) ?_
      refine AllReadyH.cons (o := ⟨_, _, _, _, _, _⟩) rfl (fun K hK => ?_) AllReadyH.nil
      go_simp
      refine hK.out _ _ (trivial) (fun hHeld => ?_)
      clear hK K
      try simp only [Act.put]
      refine wpAnyH_done (by kernel_rfl) ?_ _
      clear hHeld
      go_wp2_with fail
      go_roundw
      case rel => exact ⟨j + 1, by omega, by go_num, (by rw [HTK.out, ← List.append_assoc, HO1.out]; exact OutB.more HBG.out (HBX5.out.alloc _) HG6.out HOW6.out rfl), HX.out.trans ((KeepX.below (g := g) (show Below wr.heap.size wr w5 from (Below.refl _ _).drew.trans HB5.out)).trans ((KeepX.alloc g w5 _).trans ((KeepX.grew HG6.out).trans (KeepX.put g w6 0 _)))), HB.out.trans (((HG6.out.below (((Below.refl base wr).drew.trans (HB5.out.mono (by have h2 := HB.out.size; have h3 := HBW.out; simp; omega))).alloc (by have h1 := HB5.out.size; have h2 := HB.out.size; have h3 := HBW.out; simp at h1; omega) _) (by have h1 := HB5.out.size; have h2 := HB.out.size; have h3 := HBW.out; simp at h1 ⊢; omega) (Nat.le_refl _))).setCell (p := ⟨g, 0, none⟩) HBG.out _)⟩
      case measure => simp [intOf]; omega
    · obtain rfl : j = ns.length := by omega
      have HOE : Hid (OutB base g (out ++ ns.map itoaB) wr) := by
        have := HO.out
        rwa [List.take_length] at this
      go_wp2_with fail
      go_end0
      exact ⟨rfl, HOE.out, HX.out, HB.out⟩
end Go.Proofs.YtccnocgmikmonaaGreatDoor
namespace Go.Proofs.YtccnocgmikmonaaGreatDoor
open Go Go.RowKit
def Pa.i64 (p : Pa) : Prop := ∀ n ∈ [p.made, p.since, p.kl, p.kh, p.cl, p.ch, p.dl, p.dh], -9223372036854775808 ≤ n ∧ n ≤ 9223372036854775807
/-- The fields of a part. -/
def headF (p : Pa) : List ByteArray := [p.name, p.kind, p.into, p.slot]
def numsA (p : Pa) : List Int := [p.made, p.since, if p.gone then 1 else 0, p.props.length]
def numsB (p : Pa) : List Int := [p.kl, p.kh, p.cl, p.ch, p.dl, p.dh]
def propF (x : Pr) : List ByteArray := [x.key, x.val]
def partF (p : Pa) : List ByteArray := headF p ++ (numsA p).map itoaB ++ p.props.flatMap propF ++ (numsB p).map itoaB
theorem propF_len : ∀ l : List Pr, (l.flatMap propF).length = 2 * l.length
  | [] => rfl
  | x :: l => by
    rw [List.flatMap_cons, List.length_append, propF_len l, List.length_cons]
    simp only [propF, List.length_cons, List.length_nil]
    omega
theorem partF_len (p : Pa) : (partF p).length = 14 + 2 * p.props.length := by
  unfold partF
  rw [List.length_append, List.length_append, List.length_append, propF_len, List.length_map, List.length_map]
  simp only [headF, numsA, numsB, List.length_cons, List.length_nil]
  omega
def fieldsL (l : List Pa) : List ByteArray := itoaB l.length :: l.flatMap partF
def digestB (l : List Pa) : ByteArray := sumB ⟨(joinedL (fieldsL l)).toArray⟩
theorem flat_step {α β : Type} (f : α → List β) (l : List α) (d : α) (k : Nat) (hk : k < l.length) : (l.take (k + 1)).flatMap f = (l.take k).flatMap f ++ f (l.getD k d) := by
  rw [List.take_add_one, List.flatMap_append, List.getElem?_eq_getElem hk, List.getD_eq_getElem?_getD, List.getElem?_eq_getElem hk]
  simp
theorem flat_le {α β : Type} (f : α → List β) (l : List α) (k : Nat) : ((l.take k).flatMap f).length ≤ (l.flatMap f).length := by
  conv => rhs; rw [← List.take_append_drop k l, List.flatMap_append, List.length_append]
  omega
/-- The boxes of the call, and the list. -/
structure DgB (w : World) (g : Nat) (s0 : Array Value) (out : List ByteArray) (W : World) : Prop where
  s : Has W w.heap.size 24 s0
  o : OutB w.heap.size g out W
  n : w.heap.size ≠ g
  b : Below w.heap.size w W
theorem DgB.below {w W W' : World} {g : Nat} {s0 : Array Value} {out : List ByteArray} (h : DgB w g s0 out W) (hb : Below W.heap.size W W') : DgB w g s0 out W' := ⟨h.s.below hb h.s.lt, h.o.below hb, h.n, h.b.trans (hb.mono h.b.size)⟩
theorem DgB.alloc {w W : World} {g : Nat} {s0 : Array Value} {out : List ByteArray} (h : DgB w g s0 out W) (o : Obj) : DgB w g s0 out (W.alloc o) := h.below ((Below.refl _ _).alloc (Nat.le_refl _) o)
theorem DgB.to {w W W' : World} {g : Nat} {s0 : Array Value} {out out' : List ByteArray} (h : DgB w g s0 out W) (hk : KeepX g W W') (ho : OutB w.heap.size g out' W') (hb : Below w.heap.size W W') : DgB w g s0 out' W' := ⟨hk.2 _ _ _ (by decide) h.n h.s, ho, h.n, h.b.trans hb⟩
/-- The cells of a literal row. -/
theorem src_lit (w : World) (cs : List Value) (t : TypeId) (g : Nat) (hg : w.heap.size = g) : ∀ j u, cs[j]? = some u → (w.alloc (.cells cs.toArray t)).cell? ((⟨g, 0, none⟩ : Addr).add j) = some u := fun j u h => by
  subst hg
  have := (Has.new w t cs.toArray).cell j
  rw [show (⟨w.heap.size, 0, none⟩ : Addr).add j = ⟨w.heap.size, j, none⟩ by unfold Addr.add; split <;> simp_all, this]
  simpa using h
/-- Behind an append and its store. -/
theorem DgB.more {w W W' : World} {g : Nat} {s0 : Array Value} {out more : List ByteArray} {v v' : Value} {n : Nat} (h : DgB w g s0 out W) (hv : Has W g 39 #[v]) (hgr : Grew W W' w.heap.size 9) (ho : Own0 W' w.heap.size 9 1 v' n (out.map .string ++ more.map .string)) (hn : n = out.length + more.length) :
    DgB w g s0 (out ++ more) (W'.setCell ⟨g, 0, none⟩ v') ∧ KeepX g W (W'.setCell ⟨g, 0, none⟩ v') :=
  ⟨h.to ((KeepX.grew hgr).trans (KeepX.put g W' 0 v')) (OutB.more h.o.1 hv hgr ho hn) ((hgr.below (Below.refl _ _) h.b.size (Nat.le_refl _)).setCell (p := ⟨g, 0, none⟩) h.o.1 _), (KeepX.grew hgr).trans (KeepX.put g W' 0 v')⟩
theorem own_litD {w : World} {g t : Nat} {cs : Array Value} {base n sz : Nat} (h : Has w g t cs) (hb : base ≤ g) (hs : cs.size = n * sz) (hn : n ≤ maxLen) :
    w.ownsRow base t sz (.slice (some ⟨g, 0, none⟩) n n) n cs.toList :=
  ⟨by simpa using hs, .inr ⟨g, n, cs, rfl, hb, h, Nat.le_refl _, hn, hs, by rw [List.take_of_length_le (by simp [hs])]⟩⟩
set_option maxRecDepth 100000 in
set_option maxHeartbeats 20000000 in
theorem digest_any (w0 : World) (ht : Tab w0) (v : Value) (l : List Pa) (w : World) (hb0 : Below w0.heap.size w0 w) (hv : Sta w0 v l) (hi : ∀ p ∈ l, p.i64) (hl : (fieldsL l).length ≤ 1000000) (hj : (joinedL (fieldsL l)).length ≤ 1000000000) (hpl : ∀ p ∈ l, p.props.length ≤ 100000) (hll : l.length ≤ 100000) :
    Calls Tryz.prog 17 #[.agg #[v]] w fun e w' => e = .returned (.string (digestB l)) ∧ Below w.heap.size w w' := by
  obtain ⟨A, cs, rfl, hn⟩ := Rd.form hv
  obtain ⟨i0, hi0, hz0, hz1, hz2⟩ := info_parts infoS
  have HI := Lib.hid hi0
  have HZ := Lib.hid hz0
  have HV := Lib.hid hv
  have HR := Lib.hid hi
  have HPL := Lib.hid hpl
  have HB0 := Lib.hid hb0
  have hsz0 := hb0.size
  have HIT := Lib.hid (itoa_any w0 ht (l.length : Int) (by omega) (by omega))
  have HADD := Lib.hid (fun g k out ns W (hb : Below w0.heap.size w0 W) (hO : OutB w.heap.size g out W) (hK : Has W k 3 (ns.map (Value.int .i64)).toArray) (hkg : k ≠ g) hr hl (hbw : w.heap.size ≤ W.heap.size) => add_any w0 ht w.heap.size g k out ns W hb hsz0 hO hK hkg hr hl hbw)
  have HLI := Lib.hid (fun W v (h : Sl W v (fieldsL l).length 1 (strF (fieldsL l))) (hb : Below w0.heap.size w0 W) => list_any W v (fieldsL l) W (ht.below hb) (Below.refl _ _) h hj hl)
  have HS0 := Lib.hid ((Has.new w 24 #[.slice A l.length cs]))
  have HBa := Lib.hid ((Below.refl w.heap.size w).alloc (Nat.le_refl _) (.cells #[.slice A l.length cs] 24))
  have HFL := Lib.hid hl
  obtain ⟨x1, y1⟩ := HS0.out.facts
  clear hi0 hz0 hv hi hb0 ht hj hpl hl
  go_enter Tryz.func17, Tryz.ntmps17
  go_wp2_with (go_at_call 40; refine (HIT.out _ (HB0.out.trans (HBa.out.mono hsz0))).mono ?_; rintro e w2 ⟨rfl, hb2⟩; have HS2 := Lib.hid (HS0.out.below hb2 HS0.out.lt); have HB2 := Lib.hid (HBa.out.trans (hb2.mono HBa.out.size)); obtain ⟨x2, y2⟩ := HS2.out.facts; have hzs2 := HS2.out.lt; clear hb2 x1 y1)
  have HD1 : Hid (DgB w (w2.heap.size + 1) #[.slice A l.length cs] (itoaB l.length :: (l.take 0).flatMap partF) ((w2.alloc (.cells #[.string ⟨(Lib.itoa (l.length : Int)).toArray⟩] 9)).alloc (.cells #[.slice (some ⟨w2.heap.size, 0, none⟩) 1 1] 39))) := by
    have h1 := Has.new w2 9 #[.string ⟨(Lib.itoa (l.length : Int)).toArray⟩]
    have h2 := Has.new (w2.alloc (.cells #[.string ⟨(Lib.itoa (l.length : Int)).toArray⟩] 9)) 39 #[.slice (some ⟨w2.heap.size, 0, none⟩) 1 1]
    simp only [World.size_alloc] at h2
    have hsz := HB2.out.size
    exact ⟨(HS2.out.alloc _).alloc _, ⟨by omega, _, h2, .inl (own_litD (n := 1) (sz := 1) (h1.alloc _) hsz rfl (by decide))⟩, by omega, (HB2.out.alloc hsz _).alloc (by simp; omega) _⟩
  go_loopw [19] (fun i wr => ∃ j : Nat, j ≤ l.length ∧ i = .int .i64 j ∧ Hid (DgB w (w2.heap.size + 1) #[.slice A l.length cs] (itoaB l.length :: (l.take j).flatMap partF) wr)) (fun i _ => l.length - (intOf i).toNat)
  case atStart => exact ⟨0, Nat.zero_le _, rfl, HD1.out⟩
  case round =>
    clear x2 y2
    obtain ⟨j, hj, rfl, HD⟩ := hrel
    by_cases hlt : j < l.length
    · obtain ⟨b, o, c', cs', he, _, ⟨sv, rfl, hsv⟩, _, hrg⟩ := Rd.get HV.out hlt noPa
      injection he with e1 e2 e3
      subst e1; subst e3
      obtain ⟨Ap, mp, rfl, hnp⟩ := Rd.form hsv
      have HPR := Lib.hid hsv
      have HBW := Lib.hid (HB0.out.trans (HD.out.b.mono hsz0))
      have hrg' := range_later hrg HBW.out
      have hmem := getD_mem l j noPa hlt
      have HI64 := Lib.hid (HR.out _ hmem)
      have hpp := HPL.out _ hmem
      have HST := Lib.hid (flat_step partF l noPa j hlt)
      have HLE := Lib.hid (flat_le partF l (j + 1))
      have hji : (j : Int) < (l.length : Int) := by omega
      clear hrg hsv hmem
      generalize l.getD j noPa = p at *
      obtain ⟨pname, pkind, pinto, pslot, pmade, psince, pgone, pprops, pkl, pkh, pcl, pch, pdl, pdh⟩ := p
      dsimp only at hnp HPR hpp
      replace hrg' : wr.rangeAt b (o + j * 14) [.string pname, .string pkind, .string pinto, .string pslot, .int .i64 pmade, .int .i64 psince, .bool pgone, .slice Ap pprops.length mp, .int .i64 pkl, .int .i64 pkh, .int .i64 pcl, .int .i64 pch, .int .i64 pdl, .int .i64 pdh] := hrg'
      have HLN : Hid ((itoaB l.length :: (l.take j).flatMap partF).length + (14 + 2 * pprops.length) ≤ 1000000) := by
        show _ ≤ _
        have h1 := HLE.out
        rw [HST.out, List.length_append, partF_len] at h1
        have h2 := HFL.out
        unfold fieldsL at h2
        rw [List.length_cons] at h2 ⊢
        have h3 := h1
        dsimp only at h3
        omega
      have HSO : Hid ((itoaB l.length :: (l.take (j + 1)).flatMap partF) = (itoaB l.length :: (l.take j).flatMap partF) ++ partF ⟨pname, pkind, pinto, pslot, pmade, psince, pgone, pprops, pkl, pkh, pcl, pch, pdl, pdh⟩) := by
        show _ = _
        rw [HST.out]; rfl
      generalize hoj : itoaB l.length :: (l.take j).flatMap partF = oj at HD HLN HSO
      clear hoj HST HLE
      cases pgone
      · skip
        have HDa := Lib.hid (HD.out.alloc (.cells #[.string pname, .string pkind, .string pinto, .string pslot, .int .i64 pmade, .int .i64 psince, .bool false, .slice Ap pprops.length mp, .int .i64 pkl, .int .i64 pkh, .int .i64 pcl, .int .i64 pch, .int .i64 pdl, .int .i64 pdh] 33))
        have HPa := Lib.hid (Has.new wr 33 #[.string pname, .string pkind, .string pinto, .string pslot, .int .i64 pmade, .int .i64 psince, .bool false, .slice Ap pprops.length mp, .int .i64 pkl, .int .i64 pkh, .int .i64 pcl, .int .i64 pch, .int .i64 pdl, .int .i64 pdh])
        obtain ⟨hga, va, hbxa, howa⟩ := HDa.out.o
        obtain ⟨Aa, ca, hfa⟩ := howa.form
        subst hfa
        have HBX := Lib.hid hbxa
        have HOW := Lib.hid howa
        have HNE : Hid (wr.heap.size ≠ (w2.heap.size + 1)) := Nat.ne_of_gt (by have := HD.out.o.2; obtain ⟨_, h, _⟩ := this; exact h.lt)
        obtain ⟨xa, ya⟩ := hbxa.facts
        obtain ⟨xp, yp⟩ := HPa.out.facts
        clear hbxa howa hga
        go_wp2_with (first
          | ((with_reducible show wpList _ _ _ (Oper.mk (some 22) _ _ _ _ _ :: _) _ _); refine wpList_load_mid rfl 33 _ rfl b (o + j * 14) rfl _ _ hrg' Tryz.underlying33 rfl rfl ?_)
          | ((with_reducible show wpList _ _ _ (Oper.mk (some 33) _ _ _ _ _ :: _) _ _); refine wpList_app0 rfl (.tmp 23) (.tmp 32) 39 rfl w.heap.size 9 i0 (.string ⟨#[]⟩) 1 16 Tryz.underlying39 HI.out HZ.out hz1 hz2 rfl (by decide) _ oj.length (oj.map .string) rfl (HOW.out.alloc _) (some ⟨_, 0, none⟩) 4 4 [.string pname, .string pkind, .string pinto, .string pslot] rfl rfl (.inr ⟨_, rfl, src_lit _ _ _ _ (by simp)⟩) (strs_one (l := [pname, pkind, pinto, pslot])) (by have := HLN.out; unfold maxLen; omega) (by have := HLN.out; omega) (by have := HDa.out.b.size; simp at this ⊢; omega) ?_; intro v6 w6 hown6 hg6; obtain ⟨A6, c6, hf6⟩ := hown6.form; subst hf6; obtain ⟨d6, k6⟩ := DgB.more (more := [pname, pkind, pinto, pslot]) (HDa.out.alloc _) (HBX.out.alloc _) hg6 hown6 rfl; have HD6 := Lib.hid d6; have HP6 := Lib.hid (k6.2 _ _ _ (by decide) HNE.out (HPa.out.alloc _)); obtain ⟨x6, y6⟩ := (hg6.has (HBX.out.alloc _) (by decide)).facts; obtain ⟨x6p, y6p⟩ := HP6.out.facts; clear hown6 hg6 d6 k6))
        have hsz6 : (w6.setCell ⟨w2.heap.size + 1, 0, none⟩ (.slice A6 (oj.length + 4) c6)).heap.size = w6.heap.size := by simp [World.setCell]
        have HK6 : Hid (Has ((w6.setCell ⟨w2.heap.size + 1, 0, none⟩ (.slice A6 (oj.length + 4) c6)).alloc (.cells #[.int .i64 pmade, .int .i64 psince, .int .i64 0, .int .i64 pprops.length] 3)) w6.heap.size 3 (([pmade, psince, 0, (pprops.length : Int)] : List Int).map (Value.int .i64)).toArray) := by
          have := Has.new (w6.setCell ⟨w2.heap.size + 1, 0, none⟩ (.slice A6 (oj.length + 4) c6)) 3 #[.int .i64 pmade, .int .i64 psince, .int .i64 0, .int .i64 pprops.length]
          rw [hsz6] at this
          exact this
        have hg6 : w6.heap.size ≠ (w2.heap.size + 1) := by
          have := HD6.out.o.2
          obtain ⟨_, h, _⟩ := this
          have := h.lt
          rw [hsz6] at this
          omega
        have hr6 : ∀ n ∈ ([pmade, psince, 0, (pprops.length : Int)] : List Int), -9223372036854775808 ≤ n ∧ n ≤ 9223372036854775807 := by
          intro n hn
          simp only [List.mem_cons, List.not_mem_nil, or_false] at hn
          rcases hn with rfl | rfl | rfl | rfl
          · exact HI64.out _ (by simp)
          · exact HI64.out _ (by simp)
          · omega
          · omega
        refine (HADD.out (w2.heap.size + 1) w6.heap.size (oj ++ [pname, pkind, pinto, pslot]) [pmade, psince, 0, (pprops.length : Int)] _ (HB0.out.trans ((HD6.out.alloc _).b.mono hsz0)) (HD6.out.alloc _).o HK6.out hg6 hr6 (by have := HLN.out; simp only [List.length_append, List.length_cons, List.length_nil]; omega) (HD6.out.alloc _).b.size).mono ?_
        rintro e w7 ⟨rfl, ho7, hk7, hb7⟩
        have d7 := (HD6.out.alloc _).to hk7 ho7 hb7
        have HP7 := Lib.hid (hk7.2 _ _ _ (by decide) HNE.out (HP6.out.alloc _))
        obtain ⟨q7, hq7⟩ : ∃ q, (oj ++ [pname, pkind, pinto, pslot]) ++ ([pmade, psince, 0, (pprops.length : Int)] : List Int).map itoaB = q := ⟨_, rfl⟩
        rw [hq7] at d7
        have HD7 := Lib.hid d7
        have HQ7 := Lib.hid hq7
        have HL7 : Hid (q7.length + (6 + 2 * pprops.length) ≤ 1000000) := by
          show _ ≤ _
          have := HLN.out
          rw [← hq7]
          simp only [List.length_append, List.length_map, List.length_cons, List.length_nil]
          omega
        clear d7 ho7 hk7 hb7 hq7 HK6 hg6 hr6 hsz6 x6 y6 x6p y6p xa ya xp yp
        obtain ⟨x7, y7⟩ := HP7.out.facts
        go_wp2_with fail
        obtain ⟨wo, rfl⟩ : ∃ wo : World, wo = wr := ⟨_, rfl⟩
        go_loopw [50] (fun i wv => ∃ m : Nat, m ≤ pprops.length ∧ i = .int .i64 m ∧ Hid (DgB w (w2.heap.size + 1) #[.slice (some ⟨b, o, none⟩) l.length cs] (q7 ++ (pprops.take m).flatMap propF) wv) ∧ Hid (Has wv wo.heap.size 33 #[.string pname, .string pkind, .string pinto, .string pslot, .int .i64 pmade, .int .i64 psince, .bool false, .slice Ap pprops.length mp, .int .i64 pkl, .int .i64 pkh, .int .i64 pcl, .int .i64 pch, .int .i64 pdl, .int .i64 pdh])) (fun i _ => pprops.length - (intOf i).toNat)
        case atStart => exact ⟨0, Nat.zero_le _, rfl, (by show DgB _ _ _ _ _; simpa using HD7.out), HP7.out⟩
        case round =>
          clear x7 y7
          obtain ⟨m, hm, rfl, HD8, HP8⟩ := hrel
          by_cases hlm : m < pprops.length
          · obtain ⟨b2, o2, c2, cs2, he2, _, hcs2, _, hrg2⟩ := Rd.get HPR.out hlm noPr
            injection he2 with e1 e2 e3
            subst e1; subst e3
            unfold PrR at hcs2
            subst hcs2
            have HBV := Lib.hid (HB0.out.trans (HD8.out.b.mono hsz0))
            have hrq := range_later hrg2 HBV.out
            have HSM := Lib.hid (flat_step propF pprops noPr m hlm)
            have hmi : (m : Int) < (pprops.length : Int) := by omega
            have HL8 : Hid ((q7 ++ (pprops.take m).flatMap propF).length + 8 ≤ 1000000) := by
              show _ ≤ _
              have h1 := HL7.out
              rw [List.length_append, propF_len, List.length_take]
              omega
            clear hrg2
            generalize pprops.getD m noPr = x at *
            obtain ⟨xk, xv⟩ := x
            replace hrq : wr.rangeAt b2 (o2 + m * 2) [.string xk, .string xv] := hrq
            have HSN : Hid (q7 ++ (pprops.take (m + 1)).flatMap propF = (q7 ++ (pprops.take m).flatMap propF) ++ [xk, xv]) := by
              show _ = _
              rw [HSM.out, ← List.append_assoc]; rfl
            generalize q7 ++ (pprops.take m).flatMap propF = q8 at HD8 HL8 HSN
            have HDb := Lib.hid (HD8.out.alloc (.cells #[.string xk, .string xv] 65))
            have HXb := Lib.hid (Has.new wr 65 #[.string xk, .string xv])
            have HPb := Lib.hid (HP8.out.alloc (.cells #[.string xk, .string xv] 65))
            obtain ⟨hgb, vb, hbxb, howb⟩ := HDb.out.o
            obtain ⟨Ab, cb, hfb⟩ := howb.form
            subst hfb
            have HBXb := Lib.hid hbxb
            have HOWb := Lib.hid howb
            obtain ⟨xb, yb⟩ := hbxb.facts
            obtain ⟨xx, yx⟩ := HXb.out.facts
            clear hbxb howb hgb HSM
            go_wp2_with (first
              | ((with_reducible show wpList _ _ _ (Oper.mk (some 53) _ _ _ _ _ :: _) _ _); refine wpList_load_mid rfl 65 _ rfl b2 (o2 + m * 2) rfl _ _ hrq Tryz.underlying65 rfl rfl ?_)
              | ((with_reducible show wpList _ _ _ (Oper.mk (some 60) _ _ _ _ _ :: _) _ _); refine wpList_app0 rfl (.tmp 54) (.tmp 59) 39 rfl w.heap.size 9 i0 (.string ⟨#[]⟩) 1 16 Tryz.underlying39 HI.out HZ.out hz1 hz2 rfl (by decide) _ q8.length (q8.map .string) rfl (HOWb.out.alloc _) (some ⟨_, 0, none⟩) 2 2 [.string xk, .string xv] rfl rfl (.inr ⟨_, rfl, src_lit _ _ _ _ (by simp)⟩) (strs_one (l := [xk, xv])) (by have := HL8.out; unfold maxLen; omega) (by have := HL8.out; omega) (by have := HDb.out.b.size; simp at this ⊢; omega) ?_; intro v9 w9 hown9 hg9; obtain ⟨A9, c9, hf9⟩ := hown9.form; subst hf9; obtain ⟨d9, k9⟩ := DgB.more (more := [xk, xv]) (HDb.out.alloc _) (HBXb.out.alloc _) hg9 hown9 rfl; have HD9 := Lib.hid d9; have HP9 := Lib.hid (k9.2 _ _ _ (by decide) HNE.out (HPb.out.alloc _)); obtain ⟨x9, y9⟩ := (hg9.has (HBXb.out.alloc _) (by decide)).facts; clear hown9 hg9 d9 k9))
            go_roundw
            case rel => exact ⟨m + 1, by omega, by go_num, (by rw [HSN.out]; exact HD9.out), HP9.out⟩
            case measure => simp [intOf]; omega
          · obtain rfl : m = pprops.length := by omega
            have HDE : Hid (DgB w (w2.heap.size + 1) #[.slice (some ⟨b, o, none⟩) l.length cs] (q7 ++ pprops.flatMap propF) wr) := by
              have := HD8.out
              rwa [List.take_length] at this
            have HLE8 : Hid ((q7 ++ pprops.flatMap propF).length + 6 ≤ 1000000) := by
              show _ ≤ _
              have h1 := HL7.out
              rw [List.length_append, propF_len]
              omega
            have HQE : Hid ((q7 ++ pprops.flatMap propF) ++ ([pkl, pkh, pcl, pch, pdl, pdh] : List Int).map itoaB = oj ++ partF ⟨pname, pkind, pinto, pslot, pmade, psince, false, pprops, pkl, pkh, pcl, pch, pdl, pdh⟩) := by
              show _ = _
              rw [← HQ7.out]
              simp [partF, headF, numsA, numsB, List.append_assoc]
            obtain ⟨x8, y8⟩ := HP8.out.facts
            have HKe := Lib.hid (Has.new wr 3 #[.int .i64 pkl, .int .i64 pkh, .int .i64 pcl, .int .i64 pch, .int .i64 pdl, .int .i64 pdh])
            have hge : wr.heap.size ≠ (w2.heap.size + 1) := by
              have := HDE.out.o.2
              obtain ⟨_, h, _⟩ := this
              have := h.lt
              omega
            have hre : ∀ n ∈ ([pkl, pkh, pcl, pch, pdl, pdh] : List Int), -9223372036854775808 ≤ n ∧ n ≤ 9223372036854775807 := by
              intro n hn
              simp only [List.mem_cons, List.not_mem_nil, or_false] at hn
              rcases hn with rfl | rfl | rfl | rfl | rfl | rfl <;> exact HI64.out _ (by simp)
            have HRE := Lib.hid hre
            clear hre
            go_wp2_with fail
            refine (HADD.out (w2.heap.size + 1) wr.heap.size (q7 ++ pprops.flatMap propF) [pkl, pkh, pcl, pch, pdl, pdh] _ (HB0.out.trans ((HDE.out.alloc _).b.mono hsz0)) (HDE.out.alloc _).o HKe.out hge HRE.out (by have := HLE8.out; simp only [List.length_cons, List.length_nil]; omega) (HDE.out.alloc _).b.size).mono ?_
            rintro e w9 ⟨rfl, ho9, hk9, hb9⟩
            have d9 := (HDE.out.alloc _).to hk9 ho9 hb9
            rw [HQE.out, ← HSO.out] at d9
            have HD9 := Lib.hid d9
            clear d9 ho9 hk9 hb9
            go_wp2_with fail
            go_roundw
            case rel => exact ⟨j + 1, by omega, by go_num, HD9.out⟩
            case measure => simp [intOf]; omega
      · skip
        have HDa := Lib.hid (HD.out.alloc (.cells #[.string pname, .string pkind, .string pinto, .string pslot, .int .i64 pmade, .int .i64 psince, .bool true, .slice Ap pprops.length mp, .int .i64 pkl, .int .i64 pkh, .int .i64 pcl, .int .i64 pch, .int .i64 pdl, .int .i64 pdh] 33))
        have HPa := Lib.hid (Has.new wr 33 #[.string pname, .string pkind, .string pinto, .string pslot, .int .i64 pmade, .int .i64 psince, .bool true, .slice Ap pprops.length mp, .int .i64 pkl, .int .i64 pkh, .int .i64 pcl, .int .i64 pch, .int .i64 pdl, .int .i64 pdh])
        obtain ⟨hga, va, hbxa, howa⟩ := HDa.out.o
        obtain ⟨Aa, ca, hfa⟩ := howa.form
        subst hfa
        have HBX := Lib.hid hbxa
        have HOW := Lib.hid howa
        have HNE : Hid (wr.heap.size ≠ (w2.heap.size + 1)) := Nat.ne_of_gt (by have := HD.out.o.2; obtain ⟨_, h, _⟩ := this; exact h.lt)
        obtain ⟨xa, ya⟩ := hbxa.facts
        obtain ⟨xp, yp⟩ := HPa.out.facts
        clear hbxa howa hga
        go_wp2_with (first
          | ((with_reducible show wpList _ _ _ (Oper.mk (some 22) _ _ _ _ _ :: _) _ _); refine wpList_load_mid rfl 33 _ rfl b (o + j * 14) rfl _ _ hrg' Tryz.underlying33 rfl rfl ?_)
          | ((with_reducible show wpList _ _ _ (Oper.mk (some 33) _ _ _ _ _ :: _) _ _); refine wpList_app0 rfl (.tmp 23) (.tmp 32) 39 rfl w.heap.size 9 i0 (.string ⟨#[]⟩) 1 16 Tryz.underlying39 HI.out HZ.out hz1 hz2 rfl (by decide) _ oj.length (oj.map .string) rfl (HOW.out.alloc _) (some ⟨_, 0, none⟩) 4 4 [.string pname, .string pkind, .string pinto, .string pslot] rfl rfl (.inr ⟨_, rfl, src_lit _ _ _ _ (by simp)⟩) (strs_one (l := [pname, pkind, pinto, pslot])) (by have := HLN.out; unfold maxLen; omega) (by have := HLN.out; omega) (by have := HDa.out.b.size; simp at this ⊢; omega) ?_; intro v6 w6 hown6 hg6; obtain ⟨A6, c6, hf6⟩ := hown6.form; subst hf6; obtain ⟨d6, k6⟩ := DgB.more (more := [pname, pkind, pinto, pslot]) (HDa.out.alloc _) (HBX.out.alloc _) hg6 hown6 rfl; have HD6 := Lib.hid d6; have HP6 := Lib.hid (k6.2 _ _ _ (by decide) HNE.out (HPa.out.alloc _)); obtain ⟨x6, y6⟩ := (hg6.has (HBX.out.alloc _) (by decide)).facts; obtain ⟨x6p, y6p⟩ := HP6.out.facts; clear hown6 hg6 d6 k6))
        have hsz6 : (w6.setCell ⟨w2.heap.size + 1, 0, none⟩ (.slice A6 (oj.length + 4) c6)).heap.size = w6.heap.size := by simp [World.setCell]
        have HK6 : Hid (Has ((w6.setCell ⟨w2.heap.size + 1, 0, none⟩ (.slice A6 (oj.length + 4) c6)).alloc (.cells #[.int .i64 pmade, .int .i64 psince, .int .i64 1, .int .i64 pprops.length] 3)) w6.heap.size 3 (([pmade, psince, 1, (pprops.length : Int)] : List Int).map (Value.int .i64)).toArray) := by
          have := Has.new (w6.setCell ⟨w2.heap.size + 1, 0, none⟩ (.slice A6 (oj.length + 4) c6)) 3 #[.int .i64 pmade, .int .i64 psince, .int .i64 1, .int .i64 pprops.length]
          rw [hsz6] at this
          exact this
        have hg6 : w6.heap.size ≠ (w2.heap.size + 1) := by
          have := HD6.out.o.2
          obtain ⟨_, h, _⟩ := this
          have := h.lt
          rw [hsz6] at this
          omega
        have hr6 : ∀ n ∈ ([pmade, psince, 1, (pprops.length : Int)] : List Int), -9223372036854775808 ≤ n ∧ n ≤ 9223372036854775807 := by
          intro n hn
          simp only [List.mem_cons, List.not_mem_nil, or_false] at hn
          rcases hn with rfl | rfl | rfl | rfl
          · exact HI64.out _ (by simp)
          · exact HI64.out _ (by simp)
          · omega
          · omega
        refine (HADD.out (w2.heap.size + 1) w6.heap.size (oj ++ [pname, pkind, pinto, pslot]) [pmade, psince, 1, (pprops.length : Int)] _ (HB0.out.trans ((HD6.out.alloc _).b.mono hsz0)) (HD6.out.alloc _).o HK6.out hg6 hr6 (by have := HLN.out; simp only [List.length_append, List.length_cons, List.length_nil]; omega) (HD6.out.alloc _).b.size).mono ?_
        rintro e w7 ⟨rfl, ho7, hk7, hb7⟩
        have d7 := (HD6.out.alloc _).to hk7 ho7 hb7
        have HP7 := Lib.hid (hk7.2 _ _ _ (by decide) HNE.out (HP6.out.alloc _))
        obtain ⟨q7, hq7⟩ : ∃ q, (oj ++ [pname, pkind, pinto, pslot]) ++ ([pmade, psince, 1, (pprops.length : Int)] : List Int).map itoaB = q := ⟨_, rfl⟩
        rw [hq7] at d7
        have HD7 := Lib.hid d7
        have HQ7 := Lib.hid hq7
        have HL7 : Hid (q7.length + (6 + 2 * pprops.length) ≤ 1000000) := by
          show _ ≤ _
          have := HLN.out
          rw [← hq7]
          simp only [List.length_append, List.length_map, List.length_cons, List.length_nil]
          omega
        clear d7 ho7 hk7 hb7 hq7 HK6 hg6 hr6 hsz6 x6 y6 x6p y6p xa ya xp yp
        obtain ⟨x7, y7⟩ := HP7.out.facts
        go_wp2_with fail
        obtain ⟨wo, rfl⟩ : ∃ wo : World, wo = wr := ⟨_, rfl⟩
        go_loopw [50] (fun i wv => ∃ m : Nat, m ≤ pprops.length ∧ i = .int .i64 m ∧ Hid (DgB w (w2.heap.size + 1) #[.slice (some ⟨b, o, none⟩) l.length cs] (q7 ++ (pprops.take m).flatMap propF) wv) ∧ Hid (Has wv wo.heap.size 33 #[.string pname, .string pkind, .string pinto, .string pslot, .int .i64 pmade, .int .i64 psince, .bool true, .slice Ap pprops.length mp, .int .i64 pkl, .int .i64 pkh, .int .i64 pcl, .int .i64 pch, .int .i64 pdl, .int .i64 pdh])) (fun i _ => pprops.length - (intOf i).toNat)
        case atStart => exact ⟨0, Nat.zero_le _, rfl, (by show DgB _ _ _ _ _; simpa using HD7.out), HP7.out⟩
        case round =>
          clear x7 y7
          obtain ⟨m, hm, rfl, HD8, HP8⟩ := hrel
          by_cases hlm : m < pprops.length
          · obtain ⟨b2, o2, c2, cs2, he2, _, hcs2, _, hrg2⟩ := Rd.get HPR.out hlm noPr
            injection he2 with e1 e2 e3
            subst e1; subst e3
            unfold PrR at hcs2
            subst hcs2
            have HBV := Lib.hid (HB0.out.trans (HD8.out.b.mono hsz0))
            have hrq := range_later hrg2 HBV.out
            have HSM := Lib.hid (flat_step propF pprops noPr m hlm)
            have hmi : (m : Int) < (pprops.length : Int) := by omega
            have HL8 : Hid ((q7 ++ (pprops.take m).flatMap propF).length + 8 ≤ 1000000) := by
              show _ ≤ _
              have h1 := HL7.out
              rw [List.length_append, propF_len, List.length_take]
              omega
            clear hrg2
            generalize pprops.getD m noPr = x at *
            obtain ⟨xk, xv⟩ := x
            replace hrq : wr.rangeAt b2 (o2 + m * 2) [.string xk, .string xv] := hrq
            have HSN : Hid (q7 ++ (pprops.take (m + 1)).flatMap propF = (q7 ++ (pprops.take m).flatMap propF) ++ [xk, xv]) := by
              show _ = _
              rw [HSM.out, ← List.append_assoc]; rfl
            generalize q7 ++ (pprops.take m).flatMap propF = q8 at HD8 HL8 HSN
            have HDb := Lib.hid (HD8.out.alloc (.cells #[.string xk, .string xv] 65))
            have HXb := Lib.hid (Has.new wr 65 #[.string xk, .string xv])
            have HPb := Lib.hid (HP8.out.alloc (.cells #[.string xk, .string xv] 65))
            obtain ⟨hgb, vb, hbxb, howb⟩ := HDb.out.o
            obtain ⟨Ab, cb, hfb⟩ := howb.form
            subst hfb
            have HBXb := Lib.hid hbxb
            have HOWb := Lib.hid howb
            obtain ⟨xb, yb⟩ := hbxb.facts
            obtain ⟨xx, yx⟩ := HXb.out.facts
            clear hbxb howb hgb HSM
            go_wp2_with (first
              | ((with_reducible show wpList _ _ _ (Oper.mk (some 53) _ _ _ _ _ :: _) _ _); refine wpList_load_mid rfl 65 _ rfl b2 (o2 + m * 2) rfl _ _ hrq Tryz.underlying65 rfl rfl ?_)
              | ((with_reducible show wpList _ _ _ (Oper.mk (some 60) _ _ _ _ _ :: _) _ _); refine wpList_app0 rfl (.tmp 54) (.tmp 59) 39 rfl w.heap.size 9 i0 (.string ⟨#[]⟩) 1 16 Tryz.underlying39 HI.out HZ.out hz1 hz2 rfl (by decide) _ q8.length (q8.map .string) rfl (HOWb.out.alloc _) (some ⟨_, 0, none⟩) 2 2 [.string xk, .string xv] rfl rfl (.inr ⟨_, rfl, src_lit _ _ _ _ (by simp)⟩) (strs_one (l := [xk, xv])) (by have := HL8.out; unfold maxLen; omega) (by have := HL8.out; omega) (by have := HDb.out.b.size; simp at this ⊢; omega) ?_; intro v9 w9 hown9 hg9; obtain ⟨A9, c9, hf9⟩ := hown9.form; subst hf9; obtain ⟨d9, k9⟩ := DgB.more (more := [xk, xv]) (HDb.out.alloc _) (HBXb.out.alloc _) hg9 hown9 rfl; have HD9 := Lib.hid d9; have HP9 := Lib.hid (k9.2 _ _ _ (by decide) HNE.out (HPb.out.alloc _)); obtain ⟨x9, y9⟩ := (hg9.has (HBXb.out.alloc _) (by decide)).facts; clear hown9 hg9 d9 k9))
            go_roundw
            case rel => exact ⟨m + 1, by omega, by go_num, (by rw [HSN.out]; exact HD9.out), HP9.out⟩
            case measure => simp [intOf]; omega
          · obtain rfl : m = pprops.length := by omega
            have HDE : Hid (DgB w (w2.heap.size + 1) #[.slice (some ⟨b, o, none⟩) l.length cs] (q7 ++ pprops.flatMap propF) wr) := by
              have := HD8.out
              rwa [List.take_length] at this
            have HLE8 : Hid ((q7 ++ pprops.flatMap propF).length + 6 ≤ 1000000) := by
              show _ ≤ _
              have h1 := HL7.out
              rw [List.length_append, propF_len]
              omega
            have HQE : Hid ((q7 ++ pprops.flatMap propF) ++ ([pkl, pkh, pcl, pch, pdl, pdh] : List Int).map itoaB = oj ++ partF ⟨pname, pkind, pinto, pslot, pmade, psince, true, pprops, pkl, pkh, pcl, pch, pdl, pdh⟩) := by
              show _ = _
              rw [← HQ7.out]
              simp [partF, headF, numsA, numsB, List.append_assoc]
            obtain ⟨x8, y8⟩ := HP8.out.facts
            have HKe := Lib.hid (Has.new wr 3 #[.int .i64 pkl, .int .i64 pkh, .int .i64 pcl, .int .i64 pch, .int .i64 pdl, .int .i64 pdh])
            have hge : wr.heap.size ≠ (w2.heap.size + 1) := by
              have := HDE.out.o.2
              obtain ⟨_, h, _⟩ := this
              have := h.lt
              omega
            have hre : ∀ n ∈ ([pkl, pkh, pcl, pch, pdl, pdh] : List Int), -9223372036854775808 ≤ n ∧ n ≤ 9223372036854775807 := by
              intro n hn
              simp only [List.mem_cons, List.not_mem_nil, or_false] at hn
              rcases hn with rfl | rfl | rfl | rfl | rfl | rfl <;> exact HI64.out _ (by simp)
            have HRE := Lib.hid hre
            clear hre
            go_wp2_with fail
            refine (HADD.out (w2.heap.size + 1) wr.heap.size (q7 ++ pprops.flatMap propF) [pkl, pkh, pcl, pch, pdl, pdh] _ (HB0.out.trans ((HDE.out.alloc _).b.mono hsz0)) (HDE.out.alloc _).o HKe.out hge HRE.out (by have := HLE8.out; simp only [List.length_cons, List.length_nil]; omega) (HDE.out.alloc _).b.size).mono ?_
            rintro e w9 ⟨rfl, ho9, hk9, hb9⟩
            have d9 := (HDE.out.alloc _).to hk9 ho9 hb9
            rw [HQE.out, ← HSO.out] at d9
            have HD9 := Lib.hid d9
            clear d9 ho9 hk9 hb9
            go_wp2_with fail
            go_roundw
            case rel => exact ⟨j + 1, by omega, by go_num, HD9.out⟩
            case measure => simp [intOf]; omega
    · obtain rfl : j = l.length := by omega
      have HDE : Hid (DgB w (w2.heap.size + 1) #[.slice A l.length cs] (fieldsL l) wr) := by
        have := HD.out
        rwa [List.take_length] at this
      obtain ⟨hge, ve, hbxe, howe⟩ := HDE.out.o
      obtain ⟨Ae, ce, hfe⟩ := howe.form
      subst hfe
      obtain ⟨xe, ye⟩ := hbxe.facts
      have HSL : Hid (Sl wr (.slice Ae (fieldsL l).length ce) (fieldsL l).length 1 (strF (fieldsL l))) := by
        refine howe.sl.congr fun j hj => ?_
        rw [Nat.mul_one] at hj
        simp [strF, List.getD_eq_getElem?_getD, List.getElem?_eq_getElem hj]
      clear hbxe howe hge
      go_wp2_with (go_at_call 42; refine (HLI.out _ _ HSL.out (HB0.out.trans (HDE.out.b.mono hsz0))).mono ?_; rintro e w9 ⟨rfl, hb9⟩; have HB9 := Lib.hid (HDE.out.b.trans (hb9.mono HDE.out.b.size)); clear hb9)
      go_ret
      exact ⟨rfl, HB9.out⟩
end Go.Proofs.YtccnocgmikmonaaGreatDoor
