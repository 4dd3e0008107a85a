/- bogieref05.Name: the reference's names are the lexer's. No condition but that the string's length is a length. bogieref09.Valid: the reference's valid events are the event package's. No condition but sizes. -/
import Derived.Handy
import Derived.Test.YtjlpllnhefafkaaGreatDoorU01
import Derived.Test.YtjlpllnhefafkaaGreatDoorU07
namespace Go.Proofs.YtjlpllnhefafkaaGreatDoor
open Go Go.RowKit
def letB (c : Nat) : Bool := decide (97 ≤ c ∧ c ≤ 122 ∨ 65 ≤ c ∧ c ≤ 90)
def digB (c : Nat) : Bool := decide (48 ≤ c ∧ c ≤ 57)
def wrdB (c : Nat) : Bool := letB c || (digB c || decide (c = 95))
theorem cls_is (c : Nat) : (cls c = 3 ↔ letB c = true) ∧ (cls c = 4 ↔ digB c = true) ∧ (cls c = 5 ↔ c = 95) := by
  unfold cls cls0 letB digB
  simp only [decide_eq_true_iff]
  repeat' split
  all_goals omega
theorem okAt_let (c : Nat) : okAt 0 c = letB c := by
  have h := (cls_is c).1
  rw [Bool.eq_iff_iff, ← h]; simp [okAt]
theorem okAt_wrd {i : Nat} (h0 : i ≠ 0) (c : Nat) : okAt i c = wrdB c := by
  obtain ⟨h1, h2, h3⟩ := cls_is c
  rw [Bool.eq_iff_iff]; unfold wrdB
  simp only [okAt, Bool.or_eq_true, Bool.and_eq_true, beq_iff_eq, bne_iff_ne, decide_eq_true_iff, h1, h2, h3]
  constructor
  · rintro (h | ⟨_, h⟩)
    · exact .inl h
    · exact .inr h
  · rintro (h | h)
    · exact .inl h
    · exact .inr ⟨h0, h⟩
theorem okAt_no {i c : Nat} (h : wrdB c = false) : okAt i c = false := by
  by_cases h0 : i = 0
  · subst h0; rw [okAt_let]; unfold wrdB at h; rw [Bool.or_eq_false_iff] at h; exact h.1
  · rw [okAt_wrd h0, h]
theorem nameB_ref {s : ByteArray} (h : ∀ j, j < s.size → wrdB (byteAt s j) = true) : nameB s = (decide (s.size ≠ 0) && (decide (s.size ≤ 24) && letB (byteAt s 0))) := by
  unfold nameB
  rw [Bool.eq_iff_iff]
  simp only [decide_eq_true_eq, Bool.and_eq_true]
  constructor
  · intro ⟨h1, h2, h3⟩; exact ⟨h1, h2, by rw [← okAt_let]; exact h3 0 (by omega)⟩
  · intro ⟨h1, h2, h3⟩
    refine ⟨h1, h2, fun i hi => ?_⟩
    by_cases h0 : i = 0
    · subst h0; rw [okAt_let, h3]
    · rw [okAt_wrd h0]; exact h i hi
set_option maxHeartbeats 1000000 in
theorem let_any (c : Nat) (w : World) : Calls Tryz.prog 77 #[.int .u8 c] w fun e w' => e = .returned (.bool (letB c)) ∧ w' = w := by
  go_enter Tryz.func77, Tryz.ntmps77
  go_wp2_with fail
  all_goals
    go_ret
    refine ⟨ret_bool ?_, rfl⟩
    unfold letB
    rw [Bool.eq_iff_iff]
    simp only [Bool.or_eq_true, decide_eq_true_eq, eq_self, true_iff, Bool.false_eq_true, false_iff]
    omega
set_option maxHeartbeats 1000000 in
theorem dig_any (c : Nat) (w : World) : Calls Tryz.prog 92 #[.int .u8 c] w fun e w' => e = .returned (.bool (digB c)) ∧ w' = w := by
  go_enter Tryz.func92, Tryz.ntmps92
  go_wp2_with fail
  all_goals
    go_ret
    refine ⟨ret_bool ?_, rfl⟩
    unfold digB
    rw [Bool.eq_iff_iff]
    simp only [decide_eq_true_eq, Bool.false_eq_true, false_iff]
    omega
set_option maxHeartbeats 1000000 in
theorem wrd_any (c : Nat) (w : World) : Calls Tryz.prog 76 #[.int .u8 c] w fun e w' => e = .returned (.bool (wrdB c)) ∧ w' = w := by
  unfold wrdB
  cases hl : letB c
  · have HL := Lib.hid hl
    cases hd : digB c
    · have HD := Lib.hid hd
      clear hl hd
      go_enter Tryz.func76, Tryz.ntmps76
      go_wp2_with (first | (go_at_call 77; refine (let_any c _).mono ?_; rintro e w1 ⟨rfl, rfl⟩; rw [HL.out]) | (go_at_call 92; refine (dig_any c _).mono ?_; rintro e w2 ⟨rfl, rfl⟩; rw [HD.out]))
      go_ret
      refine ⟨ret_bool ?_, rfl⟩
      rw [Bool.eq_iff_iff]
      simp only [Bool.or_eq_true, decide_eq_true_eq, beq_iff_eq, Bool.false_eq_true, false_or]
      omega
    · have HD := Lib.hid hd
      clear hl hd
      go_enter Tryz.func76, Tryz.ntmps76
      go_wp2_with (first | (go_at_call 77; refine (let_any c _).mono ?_; rintro e w1 ⟨rfl, rfl⟩; rw [HL.out]) | (go_at_call 92; refine (dig_any c _).mono ?_; rintro e w2 ⟨rfl, rfl⟩; rw [HD.out]))
      go_ret
      exact ⟨rfl, rfl⟩
  · have HL := Lib.hid hl
    clear hl
    go_enter Tryz.func76, Tryz.ntmps76
    go_wp2_with (go_at_call 77; refine (let_any c _).mono ?_; rintro e w1 ⟨rfl, rfl⟩; rw [HL.out])
    go_ret
    exact ⟨rfl, rfl⟩
set_option maxHeartbeats 2000000 in
theorem refName_any (s : ByteArray) (w : World) (hs : s.size ≤ maxLen) :
    Calls Tryz.prog 56 #[.string s] w fun e w' => e = .returned (.bool (nameB s)) ∧ w' = w := by
  unfold maxLen at hs
  go_enter Tryz.func56, Tryz.ntmps56
  go_wp2_with fail
  go_loopw [3] (fun i wr => ∃ k : Nat, k ≤ s.size ∧ i = .int .i64 k ∧ Hid (∀ j, j < k → wrdB (byteAt s j) = true) ∧ wr = w) (fun i _ => s.size - (intOf i).toNat)
  case atStart => exact ⟨0, Nat.zero_le _, rfl, fun j hj => absurd hj (Nat.not_lt_zero _), rfl⟩
  case round =>
    obtain ⟨k, hk, rfl, hrel, rfl⟩ := hrel
    by_cases hlt : k < s.size
    · have hby := byteAt_eq s k hlt
      have yes : wrdB (byteAt s k) = true → Hid (∀ j, j < k + 1 → wrdB (byteAt s j) = true) := fun h j hj => by
        rcases Nat.lt_or_ge j k with h1 | h1
        · exact hrel.out j h1
        · obtain rfl : j = k := by omega
          exact h
      have no : wrdB (byteAt s k) = false → nameB s = false := fun h => nameB_no hlt (okAt_no h)
      rw [hby] at yes no
      have YES := Lib.hid yes
      have NO := Lib.hid no
      clear yes no hby
      cases hw : wrdB s[k].toNat
      · have HW := Lib.hid hw
        clear hw
        go_wp2_with (go_at_call 76; refine (wrd_any _ _).mono ?_; rintro e w1 ⟨rfl, rfl⟩; rw [HW.out])
        go_ret
        exact ⟨ret_bool (by rw [NO.out HW.out]), rfl⟩
      · have HW := Lib.hid hw
        clear hw
        go_wp2_with (go_at_call 76; refine (wrd_any _ _).mono ?_; rintro e w1 ⟨rfl, rfl⟩; rw [HW.out])
        go_roundw
        case rel => exact ⟨k + 1, by omega, by go_num, YES.out HW.out, trivial⟩
        case measure => simp [intOf]; omega
    · obtain rfl : k = s.size := by omega
      have hall := nameB_ref hrel.out
      clear hrel
      by_cases h0 : s.size = 0
      · have HN := Lib.hid (show nameB s = false by rw [hall]; simp [h0])
        clear hall
        go_wp2_with fail
        go_ret
        exact ⟨ret_bool (by rw [HN.out]), rfl⟩
      · by_cases h24 : s.size ≤ 24
        · have hby := byteAt_eq s 0 (by omega)
          have HN := Lib.hid (show nameB s = letB (s[0]'(by omega)).toNat by rw [hall, hby]; simp [h0, h24])
          clear hall hby
          go_wp2_with (go_at_call 77; refine (let_any _ _).mono ?_; rintro e w1 ⟨rfl, rfl⟩; rw [← HN.out])
          go_ret
          exact ⟨rfl, rfl⟩
        · have HN := Lib.hid (show nameB s = false by rw [hall]; simp [h24])
          clear hall
          go_wp2_with fail
          go_ret
          exact ⟨ret_bool (by rw [HN.out]), rfl⟩
end Go.Proofs.YtjlpllnhefafkaaGreatDoor
namespace Go.Proofs.YtjlpllnhefafkaaGreatDoor
open Go Go.RowKit
def ivB (l h : Int) : Bool := decide (0 ≤ l) && (decide (l ≤ h) && decide (h ≤ 1000000))
set_option maxRecDepth 100000 in
theorem iv_any (a b : Int) (w : World) :
    Calls Tryz.prog 78 #[.agg #[.int .i64 a, .int .i64 b]] w fun e w' => e = .returned (.bool (ivB a b)) ∧ Below w.heap.size w w' := by
  unfold ivB
  by_cases h1 : 0 ≤ a
  · by_cases h2 : a ≤ b
    · go_enter Tryz.func78, Tryz.ntmps78
      go_wp2
      go_ret
      exact ⟨ret_bool (by simp [h1, h2]), by go_grown⟩
    · go_enter Tryz.func78, Tryz.ntmps78
      go_wp2
      go_ret
      exact ⟨ret_bool (by simp ; omega), by go_grown⟩
  · go_enter Tryz.func78, Tryz.ntmps78
    go_wp2
    go_ret
    exact ⟨ret_bool (by simp ; omega), by go_grown⟩
def useB (kl kh cl ch ll lh : Int) : Bool := ivB kl kh && (ivB cl ch && ivB ll lh)
theorem useB_is (e : Ev) : useB e.kl e.kh e.cl e.ch e.ll e.lh = useOk e := by
  unfold useB ivB useOk
  rw [Bool.eq_iff_iff]
  simp only [Bool.and_eq_true, decide_eq_true_iff]
  omega
set_option maxRecDepth 100000 in
set_option maxHeartbeats 1000000 in
theorem use_any (kl kh cl ch ll lh : Int) (w : World) :
    Calls Tryz.prog 57 #[.agg #[.int .i64 kl, .int .i64 kh, .int .i64 cl, .int .i64 ch, .int .i64 ll, .int .i64 lh]] w fun e w' => e = .returned (.bool (useB kl kh cl ch ll lh)) ∧ Below w.heap.size w w' := by
  have HU := Lib.hid (Has.new w 47 #[.int .i64 kl, .int .i64 kh, .int .i64 cl, .int .i64 ch, .int .i64 ll, .int .i64 lh])
  have HB := Lib.hid ((Below.refl w.heap.size w).alloc (Nat.le_refl _) (.cells #[.int .i64 kl, .int .i64 kh, .int .i64 cl, .int .i64 ch, .int .i64 ll, .int .i64 lh] 47))
  unfold useB
  cases h1 : ivB kl kh
  · skip
    have H1 := Lib.hid h1
    clear h1
    go_enter Tryz.func57, Tryz.ntmps57
    go_wp2_with fail
    refine (iv_any kl kh _).mono ?_
    rintro e w1 ⟨rfl, hb1⟩
    rw [H1.out]
    have HU1 := Lib.hid (HU.out.below hb1 HU.out.lt)
    have HB1 := Lib.hid (HB.out.trans (hb1.mono HB.out.size))
    obtain ⟨x1, y1⟩ := HU1.out.facts
    clear hb1
    go_wp2_with fail
    go_ret
    exact ⟨rfl, HB1.out⟩
  · cases h2 : ivB cl ch
    · have H2 := Lib.hid h2
      clear h2
      have H1 := Lib.hid h1
      clear h1
      go_enter Tryz.func57, Tryz.ntmps57
      go_wp2_with fail
      refine (iv_any kl kh _).mono ?_
      rintro e w1 ⟨rfl, hb1⟩
      rw [H1.out]
      have HU1 := Lib.hid (HU.out.below hb1 HU.out.lt)
      have HB1 := Lib.hid (HB.out.trans (hb1.mono HB.out.size))
      obtain ⟨x1, y1⟩ := HU1.out.facts
      clear hb1
      go_wp2_with fail
      refine (iv_any cl ch _).mono ?_
      rintro e w2 ⟨rfl, hb2⟩
      rw [H2.out]
      clear x1 y1
      have HU2 := Lib.hid (HU1.out.below hb2 HU1.out.lt)
      have HB2 := Lib.hid (HB1.out.trans (hb2.mono HB1.out.size))
      obtain ⟨x2, y2⟩ := HU2.out.facts
      clear hb2
      go_wp2_with fail
      go_ret
      exact ⟨rfl, HB2.out⟩
    · have H2 := Lib.hid h2
      clear h2
      have H1 := Lib.hid h1
      clear h1
      go_enter Tryz.func57, Tryz.ntmps57
      go_wp2_with fail
      refine (iv_any kl kh _).mono ?_
      rintro e w1 ⟨rfl, hb1⟩
      rw [H1.out]
      have HU1 := Lib.hid (HU.out.below hb1 HU.out.lt)
      have HB1 := Lib.hid (HB.out.trans (hb1.mono HB.out.size))
      obtain ⟨x1, y1⟩ := HU1.out.facts
      clear hb1
      go_wp2_with fail
      refine (iv_any cl ch _).mono ?_
      rintro e w2 ⟨rfl, hb2⟩
      rw [H2.out]
      clear x1 y1
      have HU2 := Lib.hid (HU1.out.below hb2 HU1.out.lt)
      have HB2 := Lib.hid (HB1.out.trans (hb2.mono HB1.out.size))
      obtain ⟨x2, y2⟩ := HU2.out.facts
      clear hb2
      go_wp2_with fail
      refine (iv_any ll lh _).mono ?_
      rintro e w3 ⟨rfl, hb3⟩
      clear x2 y2
      have HU3 := Lib.hid (HU2.out.below hb3 HU2.out.lt)
      have HB3 := Lib.hid (HB2.out.trans (hb3.mono HB2.out.size))
      obtain ⟨x3, y3⟩ := HU3.out.facts
      clear hb3
      go_wp2_with fail
      go_ret
      exact ⟨rfl, HB3.out⟩
theorem kept_1 (op day : Int) (part kind into slot key value : ByteArray) (kl kh cl ch ll lh : Int) : evEq ⟨op, day, part, kind, ⟨#[]⟩, ⟨#[]⟩, ⟨#[]⟩, ⟨#[]⟩, 0, 0, 0, 0, 0, 0⟩ ⟨op, day, part, kind, into, slot, key, value, kl, kh, cl, ch, ll, lh⟩ = rest1 ⟨op, day, part, kind, into, slot, key, value, kl, kh, cl, ch, ll, lh⟩ := by
  rw [Bool.eq_iff_iff]
  simp only [evEq, rest1, decide_eq_true_iff, Ev.mk.injEq]
  grind
theorem kept_2 (op day : Int) (part kind into slot key value : ByteArray) (kl kh cl ch ll lh : Int) : evEq ⟨op, day, part, ⟨#[]⟩, into, slot, ⟨#[]⟩, ⟨#[]⟩, 0, 0, 0, 0, 0, 0⟩ ⟨op, day, part, kind, into, slot, key, value, kl, kh, cl, ch, ll, lh⟩ = rest2 ⟨op, day, part, kind, into, slot, key, value, kl, kh, cl, ch, ll, lh⟩ := by
  rw [Bool.eq_iff_iff]
  simp only [evEq, rest2, decide_eq_true_iff, Ev.mk.injEq]
  grind
theorem kept_4 (op day : Int) (part kind into slot key value : ByteArray) (kl kh cl ch ll lh : Int) : evEq ⟨op, day, part, ⟨#[]⟩, ⟨#[]⟩, ⟨#[]⟩, ⟨#[]⟩, ⟨#[]⟩, kl, kh, cl, ch, ll, lh⟩ ⟨op, day, part, kind, into, slot, key, value, kl, kh, cl, ch, ll, lh⟩ = rest4 ⟨op, day, part, kind, into, slot, key, value, kl, kh, cl, ch, ll, lh⟩ := by
  rw [Bool.eq_iff_iff]
  simp only [evEq, rest4, decide_eq_true_iff, Ev.mk.injEq]
  grind
theorem kept_6 (op day : Int) (part kind into slot key value : ByteArray) (kl kh cl ch ll lh : Int) : evEq ⟨op, day, part, ⟨#[]⟩, ⟨#[]⟩, ⟨#[]⟩, key, value, 0, 0, 0, 0, 0, 0⟩ ⟨op, day, part, kind, into, slot, key, value, kl, kh, cl, ch, ll, lh⟩ = rest6 ⟨op, day, part, kind, into, slot, key, value, kl, kh, cl, ch, ll, lh⟩ := by
  rw [Bool.eq_iff_iff]
  simp only [evEq, rest6, decide_eq_true_iff, Ev.mk.injEq]
  grind
theorem kept_0 (op day : Int) (part kind into slot key value : ByteArray) (kl kh cl ch ll lh : Int) : evEq ⟨op, day, part, ⟨#[]⟩, ⟨#[]⟩, ⟨#[]⟩, ⟨#[]⟩, ⟨#[]⟩, 0, 0, 0, 0, 0, 0⟩ ⟨op, day, part, kind, into, slot, key, value, kl, kh, cl, ch, ll, lh⟩ = rest0 ⟨op, day, part, kind, into, slot, key, value, kl, kh, cl, ch, ll, lh⟩ := by
  rw [Bool.eq_iff_iff]
  simp only [evEq, rest0, decide_eq_true_iff, Ev.mk.injEq]
  grind
set_option maxRecDepth 100000 in
set_option maxHeartbeats 2000000 in
theorem refEv_e1 (op day : Int) (part kind into slot key value : ByteArray) (kl kh cl ch ll lh : Int) (w : World) (ho : op < 1 ∨ 7 < op) :
    Calls Tryz.prog 30 #[.agg #[.int .i64 op, .int .i64 day, .string part, .string kind, .string into, .string slot, .string key, .string value, .int .i64 kl, .int .i64 kh, .int .i64 cl, .int .i64 ch, .int .i64 ll, .int .i64 lh]] w fun e w' => e = .returned (.bool (false)) ∧ Below w.heap.size w w' := by
  rcases ho with ho | ho
  · go_enter Tryz.func30, Tryz.ntmps30
    go_wp2_with fail
    go_ret
    exact ⟨rfl, by go_grown⟩
  · have ho1 : ¬ op < 1 := by omega
    go_enter Tryz.func30, Tryz.ntmps30
    go_wp2_with fail
    go_ret
    exact ⟨rfl, by go_grown⟩
set_option maxRecDepth 100000 in
set_option maxHeartbeats 2000000 in
theorem refEv_e2 (op day : Int) (part kind into slot key value : ByteArray) (kl kh cl ch ll lh : Int) (w : World) (ho : 1 ≤ op ∧ op ≤ 7) (hd : day < 0) :
    Calls Tryz.prog 30 #[.agg #[.int .i64 op, .int .i64 day, .string part, .string kind, .string into, .string slot, .string key, .string value, .int .i64 kl, .int .i64 kh, .int .i64 cl, .int .i64 ch, .int .i64 ll, .int .i64 lh]] w fun e w' => e = .returned (.bool (false)) ∧ Below w.heap.size w w' := by
  obtain ⟨ho1, ho2⟩ := ho
  go_enter Tryz.func30, Tryz.ntmps30
  go_wp2_with fail
  go_ret
  exact ⟨rfl, by go_grown⟩
set_option maxRecDepth 100000 in
set_option maxHeartbeats 2000000 in
theorem refEv_e3 (op day : Int) (part kind into slot key value : ByteArray) (kl kh cl ch ll lh : Int) (w : World) (ho : 1 ≤ op ∧ op ≤ 7) (hd0 : 0 ≤ day) (hd : 40000 < day) :
    Calls Tryz.prog 30 #[.agg #[.int .i64 op, .int .i64 day, .string part, .string kind, .string into, .string slot, .string key, .string value, .int .i64 kl, .int .i64 kh, .int .i64 cl, .int .i64 ch, .int .i64 ll, .int .i64 lh]] w fun e w' => e = .returned (.bool (false)) ∧ Below w.heap.size w w' := by
  obtain ⟨ho1, ho2⟩ := ho
  go_enter Tryz.func30, Tryz.ntmps30
  go_wp2_with fail
  go_ret
  exact ⟨rfl, by go_grown⟩
set_option maxRecDepth 100000 in
set_option maxHeartbeats 2000000 in
theorem refEv_e4 (op day : Int) (part kind into slot key value : ByteArray) (kl kh cl ch ll lh : Int) (w : World) (ho : 1 ≤ op ∧ op ≤ 7) (hd0 : 0 ≤ day) (hd : day ≤ 40000) (hp : part.size ≤ maxLen) (hn : nameB part = false) :
    Calls Tryz.prog 30 #[.agg #[.int .i64 op, .int .i64 day, .string part, .string kind, .string into, .string slot, .string key, .string value, .int .i64 kl, .int .i64 kh, .int .i64 cl, .int .i64 ch, .int .i64 ll, .int .i64 lh]] w fun e w' => e = .returned (.bool (false)) ∧ Below w.heap.size w w' := by
  obtain ⟨ho1, ho2⟩ := ho
  have HN := Lib.hid hn
  clear hn
  go_enter Tryz.func30, Tryz.ntmps30
  go_wp2_with (go_at_call 56; refine (refName_any _ _ (by assumption)).mono ?_; rintro e wn ⟨rfl, rfl⟩; rw [HN.out])
  go_ret
  exact ⟨rfl, by go_grown⟩
set_option maxRecDepth 100000 in
set_option maxHeartbeats 2000000 in
theorem refEv_o3 (day : Int) (part kind into slot key value : ByteArray) (kl kh cl ch ll lh : Int) (w : World) (hd0 : 0 ≤ day) (hd : day ≤ 40000) (hp : part.size ≤ maxLen) (hn : nameB part = true) :
    Calls Tryz.prog 30 #[.agg #[.int .i64 3, .int .i64 day, .string part, .string kind, .string into, .string slot, .string key, .string value, .int .i64 kl, .int .i64 kh, .int .i64 cl, .int .i64 ch, .int .i64 ll, .int .i64 lh]] w fun e w' => e = .returned (.bool (rest0 ⟨3, day, part, kind, into, slot, key, value, kl, kh, cl, ch, ll, lh⟩)) ∧ Below w.heap.size w w' := by
  rw [← kept_0]
  have HN := Lib.hid hn
  clear hn
  go_enter Tryz.func30, Tryz.ntmps30
  go_wp2_with (go_at_call 56; refine (refName_any _ _ (by assumption)).mono ?_; rintro e wn ⟨rfl, rfl⟩; rw [HN.out])
  go_ret
  exact ⟨rfl, by go_grown⟩
set_option maxRecDepth 100000 in
set_option maxHeartbeats 2000000 in
theorem refEv_o5 (day : Int) (part kind into slot key value : ByteArray) (kl kh cl ch ll lh : Int) (w : World) (hd0 : 0 ≤ day) (hd : day ≤ 40000) (hp : part.size ≤ maxLen) (hn : nameB part = true) :
    Calls Tryz.prog 30 #[.agg #[.int .i64 5, .int .i64 day, .string part, .string kind, .string into, .string slot, .string key, .string value, .int .i64 kl, .int .i64 kh, .int .i64 cl, .int .i64 ch, .int .i64 ll, .int .i64 lh]] w fun e w' => e = .returned (.bool (rest0 ⟨5, day, part, kind, into, slot, key, value, kl, kh, cl, ch, ll, lh⟩)) ∧ Below w.heap.size w w' := by
  rw [← kept_0]
  have HN := Lib.hid hn
  clear hn
  go_enter Tryz.func30, Tryz.ntmps30
  go_wp2_with (go_at_call 56; refine (refName_any _ _ (by assumption)).mono ?_; rintro e wn ⟨rfl, rfl⟩; rw [HN.out])
  go_ret
  exact ⟨rfl, by go_grown⟩
set_option maxRecDepth 100000 in
set_option maxHeartbeats 2000000 in
theorem refEv_o7 (day : Int) (part kind into slot key value : ByteArray) (kl kh cl ch ll lh : Int) (w : World) (hd0 : 0 ≤ day) (hd : day ≤ 40000) (hp : part.size ≤ maxLen) (hn : nameB part = true) :
    Calls Tryz.prog 30 #[.agg #[.int .i64 7, .int .i64 day, .string part, .string kind, .string into, .string slot, .string key, .string value, .int .i64 kl, .int .i64 kh, .int .i64 cl, .int .i64 ch, .int .i64 ll, .int .i64 lh]] w fun e w' => e = .returned (.bool (rest0 ⟨7, day, part, kind, into, slot, key, value, kl, kh, cl, ch, ll, lh⟩)) ∧ Below w.heap.size w w' := by
  rw [← kept_0]
  have HN := Lib.hid hn
  clear hn
  go_enter Tryz.func30, Tryz.ntmps30
  go_wp2_with (go_at_call 56; refine (refName_any _ _ (by assumption)).mono ?_; rintro e wn ⟨rfl, rfl⟩; rw [HN.out])
  go_ret
  exact ⟨rfl, by go_grown⟩
set_option maxRecDepth 100000 in
set_option maxHeartbeats 2000000 in
theorem refEv_o1 (day : Int) (part kind into slot key value : ByteArray) (kl kh cl ch ll lh : Int) (w : World) (hd0 : 0 ≤ day) (hd : day ≤ 40000) (hp : part.size ≤ maxLen) (hn : nameB part = true) (hk : kind.size ≤ maxLen) :
    Calls Tryz.prog 30 #[.agg #[.int .i64 1, .int .i64 day, .string part, .string kind, .string into, .string slot, .string key, .string value, .int .i64 kl, .int .i64 kh, .int .i64 cl, .int .i64 ch, .int .i64 ll, .int .i64 lh]] w fun e w' => e = .returned (.bool (nameB kind && rest1 ⟨1, day, part, kind, into, slot, key, value, kl, kh, cl, ch, ll, lh⟩)) ∧ Below w.heap.size w w' := by
  rw [← kept_1]
  have HN := Lib.hid hn
  clear hn
  cases hk2 : nameB kind
  · have HK := Lib.hid hk2
    clear hk2
    go_enter Tryz.func30, Tryz.ntmps30
    go_wp2_with (go_at_call 56; refine (refName_any _ _ (by assumption)).mono ?_; rintro e wn ⟨rfl, rfl⟩; (first | rw [HN.out] | rw [HK.out]))
    go_ret
    exact ⟨rfl, by go_grown⟩
  · have HK := Lib.hid hk2
    clear hk2
    go_enter Tryz.func30, Tryz.ntmps30
    go_wp2_with (go_at_call 56; refine (refName_any _ _ (by assumption)).mono ?_; rintro e wn ⟨rfl, rfl⟩; (first | rw [HN.out] | rw [HK.out]))
    go_ret
    exact ⟨rfl, by go_grown⟩
set_option maxRecDepth 100000 in
set_option maxHeartbeats 2000000 in
theorem refEv_o2 (day : Int) (part kind into slot key value : ByteArray) (kl kh cl ch ll lh : Int) (w : World) (hd0 : 0 ≤ day) (hd : day ≤ 40000) (hp : part.size ≤ maxLen) (hn : nameB part = true) (hi : into.size ≤ maxLen) (hs : slot.size ≤ maxLen) :
    Calls Tryz.prog 30 #[.agg #[.int .i64 2, .int .i64 day, .string part, .string kind, .string into, .string slot, .string key, .string value, .int .i64 kl, .int .i64 kh, .int .i64 cl, .int .i64 ch, .int .i64 ll, .int .i64 lh]] w fun e w' => e = .returned (.bool (nameB into && (nameB slot && (!(into.toList == part.toList) && rest2 ⟨2, day, part, kind, into, slot, key, value, kl, kh, cl, ch, ll, lh⟩)))) ∧ Below w.heap.size w w' := by
  rw [← kept_2]
  have HN := Lib.hid hn
  clear hn
  cases hi2 : nameB into
  · have HI := Lib.hid hi2
    clear hi2
    go_enter Tryz.func30, Tryz.ntmps30
    go_wp2_with (go_at_call 56; refine (refName_any _ _ (by assumption)).mono ?_; rintro e wn ⟨rfl, rfl⟩; (first | rw [HN.out] | rw [HI.out]))
    go_ret
    exact ⟨rfl, by go_grown⟩
  · have HI := Lib.hid hi2
    clear hi2
    cases hs2 : nameB slot
    · have HS := Lib.hid hs2
      clear hs2
      go_enter Tryz.func30, Tryz.ntmps30
      go_wp2_with (go_at_call 56; refine (refName_any _ _ (by assumption)).mono ?_; rintro e wn ⟨rfl, rfl⟩; (first | rw [HN.out] | rw [HI.out] | rw [HS.out]))
      go_ret
      exact ⟨rfl, by go_grown⟩
    · have HS := Lib.hid hs2
      clear hs2
      cases hne : (into.toList == part.toList)
      · have hne2 : (into.toList != part.toList) = true := by rw [bne, hne]; rfl
        go_enter Tryz.func30, Tryz.ntmps30
        go_wp2_with (go_at_call 56; refine (refName_any _ _ (by assumption)).mono ?_; rintro e wn ⟨rfl, rfl⟩; (first | rw [HN.out] | rw [HI.out] | rw [HS.out]))
        go_ret
        exact ⟨rfl, by go_grown⟩
      · have hne2 : (into.toList != part.toList) = false := by rw [bne, hne]; rfl
        go_enter Tryz.func30, Tryz.ntmps30
        go_wp2_with (go_at_call 56; refine (refName_any _ _ (by assumption)).mono ?_; rintro e wn ⟨rfl, rfl⟩; (first | rw [HN.out] | rw [HI.out] | rw [HS.out]))
        go_ret
        exact ⟨rfl, by go_grown⟩
set_option maxRecDepth 100000 in
set_option maxHeartbeats 2000000 in
theorem refEv_o6 (day : Int) (part kind into slot key value : ByteArray) (kl kh cl ch ll lh : Int) (w : World) (hd0 : 0 ≤ day) (hd : day ≤ 40000) (hp : part.size ≤ maxLen) (hn : nameB part = true) (hk : key.size ≤ maxLen) :
    Calls Tryz.prog 30 #[.agg #[.int .i64 6, .int .i64 day, .string part, .string kind, .string into, .string slot, .string key, .string value, .int .i64 kl, .int .i64 kh, .int .i64 cl, .int .i64 ch, .int .i64 ll, .int .i64 lh]] w fun e w' => e = .returned (.bool (nameB key && (decide ((1 : Int) ≤ (value.size : Int)) && (decide ((value.size : Int) ≤ 200) && rest6 ⟨6, day, part, kind, into, slot, key, value, kl, kh, cl, ch, ll, lh⟩)))) ∧ Below w.heap.size w w' := by
  rw [← kept_6]
  have HN := Lib.hid hn
  clear hn
  cases hk2 : nameB key
  · have HK := Lib.hid hk2
    clear hk2
    go_enter Tryz.func30, Tryz.ntmps30
    go_wp2_with (go_at_call 56; refine (refName_any _ _ (by assumption)).mono ?_; rintro e wn ⟨rfl, rfl⟩; (first | rw [HN.out] | rw [HK.out]))
    go_ret
    exact ⟨rfl, by go_grown⟩
  · have HK := Lib.hid hk2
    clear hk2
    by_cases h1 : (1 : Int) ≤ (value.size : Int)
    · by_cases h2 : (value.size : Int) ≤ 200
      · rw [decide_eq_true h1, decide_eq_true h2]
        go_enter Tryz.func30, Tryz.ntmps30
        go_wp2_with (go_at_call 56; refine (refName_any _ _ (by assumption)).mono ?_; rintro e wn ⟨rfl, rfl⟩; (first | rw [HN.out] | rw [HK.out]))
        go_ret
        exact ⟨rfl, by go_grown⟩
      · rw [decide_eq_true h1, decide_eq_false h2]
        go_enter Tryz.func30, Tryz.ntmps30
        go_wp2_with (go_at_call 56; refine (refName_any _ _ (by assumption)).mono ?_; rintro e wn ⟨rfl, rfl⟩; (first | rw [HN.out] | rw [HK.out]))
        go_ret
        exact ⟨rfl, by go_grown⟩
    · rw [decide_eq_false h1]
      go_enter Tryz.func30, Tryz.ntmps30
      go_wp2_with (go_at_call 56; refine (refName_any _ _ (by assumption)).mono ?_; rintro e wn ⟨rfl, rfl⟩; (first | rw [HN.out] | rw [HK.out]))
      go_ret
      exact ⟨rfl, by go_grown⟩
set_option maxRecDepth 100000 in
set_option maxHeartbeats 2000000 in
theorem refEv_o4 (day : Int) (part kind into slot key value : ByteArray) (kl kh cl ch ll lh : Int) (w : World) (hd0 : 0 ≤ day) (hd : day ≤ 40000) (hp : part.size ≤ maxLen) (hn : nameB part = true) :
    Calls Tryz.prog 30 #[.agg #[.int .i64 4, .int .i64 day, .string part, .string kind, .string into, .string slot, .string key, .string value, .int .i64 kl, .int .i64 kh, .int .i64 cl, .int .i64 ch, .int .i64 ll, .int .i64 lh]] w fun e w' => e = .returned (.bool (useB kl kh cl ch ll lh && rest4 ⟨4, day, part, kind, into, slot, key, value, kl, kh, cl, ch, ll, lh⟩)) ∧ Below w.heap.size w w' := by
  rw [← kept_4]
  have HN := Lib.hid hn
  clear hn
  have HE := Lib.hid ((Has.new w 49 #[.int .i64 4, .int .i64 day, .string part, .string kind, .string into, .string slot, .string key, .string value, .int .i64 kl, .int .i64 kh, .int .i64 cl, .int .i64 ch, .int .i64 ll, .int .i64 lh]).alloc (.cells #[.int .i64 4, .int .i64 day, .string part, .string ⟨#[]⟩, .string ⟨#[]⟩, .string ⟨#[]⟩, .string ⟨#[]⟩, .string ⟨#[]⟩, .int .i64 kl, .int .i64 kh, .int .i64 cl, .int .i64 ch, .int .i64 ll, .int .i64 lh] 49))
  have hr := Has.new (w.alloc (.cells #[.int .i64 4, .int .i64 day, .string part, .string kind, .string into, .string slot, .string key, .string value, .int .i64 kl, .int .i64 kh, .int .i64 cl, .int .i64 ch, .int .i64 ll, .int .i64 lh] 49)) 49 #[.int .i64 4, .int .i64 day, .string part, .string ⟨#[]⟩, .string ⟨#[]⟩, .string ⟨#[]⟩, .string ⟨#[]⟩, .string ⟨#[]⟩, .int .i64 kl, .int .i64 kh, .int .i64 cl, .int .i64 ch, .int .i64 ll, .int .i64 lh]
  simp only [World.size_alloc] at hr
  have HR := Lib.hid hr
  have HB := Lib.hid (((Below.refl w.heap.size w).alloc (Nat.le_refl _) (.cells #[.int .i64 4, .int .i64 day, .string part, .string kind, .string into, .string slot, .string key, .string value, .int .i64 kl, .int .i64 kh, .int .i64 cl, .int .i64 ch, .int .i64 ll, .int .i64 lh] 49)).alloc (by simp) (.cells #[.int .i64 4, .int .i64 day, .string part, .string ⟨#[]⟩, .string ⟨#[]⟩, .string ⟨#[]⟩, .string ⟨#[]⟩, .string ⟨#[]⟩, .int .i64 kl, .int .i64 kh, .int .i64 cl, .int .i64 ch, .int .i64 ll, .int .i64 lh] 49))
  clear hr
  have hz : useB kl kh cl ch ll lh = useB kl kh cl ch ll lh := rfl
  generalize hub : useB kl kh cl ch ll lh = ub
  have HUB := Lib.hid hub
  clear hub hz
  go_enter Tryz.func30, Tryz.ntmps30
  go_wp2_with (go_at_call 56; refine (refName_any _ _ (by assumption)).mono ?_; rintro e wn ⟨rfl, rfl⟩; rw [HN.out])
  refine (use_any kl kh cl ch ll lh _).mono ?_
  rintro e w1 ⟨rfl, hb1⟩
  rw [HUB.out]
  obtain ⟨x1, y1⟩ := (HE.out.below hb1 HE.out.lt).facts
  obtain ⟨x2, y2⟩ := (HR.out.below hb1 HR.out.lt).facts
  have HB1 := Lib.hid (HB.out.trans (hb1.mono HB.out.size))
  clear hb1
  cases ub
  · go_wp2_with fail
    go_ret
    exact ⟨rfl, HB1.out⟩
  · go_wp2_with fail
    go_ret
    exact ⟨rfl, HB1.out⟩
theorem refEv_any (e : Ev) (w : World) (hs : e.short) :
    Calls Tryz.prog 30 #[.agg e.cells] w fun r w' => r = .returned (.bool (evOk e)) ∧ Below w.heap.size w w' := by
  obtain ⟨op, day, part, kind, into, slot, key, value, kl, kh, cl, ch, ll, lh⟩ := e
  obtain ⟨hp, hk, hi, hsl, hke, hv⟩ := hs
  dsimp only at hp hk hi hsl hke hv
  show Calls Tryz.prog 30 #[.agg #[.int .i64 op, .int .i64 day, .string part, .string kind, .string into, .string slot, .string key, .string value, .int .i64 kl, .int .i64 kh, .int .i64 cl, .int .i64 ch, .int .i64 ll, .int .i64 lh]] w _
  have fin : ∀ {b : Bool}, evOk ⟨op, day, part, kind, into, slot, key, value, kl, kh, cl, ch, ll, lh⟩ = b → (∀ r w', (r = Ending.returned (.bool b) ∧ Below w.heap.size w w') → r = .returned (.bool (evOk ⟨op, day, part, kind, into, slot, key, value, kl, kh, cl, ch, ll, lh⟩)) ∧ Below w.heap.size w w') :=
    fun h r w' ⟨h1, h2⟩ => ⟨by rw [h]; exact h1, h2⟩
  by_cases ho : 1 ≤ op ∧ op ≤ 7
  · by_cases hd0 : 0 ≤ day
    · by_cases hd : day ≤ 40000
      · cases hn : nameB part
        · exact (refEv_e4 op day part kind into slot key value kl kh cl ch ll lh w ho hd0 hd hp hn).mono (fin (by simp [evOk, ho, hd0, hd, hn]))
        · have hops : op = 3 ∨ op = 5 ∨ op = 7 ∨ op = 1 ∨ op = 2 ∨ op = 6 ∨ op = 4 := by omega
          rcases hops with rfl | rfl | rfl | rfl | rfl | rfl | rfl
          · exact (refEv_o3 day part kind into slot key value kl kh cl ch ll lh w hd0 hd hp hn).mono (fin (by simp [evOk, evRest, hd0, hd, hn]))
          · exact (refEv_o5 day part kind into slot key value kl kh cl ch ll lh w hd0 hd hp hn).mono (fin (by simp [evOk, evRest, hd0, hd, hn]))
          · exact (refEv_o7 day part kind into slot key value kl kh cl ch ll lh w hd0 hd hp hn).mono (fin (by simp [evOk, evRest, hd0, hd, hn]))
          · exact (refEv_o1 day part kind into slot key value kl kh cl ch ll lh w hd0 hd hp hn hk).mono (fin (by simp [evOk, evRest, hd0, hd, hn, Bool.and_comm]))
          · exact (refEv_o2 day part kind into slot key value kl kh cl ch ll lh w hd0 hd hp hn hi hsl).mono (fin (by
              simp [evOk, evRest, hd0, hd, hn]
              generalize rest2 _ = r; generalize nameB into = b1; generalize nameB slot = b2; generalize (into.toList == part.toList) = b3
              cases r <;> cases b1 <;> cases b2 <;> cases b3 <;> rfl))
          · exact (refEv_o6 day part kind into slot key value kl kh cl ch ll lh w hd0 hd hp hn hke).mono (fin (by
              have h1 : (!value.toList.isEmpty) = decide ((1 : Int) ≤ (value.size : Int)) := by
                rw [isEmpty_size]
                by_cases h0 : value.size = 0
                · rw [h0]; rfl
                · rw [decide_eq_false h0, decide_eq_true (by omega)]; rfl
              simp only [evOk, evRest, hd0, hd, hn, h1, if_neg (show ¬ (6 : Int) = 1 by decide), if_neg (show ¬ (6 : Int) = 2 by decide), if_true, List.all_cons, List.all_nil]
              rw [decide_eq_true (show (1 : Int) ≤ 6 ∧ (6 : Int) ≤ 7 by decide), decide_eq_true (show True ∧ True from ⟨trivial, trivial⟩)]
              generalize rest6 _ = r; generalize nameB key = b1; generalize decide ((1 : Int) ≤ (value.size : Int)) = b2; generalize decide ((value.size : Int) ≤ 200) = b3
              cases r <;> cases b1 <;> cases b2 <;> cases b3 <;> rfl))
          · exact (refEv_o4 day part kind into slot key value kl kh cl ch ll lh w hd0 hd hp hn).mono (fin (by
              have h1 := useB_is ⟨4, day, part, kind, into, slot, key, value, kl, kh, cl, ch, ll, lh⟩
              dsimp only at h1
              rw [h1]
              simp [evOk, evRest, hd0, hd, hn]))
      · exact (refEv_e3 op day part kind into slot key value kl kh cl ch ll lh w ho hd0 (by omega)).mono (fin (by simp [evOk, hd]))
    · exact (refEv_e2 op day part kind into slot key value kl kh cl ch ll lh w ho (by omega)).mono (fin (by simp [evOk, hd0]))
  · exact (refEv_e1 op day part kind into slot key value kl kh cl ch ll lh w (by omega)).mono (fin (by simp [evOk, ho]))
end Go.Proofs.YtjlpllnhefafkaaGreatDoor
