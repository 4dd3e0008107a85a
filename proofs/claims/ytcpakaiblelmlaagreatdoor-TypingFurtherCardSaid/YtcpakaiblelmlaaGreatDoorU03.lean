/- lexer.tokens' iterator: it yields the tokens of the text. Condition: the text is not too long. -/
import Derived.LoopIn
import Derived.LoopNIn
import Derived.OwnWalkIn
import Derived.RangeFuncBound
import Derived.RangeFuncCalls
import Derived.RangeFuncLeaves
import Derived.RangeFuncNested
import Derived.Shelf.Abstract
import Derived.Shelf.RegionOpen
import Derived.TacticsInMore
import Derived.Test.YtcpakaiblelmlaaGreatDoorU02
namespace Go.Proofs.YtcpakaiblelmlaaGreatDoor
open Go Go.RowKit
attribute [local go_sem] Oper.semAt_some
def fndV (x : Fnd) : Value := .agg #[.int .i64 x.kind, .string x.text, .int .i64 x.pos, .int .i64 x.err]
/-- What a round that goes on keeps: the blocks of the four types that the iterator reads. -/
def KpF (A B : World) : Prop := ∀ (k : Nat) (cs : Array Value) (t : TypeId), (t = 135 ∨ t = 9 ∨ t = 88 ∨ t = 155) → Has A k t cs → Has B k t cs
theorem KpF.trans {A B C : World} (h : KpF A B) (h' : KpF B C) : KpF A C := fun k cs t ht ha => h' k cs t ht (h k cs t ht ha)
theorem KpF.refl (A : World) : KpF A A := fun _ _ _ _ h => h
theorem KpF.putObj {A : World} {l : Nat} {o : Obj} (o' : Obj) (h : A.heap[l]? = some o) (hc : o.isCells = false) : KpF A (A.putObj l o') := fun k cs t _ ha => by
  have hne : k ≠ l := fun e => by
    subst e
    unfold Has at ha
    rw [h] at ha
    cases ha
    cases hc
  unfold Has
  rw [World.putObj_heap_other hne]; exact ha
/-- What the iterator reads: the text, the classes, the function that reads them. -/
structure LxK (s : ByteArray) (bt bc ba : Nat) (V : World) : Prop where
  t : Has V bt 9 #[.string s]
  c : Has V bc 88 clsAll
  a : Has V ba 155 #[.func (.func 119) #[] #[.pointer (some ⟨bt, 0, none⟩), .pointer (some ⟨bc, 0, none⟩)]]
theorem LxK.below {s : ByteArray} {bt bc ba : Nat} {V V' : World} (h : LxK s bt bc ba V) (hb : Below V.heap.size V V') : LxK s bt bc ba V' := ⟨h.t.below hb h.t.lt, h.c.below hb h.c.lt, h.a.below hb h.a.lt⟩
theorem LxK.keeps {s : ByteArray} {bt bc ba : Nat} {V V' : World} (h : LxK s bt bc ba V) (hk : KpF V V') : LxK s bt bc ba V' := ⟨hk _ _ _ (.inr (.inl rfl)) h.t, hk _ _ _ (.inr (.inr (.inl rfl))) h.c, hk _ _ _ (.inr (.inr (.inr rfl))) h.a⟩
def YieldsTo (l m N : Nat) (J Jx : List Fnd → World → Prop) : Prop :=
  ∀ pre x W, J pre W → pre.length < N → YieldAt Fence.wide m Tryz.prog l #[fndV x] W fun e W' => (e = .returned (.bool true) ∧ J (pre ++ [x]) W' ∧ KpF W W') ∨ (e = .returned (.bool false) ∧ Jx (pre ++ [x]) W')
/-- The token that is being found, in a block of the round's own. -/
structure FB (V0 : World) (x : Fnd) (V : World) : Prop where
  f : Has V V0.heap.size 135 #[.int .i64 x.kind, .string x.text, .int .i64 x.pos, .int .i64 x.err]
  b : Below V0.heap.size V0 V
theorem FB.new (w : World) (x : Fnd) : FB w x (w.alloc (.cells #[.int .i64 x.kind, .string x.text, .int .i64 x.pos, .int .i64 x.err] 135)) := ⟨Has.new _ _ _, (Below.refl _ _).alloc (Nat.le_refl _) _⟩
theorem FB.kind {w V : World} {x : Fnd} (h : FB w x V) (k : Int) : FB w ⟨k, x.text, x.pos, x.err⟩ (V.setCell ⟨w.heap.size, 0, none⟩ (.int .i64 k)) := ⟨h.f.put 0 _, h.b.setCell (p := ⟨w.heap.size, 0, none⟩) (Nat.le_refl _) _⟩
theorem FB.text {w V : World} {x : Fnd} (h : FB w x V) (t : ByteArray) : FB w ⟨x.kind, t, x.pos, x.err⟩ (V.setCell ⟨w.heap.size, 1, none⟩ (.string t)) := ⟨h.f.put 1 _, h.b.setCell (p := ⟨w.heap.size, 1, none⟩) (Nat.le_refl _) _⟩
theorem FB.err {w V : World} {x : Fnd} (h : FB w x V) (e : Int) : FB w ⟨x.kind, x.text, x.pos, e⟩ (V.setCell ⟨w.heap.size, 3, none⟩ (.int .i64 e)) := ⟨h.f.put 3 _, h.b.setCell (p := ⟨w.heap.size, 3, none⟩) (Nat.le_refl _) _⟩
theorem FB.drew {w V : World} {x : Fnd} (h : FB w x V) : FB w x V.drew := ⟨h.f, h.b.drew⟩
theorem FB.below {w V V' : World} {x : Fnd} (h : FB w x V) (hb : Below V.heap.size V V') : FB w x V' := ⟨h.f.below hb h.f.lt, h.b.trans (hb.mono h.b.size)⟩
theorem len_lt {fs pre r : List Fnd} {x : Fnd} {N : Nat} (h : fs = pre ++ (x :: r)) (hN : fs.length ≤ N) : pre.length < N := by
  rw [h, List.length_append, List.length_cons] at hN; omega
theorem cls_two {c : Nat} (h : cls c = 2) : c = 35 := by
  unfold cls cls0 at h
  repeat' split at h
  all_goals first | assumption | omega
theorem class_eq {s : ByteArray} {k : Nat} (hk : k < s.size) : clsAt s k = cls (byteAt s k) := by unfold clsAt; rw [if_pos hk]
theorem unqGo_pos {t : ByteArray} : ∀ (n i : Nat) (acc l : List UInt8) (m : Nat), unqGo t n i acc = some (l, m) → 0 < m ∧ m ≤ t.size
  | 0, _, _, _, _, h => by cases h
  | n + 1, i, acc, l, m, h => by
    rw [unqGo_succ] at h
    split at h
    · cases h
    · rename_i h0
      split at h
      · have := Option.some.inj h
        have := (Prod.mk.inj this).2
        omega
      · split at h
        · cases h
        · split at h
          · split at h
            · cases h
            · split at h
              · cases h
              · exact unqGo_pos n _ _ l m h
          · exact unqGo_pos n _ _ l m h
theorem word_end {s : ByteArray} {k j : Nat} (h1 : k ≤ j) (h2 : j ≤ s.size) (hp : ∀ q, k ≤ q → q < j → wordP s q = true) (he : wordP s j = false) : wordEnd s k = j := runTo_eq _ _ _ _ h1 (by omega) hp he
theorem dig_end {s : ByteArray} {k j : Nat} (h1 : k ≤ j) (h2 : j ≤ s.size) (hp : ∀ q, k ≤ q → q < j → digP s q = true) (he : digP s j = false) : digEnd s k = j := runTo_eq _ _ _ _ h1 (by omega) hp he
theorem hash_end {s : ByteArray} {k j : Nat} (h1 : k ≤ j) (h2 : j ≤ s.size) (hp : ∀ q, k ≤ q → q < j → hashP s q = true) (he : hashP s j = false) : hashEnd s k = j := runTo_eq _ _ _ _ h1 (by omega) hp he
theorem upto_next {p : Nat → Bool} {k j : Nat} (h : ∀ q, k ≤ q → q < j → p q = true) (hj : p j = true) : ∀ q, k ≤ q → q < j + 1 → p q = true := fun q h1 h2 => by
  rcases Nat.lt_or_ge q j with h3 | h3
  · exact h q h1 h3
  · obtain rfl : q = j := by omega
    exact hj
theorem size_cut (s : ByteArray) (k : Nat) : (s.extract k s.size).size = s.size - k := by
  rw [ByteArray.size_extract]; omega
theorem cls_le (s : ByteArray) (i : Nat) : clsAt s i ≤ 7 := by
  unfold clsAt
  split
  · exact cls_small _
  · omega
set_option maxRecDepth 100000 in
set_option maxHeartbeats 20000000 in
theorem toks_in (l m N : Nat) (s : ByteArray) (bt bc ba : Nat) (J Jx : List Fnd → World → Prop) (W : World) (hs : s.size ≤ 20000)
    (hY : YieldsTo l m N J Jx) (hN : (lexF s).length ≤ N) (hJ : ∀ pre A B, J pre A → Below A.heap.size A B → J pre B)
    (hk : LxK s bt bc ba W) (h0 : J [] W) :
    Calls Tryz.prog 120 #[.func (.yield l) #[] #[], .pointer (some ⟨bt, 0, none⟩), .pointer (some ⟨ba, 0, none⟩)] W fun e W' => (∃ v, e = .returned v) ∧ ((∃ xs, xs = lexF s ∧ J xs W') ∨ (∃ pre, pre <+: lexF s ∧ Jx pre W')) := by
  have HT := Lib.hid (fun V (h : LxK s bt bc ba V) => h.t)
  have HC := Lib.hid (fun V (h : LxK s bt bc ba V) => h.c)
  have HA := Lib.hid (fun V (h : LxK s bt bc ba V) => h.a)
  have HK0 := Lib.hid hk
  have HY := Lib.hid hY
  have HJ := Lib.hid hJ
  have HJ0 := Lib.hid h0
  clear hk hY hJ h0
  go_enter Tryz.func120, Tryz.ntmps120
  go_wp2_with fail
  go_step3
  go_wp2_with fail
  go_step3
  go_wp2_with fail
  go_loopw [4] (fun i wr => ∃ (k n : Nat) (pre : List Fnd), i = .int .i64 k ∧ Hid (lexF s = pre ++ lexGo s n k) ∧ s.size < n + k ∧ k ≤ s.size ∧ Hid (J pre wr) ∧ Hid (LxK s bt bc ba wr)) (fun i _ => s.size - (intOf i).toNat)
  case atStart => exact ⟨0, s.size + 1, [], rfl, rfl, by omega, by omega, HJ0.out, HK0.out⟩
  case round =>
    clear HJ0 HK0
    obtain ⟨k, n, pre, rfl, HL, hn, hk, HP, HB⟩ := hrel
    have HF0 := Lib.hid (FB.new wr ⟨0, ⟨#[]⟩, (k : Nat), 10⟩)
    have HG := Lib.hid (fun V (h : Below wr.heap.size wr V) => HB.out.below h)
    obtain ⟨x1, y1⟩ := (HT.out _ (HG.out _ (Below.refl _ _))).facts
    obtain ⟨x2, y2⟩ := (HT.out _ (HG.out _ HF0.out.b)).facts
    obtain ⟨x3, y3⟩ := (HA.out _ (HG.out _ HF0.out.b)).facts
    obtain ⟨x4, y4⟩ := HF0.out.f.facts
    by_cases hlt : k < s.size
    · obtain ⟨n, rfl⟩ : ∃ n', n = n' + 1 := ⟨n - 1, by omega⟩
      have hki : (k : Int) < (s.size : Int) := by omega
      have HL2 := Lib.hid (HL.out.trans (congrArg (pre ++ ·) (lexGo_succ s n k)))
      clear HL
      rw [if_neg (show ¬ s.size ≤ k by omega)] at HL2
      have hc7 := cls_le s k
      obtain ⟨c, hcc⟩ : ∃ c, c = clsAt s k := ⟨_, rfl⟩
      rw [← hcc] at HL2 hc7
      have HCL := Lib.hid hcc.symm
      clear hcc
      go_upto_region 4 with fail
      obtain ⟨V1, hV1⟩ : ∃ V, V = wr.alloc (.cells #[.int .i64 0, .string ⟨#[]⟩, .int .i64 (k : Nat), .int .i64 10] 135) := ⟨_, rfl⟩
      rw [← hV1] at HF0 ⊢
      clear hV1 x2 y2 x3 y3 x4 y4
      obtain ⟨x2, y2⟩ := (HT.out _ (HG.out _ HF0.out.b)).facts
      obtain ⟨x3, y3⟩ := (HA.out _ (HG.out _ HF0.out.b)).facts
      obtain ⟨x4, y4⟩ := HF0.out.f.facts
      rcases (by omega : c = 1 ∨ c = 2 ∨ c = 3 ∨ c = 4 ∨ c = 5 ∨ c = 6 ∨ c = 7 ∨ c = 0) with rfl | rfl | rfl | rfl | rfl | rfl | rfl | rfl
      · have HE := Lib.hid (show lexF s = pre ++ lexGo s n (k + 1) from HL2.out)
        go_wp2_with (go_at_call 119; refine (at_any s k bt bc _ (HT.out _ (HG.out _ (HF0.out).b)) (HC.out _ (HG.out _ (HF0.out).b)) (by omega) (by omega)).mono ?_; rintro e w2 ⟨rfl, hw2⟩; obtain rfl := hw2.symm; rw [HCL.out])
        go_roundw
        case rel => exact ⟨k + 1, n, pre, by go_num, HE.out, by omega, by omega, HJ.out _ _ _ HP.out HF0.out.b, HG.out _ HF0.out.b⟩
        case measure => simp [intOf]; omega
      · have HE := Lib.hid (show lexF s = pre ++ lexGo s n (hashEnd s k) from HL2.out)
        have h35 := Lib.hid (cls_two (show cls (byteAt s k) = 2 by rw [← class_eq hlt]; exact HCL.out))
        go_wp2_with (go_at_call 119; refine (at_any s k bt bc _ (HT.out _ (HG.out _ (HF0.out).b)) (HC.out _ (HG.out _ (HF0.out).b)) (by omega) (by omega)).mono ?_; rintro e w2 ⟨rfl, hw2⟩; obtain rfl := hw2.symm; rw [HCL.out])
        go_loopw [4] (fun i wq => ∃ j : Nat, i = .int .i64 j ∧ k ≤ j ∧ j ≤ s.size ∧ Hid (∀ q, k ≤ q → q < j → hashP s q = true) ∧ wq = V1) (fun i _ => s.size - (intOf i).toNat)
        case atStart => exact ⟨k, rfl, Nat.le_refl _, by omega, fun q h1 h2 => absurd h1 (by omega), rfl⟩
        case round =>
          obtain ⟨j, rfl, hkj, hjs, HH, rfl⟩ := hrel
          by_cases hj : j < s.size
          · have hji : (j : Int) < (s.size : Int) := by omega
            have hb8 := UInt8.toNat_lt s[j]
            have hby := byteAt_eq s j hj
            by_cases e : s[j].toNat = 10
            · have HEND := Lib.hid (hash_end hkj hjs HH.out (show hashP s j = false by unfold hashP; rw [hby, e]; simp))
              have hjk : k < j := by
                rcases Nat.lt_or_ge k j with h | h
                · exact h
                · obtain rfl : k = j := by omega
                  have := h35.out
                  rw [hby, e] at this
                  exact absurd this (by decide)
              clear hby
              go_wp2_with fail
              go_roundw
              case rel => exact ⟨j, n, pre, rfl, by rw [HE.out, HEND.out]; rfl, by omega, hjs, HJ.out _ _ _ HP.out HF0.out.b, HG.out _ HF0.out.b⟩
              case measure => simp [intOf]; omega
            · have HN := Lib.hid (upto_next HH.out (show hashP s j = true by unfold hashP; rw [hby]; simp [hj, e]))
              clear hby
              go_wp2_with fail
              go_roundw
              case rel => exact ⟨j + 1, by go_num, by omega, by omega, HN.out, trivial⟩
              case measure => simp [intOf]; omega
          · have hji : ¬ (j : Int) < (s.size : Int) := by omega
            have HEND := Lib.hid (hash_end hkj hjs HH.out (show hashP s j = false by unfold hashP; simp [hj]))
            go_wp2_with fail
            go_roundw
            case rel => exact ⟨j, n, pre, rfl, by rw [HE.out, HEND.out]; rfl, by omega, hjs, HJ.out _ _ _ HP.out HF0.out.b, HG.out _ HF0.out.b⟩
            case measure => simp [intOf]; omega
      · have hst : wordP s k = true := by unfold wordP; rw [HCL.out]; rfl
        have HST := Lib.hid hst
        clear hst
        go_wp2_with (go_at_call 119; refine (at_any s k bt bc _ (HT.out _ (HG.out _ (HF0.out).b)) (HC.out _ (HG.out _ (HF0.out).b)) (by omega) (by omega)).mono ?_; rintro e w2 ⟨rfl, hw2⟩; obtain rfl := hw2.symm; rw [HCL.out])
        go_loopw [4, 7] (fun i cv wq => ∃ j : Nat, i = .int .i64 j ∧ cv = .int .u8 (clsAt s j : Nat) ∧ k ≤ j ∧ j ≤ s.size ∧ Hid (∀ q, k ≤ q → q < j → wordP s q = true) ∧ wq = V1) (fun i _ _ => s.size - (intOf i).toNat)
        case atStart => exact ⟨k, rfl, by rw [HCL.out]; rfl, Nat.le_refl _, by omega, fun q h1 h2 => absurd h1 (by omega), rfl⟩
        case round =>
          obtain ⟨j, rfl, rfl, hkj, hjs, HH, hwq⟩ := hrel
          obtain rfl := hwq.symm
          cases hw : wordP s j
          · have HEND := Lib.hid (word_end hkj hjs HH.out hw)
            have hjk : k < j := by
              rcases Nat.lt_or_ge k j with h | h
              · exact h
              · obtain rfl : k = j := by omega
                rw [HST.out] at hw; cases hw
            have m3 : ¬ clsAt s j = 3 := fun h => by unfold wordP at hw; rw [h] at hw; cases hw
            have m4 : ¬ clsAt s j = 4 := fun h => by unfold wordP at hw; rw [h] at hw; cases hw
            have m5 : ¬ clsAt s j = 5 := fun h => by unfold wordP at hw; rw [h] at hw; cases hw
            have HL3 := Lib.hid (show lexF s = pre ++ (if 24 < j - k then [⟨1, cut s k j, (k : Nat), 7⟩] else ⟨1, cut s k j, (k : Nat), 0⟩ :: lexGo s n j) by rw [HL2.out, HEND.out]; rfl)
            have hkji : (k : Int) ≤ (j : Int) := by omega
            have hjsi : (j : Int) ≤ (s.size : Int) := by omega
            generalize clsAt s j = cj at *
            have b3 : ((cj : Int) == 3) = false := by rw [beq_eq_false_iff_ne]; omega
            have b4 : ((cj : Int) == 4) = false := by rw [beq_eq_false_iff_ne]; omega
            have b5 : ((cj : Int) == 5) = false := by rw [beq_eq_false_iff_ne]; omega
            clear hw
            go_wp2_with fail
            refine wp_region_held_drew (S := fun V => V.cell? ⟨bt, 0, none⟩ = some (.string s)) (by kernel_rfl) ((HT.out _ (HG.out _ (HF0.out).b)).facts.1 0) (fun hHeld => ?_)
            refine plI [(0, false), (1, false), (2, false), (3, false), (4, false), (5, false)] ?_
            repeat ((first | ((with_reducible show Plan ((_, true) :: _) _); refine plF ?_) | (refine plR (v := ?_) ?_ ?_; rotate_left; focus (intro W hSW; (try dsimp only at hSW); go_simp; all_goals (with_reducible rfl)))); try simp only [Act.put, List.setIfInBounds_toArray, List.set_cons_zero, List.set_cons_succ])
            refine plE ?_
            refine wpAnyH_ready (rs := [6]) (by kernel_rfl) (by simp) ?_
            refine AllReadyH.cons (o := ⟨_, _, _, _, _, _⟩) rfl (fun K hK => ?_) AllReadyH.nil
            go_simp
            have HF6 := Lib.hid (((HF0.out).kind 1).drew)
            obtain ⟨V6, hV6⟩ : ∃ V, V = (V1.setCell ⟨wr.heap.size, 0, none⟩ (.int .i64 1)).drew := ⟨_, rfl⟩
            rw [← hV6] at HF6 ⊢
            clear hV6
            obtain ⟨p6, q6⟩ := HF6.out.f.facts
            refine hK.out _ _ ((HT.out _ (HG.out _ HF6.out.b)).facts.1 0) (fun hHeld => ?_)
            clear hK K
            try simp only [Act.put]
            refine plI [(7, false), (8, false)] ?_
            repeat ((first | ((with_reducible show Plan ((_, true) :: _) _); refine plF ?_) | (refine plR (v := ?_) ?_ ?_; rotate_left; focus (intro W hSW; (try dsimp only at hSW); go_simp; all_goals (with_reducible rfl)))); try simp only [Act.put, List.setIfInBounds_toArray, List.set_cons_zero, List.set_cons_succ])
            refine plE ?_
            refine wpAnyH_ready (rs := [9]) (by kernel_rfl) (by simp) ?_
            refine AllReadyH.cons (o := ⟨_, _, _, _, _, _⟩) rfl (fun K hK => ?_) AllReadyH.nil
            go_simp
            have HF9 := Lib.hid ((HF6.out).text (s.extract k j))
            obtain ⟨V9, hV9⟩ : ∃ V, V = V6.setCell ⟨wr.heap.size, 1, none⟩ (.string (s.extract k j)) := ⟨_, rfl⟩
            rw [← hV9] at HF9 ⊢
            clear hV9
            obtain ⟨p9, q9⟩ := HF9.out.f.facts
            refine hK.out _ _ ((HT.out _ (HG.out _ HF9.out.b)).facts.1 0) (fun hHeld => ?_)
            clear hK K
            try simp only [Act.put]
            refine plI [(10, false)] ?_
            repeat ((first | ((with_reducible show Plan ((_, true) :: _) _); refine plF ?_) | (refine plR (v := ?_) ?_ ?_; rotate_left; focus (intro W hSW; (try dsimp only at hSW); go_simp; all_goals (with_reducible rfl)))); try simp only [Act.put, List.setIfInBounds_toArray, List.set_cons_zero, List.set_cons_succ])
            refine plE ?_
            refine wpAnyH_ready (rs := [11]) (by kernel_rfl) (by simp) ?_
            refine AllReadyH.cons (o := ⟨_, _, _, _, _, _⟩) rfl (fun K hK => ?_) AllReadyH.nil
            go_simp
            have HF11 := Lib.hid ((HF9.out).err 0)
            obtain ⟨V11, hV11⟩ : ∃ V, V = V9.setCell ⟨wr.heap.size, 3, none⟩ (.int .i64 0) := ⟨_, rfl⟩
            rw [← hV11] at HF11 ⊢
            clear hV11
            obtain ⟨p11, q11⟩ := HF11.out.f.facts
            refine hK.out _ _ ((HT.out _ (HG.out _ HF11.out.b)).facts.1 0) (fun hHeld => ?_)
            clear hK K
            try simp only [Act.put]
            refine wpAnyH_done (by kernel_rfl) ?_ _
            clear hHeld
            by_cases h24 : 24 < j - k
            · have h24i : ((j : Int) - (k : Int)) > 24 := by omega
              have HEQ := Lib.hid (show lexF s = pre ++ [⟨1, s.extract k j, (k : Nat), 7⟩] by rw [HL3.out, if_pos h24]; rfl)
              have HFE := Lib.hid (HF11.out.err 7)
              obtain ⟨VE, hVE⟩ : ∃ V, V = V11.setCell ⟨wr.heap.size, 3, none⟩ (.int .i64 7) := ⟨_, rfl⟩
              go_upto_region 33 with fail
              rw [← hVE] at HFE ⊢
              clear hVE
              obtain ⟨pE, qE⟩ := HFE.out.f.facts
              obtain ⟨fn, tmps, assign, body, hy, hR⟩ := HY.out pre (⟨1, s.extract k j, ((k : Nat) : Int), 7⟩ : Fnd) VE (HJ.out _ _ _ HP.out (HFE.out).b) (len_lt HEQ.out hN)
              dsimp only [fndV] at hy
              refine (wpIn_wide (n := m + 1)).1 ?_
              have hm1 : 1 ≤ m + 1 := Nat.succ_pos m
              gi_wp2
              refine hR.mono ?_
              rintro e W3 (⟨rfl, hJ3, hk3⟩ | ⟨rfl, hJx3⟩)
              · have HF33 := Lib.hid (hk3 _ _ _ (.inl rfl) (HFE.out).f)
                have HB3 := Lib.hid ((HG.out _ (HFE.out).b).keeps hk3)
                obtain ⟨p33, q33⟩ := HF33.out.facts
                gi_wp2
                go_wp2_with fail
                rw [Exit.noGoto_ret]
                refine bodyPost_ret (results_none rfl _ _ _) rfl ?_
                exact ⟨⟨_, rfl⟩, .inl ⟨pre ++ [(⟨1, s.extract k j, ((k : Nat) : Int), 7⟩ : Fnd)], HEQ.out.symm, hJ3⟩⟩
              · gi_wp2
                go_wp2_with fail
                rw [Exit.noGoto_ret]
                refine bodyPost_ret (results_none rfl _ _ _) rfl ?_
                exact ⟨⟨_, rfl⟩, .inr ⟨pre ++ [(⟨1, s.extract k j, ((k : Nat) : Int), 7⟩ : Fnd)], by rw [HEQ.out]; exact List.prefix_rfl, hJx3⟩⟩
            · have h24i : ¬ ((j : Int) - (k : Int)) > 24 := by omega
              have HEQ := Lib.hid (show lexF s = pre ++ (⟨1, s.extract k j, (k : Nat), 0⟩ :: lexGo s n j) by rw [HL3.out, if_neg h24]; rfl)
              go_upto_region 33 with fail
              obtain ⟨fn, tmps, assign, body, hy, hR⟩ := HY.out pre (⟨1, s.extract k j, ((k : Nat) : Int), 0⟩ : Fnd) V11 (HJ.out _ _ _ HP.out (HF11.out).b) (len_lt HEQ.out hN)
              dsimp only [fndV] at hy
              refine (wpIn_wide (n := m + 1)).1 ?_
              have hm1 : 1 ≤ m + 1 := Nat.succ_pos m
              gi_wp2
              refine hR.mono ?_
              rintro e W3 (⟨rfl, hJ3, hk3⟩ | ⟨rfl, hJx3⟩)
              · have HF33 := Lib.hid (hk3 _ _ _ (.inl rfl) (HF11.out).f)
                have HB3 := Lib.hid ((HG.out _ (HF11.out).b).keeps hk3)
                obtain ⟨p33, q33⟩ := HF33.out.facts
                gi_wp2
                go_wp2_with fail
                go_roundw
                case rel => exact ⟨j, n, pre ++ [(⟨1, s.extract k j, ((k : Nat) : Int), 0⟩ : Fnd)], by go_num, (by show lexF s = (pre ++ [(⟨1, s.extract k j, ((k : Nat) : Int), 0⟩ : Fnd)]) ++ lexGo s n (j); rw [HEQ.out, List.append_assoc]; rfl), by omega, by omega, hJ3, HB3.out⟩
                case measure => simp [intOf]; omega
              · gi_wp2
                go_wp2_with fail
                rw [Exit.noGoto_ret]
                refine bodyPost_ret (results_none rfl _ _ _) rfl ?_
                exact ⟨⟨_, rfl⟩, .inr ⟨pre ++ [(⟨1, s.extract k j, ((k : Nat) : Int), 0⟩ : Fnd)], by rw [HEQ.out]; exact ⟨lexGo s n (j), by simp⟩, hJx3⟩⟩
          · have HN := Lib.hid (upto_next HH.out hw)
            have hjl : j < s.size := by
              rcases Nat.lt_or_ge j s.size with h | h
              · exact h
              · have e : clsAt s j = 0 := by unfold clsAt; rw [if_neg (by omega)]
                unfold wordP at hw; rw [e] at hw; cases hw
            rcases (show clsAt s j = 3 ∨ clsAt s j = 4 ∨ clsAt s j = 5 by unfold wordP at hw; simpa [Bool.or_eq_true, beq_iff_eq] using hw) with e | e | e
            all_goals
              have HEJ := Lib.hid e
              clear e hw
              rw [HEJ.out]
              go_wp2_with (go_at_call 119; refine (at_any s (j + 1) bt bc _ (HT.out _ (HG.out _ (HF0.out).b)) (HC.out _ (HG.out _ (HF0.out).b)) (by omega) (by omega)).mono ?_; rintro e w2 ⟨rfl, hw2⟩; obtain rfl := hw2.symm; rw [show clsAt s (j + 1) = clsAt s (j + 1) from rfl])
              go_roundw
              case rel => exact ⟨j + 1, by go_num, rfl, by omega, by omega, HN.out, trivial⟩
              case measure => simp [intOf]; omega
      · have hst : digP s k = true := by unfold digP; rw [HCL.out]; rfl
        have HST := Lib.hid hst
        clear hst
        go_wp2_with (go_at_call 119; refine (at_any s k bt bc _ (HT.out _ (HG.out _ (HF0.out).b)) (HC.out _ (HG.out _ (HF0.out).b)) (by omega) (by omega)).mono ?_; rintro e w2 ⟨rfl, hw2⟩; obtain rfl := hw2.symm; rw [HCL.out])
        go_loopw [4] (fun i wq => ∃ j : Nat, i = .int .i64 j ∧ k ≤ j ∧ j ≤ s.size ∧ Hid (∀ q, k ≤ q → q < j → digP s q = true) ∧ wq = V1) (fun i _ => s.size - (intOf i).toNat)
        case atStart => exact ⟨k, rfl, Nat.le_refl _, by omega, fun q h1 h2 => absurd h1 (by omega), rfl⟩
        case round =>
          obtain ⟨j, rfl, hkj, hjs, HH, hwq⟩ := hrel
          obtain rfl := hwq.symm
          cases hw : digP s j
          · have HEND := Lib.hid (dig_end hkj hjs HH.out hw)
            have hjk : k < j := by
              rcases Nat.lt_or_ge k j with h | h
              · exact h
              · obtain rfl : k = j := by omega
                rw [HST.out] at hw; cases hw
            have n4 : ¬ clsAt s j = 4 := fun h => by unfold digP at hw; rw [h] at hw; cases hw
            have b4 : (((clsAt s j : Nat) : Int) == 4) = false := by rw [beq_eq_false_iff_ne]; omega
            have HL3 := Lib.hid (show lexF s = pre ++ (if 7 < j - k ∨ clsAt s j = 3 ∨ clsAt s j = 5 then [⟨2, cut s k j, (k : Nat), 11⟩] else ⟨2, cut s k j, (k : Nat), 0⟩ :: lexGo s n j) by rw [HL2.out, HEND.out]; rfl)
            have hkji : (k : Int) ≤ (j : Int) := by omega
            have hjsi : (j : Int) ≤ (s.size : Int) := by omega
            clear hw
            go_wp2_with (go_at_call 119; refine (at_any s j bt bc _ (HT.out _ (HG.out _ (HF0.out).b)) (HC.out _ (HG.out _ (HF0.out).b)) (by omega) (by omega)).mono ?_; rintro e w2 ⟨rfl, hw2⟩; obtain rfl := hw2.symm; rw [show clsAt s j = clsAt s j from rfl])
            refine wp_region_held_drew (S := fun V => V.cell? ⟨bt, 0, none⟩ = some (.string s)) (by kernel_rfl) ((HT.out _ (HG.out _ (HF0.out).b)).facts.1 0) (fun hHeld => ?_)
            refine plI [(0, false), (1, false), (2, false), (3, false), (4, false), (5, false)] ?_
            repeat ((first | ((with_reducible show Plan ((_, true) :: _) _); refine plF ?_) | (refine plR (v := ?_) ?_ ?_; rotate_left; focus (intro W hSW; (try dsimp only at hSW); go_simp; all_goals (with_reducible rfl)))); try simp only [Act.put, List.setIfInBounds_toArray, List.set_cons_zero, List.set_cons_succ])
            refine plE ?_
            refine wpAnyH_ready (rs := [6]) (by kernel_rfl) (by simp) ?_
            refine AllReadyH.cons (o := ⟨_, _, _, _, _, _⟩) rfl (fun K hK => ?_) AllReadyH.nil
            go_simp
            have HF6 := Lib.hid (((HF0.out).kind 2).drew)
            obtain ⟨V6, hV6⟩ : ∃ V, V = (V1.setCell ⟨wr.heap.size, 0, none⟩ (.int .i64 2)).drew := ⟨_, rfl⟩
            rw [← hV6] at HF6 ⊢
            clear hV6
            obtain ⟨p6, q6⟩ := HF6.out.f.facts
            refine hK.out _ _ ((HT.out _ (HG.out _ HF6.out.b)).facts.1 0) (fun hHeld => ?_)
            clear hK K
            try simp only [Act.put]
            refine plI [(7, false), (8, false)] ?_
            repeat ((first | ((with_reducible show Plan ((_, true) :: _) _); refine plF ?_) | (refine plR (v := ?_) ?_ ?_; rotate_left; focus (intro W hSW; (try dsimp only at hSW); go_simp; all_goals (with_reducible rfl)))); try simp only [Act.put, List.setIfInBounds_toArray, List.set_cons_zero, List.set_cons_succ])
            refine plE ?_
            refine wpAnyH_ready (rs := [9]) (by kernel_rfl) (by simp) ?_
            refine AllReadyH.cons (o := ⟨_, _, _, _, _, _⟩) rfl (fun K hK => ?_) AllReadyH.nil
            go_simp
            have HF9 := Lib.hid ((HF6.out).text (s.extract k j))
            obtain ⟨V9, hV9⟩ : ∃ V, V = V6.setCell ⟨wr.heap.size, 1, none⟩ (.string (s.extract k j)) := ⟨_, rfl⟩
            rw [← hV9] at HF9 ⊢
            clear hV9
            obtain ⟨p9, q9⟩ := HF9.out.f.facts
            refine hK.out _ _ ((HT.out _ (HG.out _ HF9.out.b)).facts.1 0) (fun hHeld => ?_)
            clear hK K
            try simp only [Act.put]
            refine plI [(10, false)] ?_
            repeat ((first | ((with_reducible show Plan ((_, true) :: _) _); refine plF ?_) | (refine plR (v := ?_) ?_ ?_; rotate_left; focus (intro W hSW; (try dsimp only at hSW); go_simp; all_goals (with_reducible rfl)))); try simp only [Act.put, List.setIfInBounds_toArray, List.set_cons_zero, List.set_cons_succ])
            refine plE ?_
            refine wpAnyH_ready (rs := [11]) (by kernel_rfl) (by simp) ?_
            refine AllReadyH.cons (o := ⟨_, _, _, _, _, _⟩) rfl (fun K hK => ?_) AllReadyH.nil
            go_simp
            have HF11 := Lib.hid ((HF9.out).err 0)
            obtain ⟨V11, hV11⟩ : ∃ V, V = V9.setCell ⟨wr.heap.size, 3, none⟩ (.int .i64 0) := ⟨_, rfl⟩
            rw [← hV11] at HF11 ⊢
            clear hV11
            obtain ⟨p11, q11⟩ := HF11.out.f.facts
            refine hK.out _ _ ((HT.out _ (HG.out _ HF11.out.b)).facts.1 0) (fun hHeld => ?_)
            clear hK K
            try simp only [Act.put]
            refine wpAnyH_done (by kernel_rfl) ?_ _
            clear hHeld
            obtain ⟨z3, z4⟩ := (HA.out _ (HG.out _ HF11.out.b)).facts
            by_cases h7 : 7 < j - k
            · have h7i : ((j : Int) - (k : Int)) > 7 := by omega
              have HEQ := Lib.hid (show lexF s = pre ++ [(⟨2, s.extract k j, ((k : Nat) : Int), 11⟩ : Fnd)] by rw [HL3.out, if_pos (.inl h7)]; rfl)
              go_upto_region 23 with (go_at_call 119; refine (at_any s j bt bc _ (HT.out _ (HG.out _ (HF11.out).b)) (HC.out _ (HG.out _ (HF11.out).b)) (by omega) (by omega)).mono ?_; rintro e w2 ⟨rfl, hw2⟩; obtain rfl := hw2.symm; rw [show clsAt s j = clsAt s j from rfl])
              have HFE := Lib.hid ((HF11.out).err 11)
              obtain ⟨VE, hVE⟩ : ∃ V, V = (V11.setCell ⟨wr.heap.size, 3, none⟩ (.int .i64 11)) := ⟨_, rfl⟩
              go_upto_region 33 with fail
              rw [← hVE] at HFE ⊢
              clear hVE
              obtain ⟨pE, qE⟩ := HFE.out.f.facts
              obtain ⟨fn, tmps, assign, body, hy, hR⟩ := HY.out pre (⟨2, s.extract k j, ((k : Nat) : Int), 11⟩ : Fnd) VE (HJ.out _ _ _ HP.out (HFE.out).b) (len_lt HEQ.out hN)
              dsimp only [fndV] at hy
              refine (wpIn_wide (n := m + 1)).1 ?_
              have hm1 : 1 ≤ m + 1 := Nat.succ_pos m
              gi_wp2
              refine hR.mono ?_
              rintro e W3 (⟨rfl, hJ3, hk3⟩ | ⟨rfl, hJx3⟩)
              · have HF33 := Lib.hid (hk3 _ _ _ (.inl rfl) (HFE.out).f)
                have HB3 := Lib.hid ((HG.out _ (HFE.out).b).keeps hk3)
                obtain ⟨p33, q33⟩ := HF33.out.facts
                gi_wp2
                go_wp2_with fail
                rw [Exit.noGoto_ret]
                refine bodyPost_ret (results_none rfl _ _ _) rfl ?_
                exact ⟨⟨_, rfl⟩, .inl ⟨pre ++ [(⟨2, s.extract k j, ((k : Nat) : Int), 11⟩ : Fnd)], HEQ.out.symm, hJ3⟩⟩
              · gi_wp2
                go_wp2_with fail
                rw [Exit.noGoto_ret]
                refine bodyPost_ret (results_none rfl _ _ _) rfl ?_
                exact ⟨⟨_, rfl⟩, .inr ⟨pre ++ [(⟨2, s.extract k j, ((k : Nat) : Int), 11⟩ : Fnd)], by rw [HEQ.out]; exact List.prefix_rfl, hJx3⟩⟩
            · have h7i : ¬ ((j : Int) - (k : Int)) > 7 := by omega
              by_cases c3 : clsAt s j = 3
              · have HEQ := Lib.hid (show lexF s = pre ++ [(⟨2, s.extract k j, ((k : Nat) : Int), 11⟩ : Fnd)] by rw [HL3.out, if_pos (.inr (.inl c3))]; rfl)
                have HCJ := Lib.hid c3
                clear c3 n4 b4
                go_upto_region 23 with (go_at_call 119; refine (at_any s j bt bc _ (HT.out _ (HG.out _ (HF11.out).b)) (HC.out _ (HG.out _ (HF11.out).b)) (by omega) (by omega)).mono ?_; rintro e w2 ⟨rfl, hw2⟩; obtain rfl := hw2.symm; rw [HCJ.out])
                have HFE := Lib.hid ((HF11.out).err 11)
                obtain ⟨VE, hVE⟩ : ∃ V, V = (V11.setCell ⟨wr.heap.size, 3, none⟩ (.int .i64 11)) := ⟨_, rfl⟩
                go_upto_region 33 with fail
                rw [← hVE] at HFE ⊢
                clear hVE
                obtain ⟨pE, qE⟩ := HFE.out.f.facts
                obtain ⟨fn, tmps, assign, body, hy, hR⟩ := HY.out pre (⟨2, s.extract k j, ((k : Nat) : Int), 11⟩ : Fnd) VE (HJ.out _ _ _ HP.out (HFE.out).b) (len_lt HEQ.out hN)
                dsimp only [fndV] at hy
                refine (wpIn_wide (n := m + 1)).1 ?_
                have hm1 : 1 ≤ m + 1 := Nat.succ_pos m
                gi_wp2
                refine hR.mono ?_
                rintro e W3 (⟨rfl, hJ3, hk3⟩ | ⟨rfl, hJx3⟩)
                · have HF33 := Lib.hid (hk3 _ _ _ (.inl rfl) (HFE.out).f)
                  have HB3 := Lib.hid ((HG.out _ (HFE.out).b).keeps hk3)
                  obtain ⟨p33, q33⟩ := HF33.out.facts
                  gi_wp2
                  go_wp2_with fail
                  rw [Exit.noGoto_ret]
                  refine bodyPost_ret (results_none rfl _ _ _) rfl ?_
                  exact ⟨⟨_, rfl⟩, .inl ⟨pre ++ [(⟨2, s.extract k j, ((k : Nat) : Int), 11⟩ : Fnd)], HEQ.out.symm, hJ3⟩⟩
                · gi_wp2
                  go_wp2_with fail
                  rw [Exit.noGoto_ret]
                  refine bodyPost_ret (results_none rfl _ _ _) rfl ?_
                  exact ⟨⟨_, rfl⟩, .inr ⟨pre ++ [(⟨2, s.extract k j, ((k : Nat) : Int), 11⟩ : Fnd)], by rw [HEQ.out]; exact List.prefix_rfl, hJx3⟩⟩
              · by_cases c5 : clsAt s j = 5
                · have HEQ := Lib.hid (show lexF s = pre ++ [(⟨2, s.extract k j, ((k : Nat) : Int), 11⟩ : Fnd)] by rw [HL3.out, if_pos (.inr (.inr c5))]; rfl)
                  have HCJ := Lib.hid c5
                  clear c3 c5 n4 b4
                  go_upto_region 23 with (go_at_call 119; refine (at_any s j bt bc _ (HT.out _ (HG.out _ (HF11.out).b)) (HC.out _ (HG.out _ (HF11.out).b)) (by omega) (by omega)).mono ?_; rintro e w2 ⟨rfl, hw2⟩; obtain rfl := hw2.symm; rw [HCJ.out])
                  have HFE := Lib.hid ((HF11.out).err 11)
                  obtain ⟨VE, hVE⟩ : ∃ V, V = (V11.setCell ⟨wr.heap.size, 3, none⟩ (.int .i64 11)) := ⟨_, rfl⟩
                  go_upto_region 33 with fail
                  rw [← hVE] at HFE ⊢
                  clear hVE
                  obtain ⟨pE, qE⟩ := HFE.out.f.facts
                  obtain ⟨fn, tmps, assign, body, hy, hR⟩ := HY.out pre (⟨2, s.extract k j, ((k : Nat) : Int), 11⟩ : Fnd) VE (HJ.out _ _ _ HP.out (HFE.out).b) (len_lt HEQ.out hN)
                  dsimp only [fndV] at hy
                  refine (wpIn_wide (n := m + 1)).1 ?_
                  have hm1 : 1 ≤ m + 1 := Nat.succ_pos m
                  gi_wp2
                  refine hR.mono ?_
                  rintro e W3 (⟨rfl, hJ3, hk3⟩ | ⟨rfl, hJx3⟩)
                  · have HF33 := Lib.hid (hk3 _ _ _ (.inl rfl) (HFE.out).f)
                    have HB3 := Lib.hid ((HG.out _ (HFE.out).b).keeps hk3)
                    obtain ⟨p33, q33⟩ := HF33.out.facts
                    gi_wp2
                    go_wp2_with fail
                    rw [Exit.noGoto_ret]
                    refine bodyPost_ret (results_none rfl _ _ _) rfl ?_
                    exact ⟨⟨_, rfl⟩, .inl ⟨pre ++ [(⟨2, s.extract k j, ((k : Nat) : Int), 11⟩ : Fnd)], HEQ.out.symm, hJ3⟩⟩
                  · gi_wp2
                    go_wp2_with fail
                    rw [Exit.noGoto_ret]
                    refine bodyPost_ret (results_none rfl _ _ _) rfl ?_
                    exact ⟨⟨_, rfl⟩, .inr ⟨pre ++ [(⟨2, s.extract k j, ((k : Nat) : Int), 11⟩ : Fnd)], by rw [HEQ.out]; exact List.prefix_rfl, hJx3⟩⟩
                · have HEQ := Lib.hid (show lexF s = pre ++ ((⟨2, s.extract k j, ((k : Nat) : Int), 0⟩ : Fnd) :: lexGo s n j) by rw [HL3.out, if_neg (fun h => by rcases h with h | h | h; exact h7 h; exact c3 h; exact c5 h)]; rfl)
                  have b3 : (((clsAt s j : Nat) : Int) == 3) = false := by rw [beq_eq_false_iff_ne]; omega
                  have b5 : (((clsAt s j : Nat) : Int) == 5) = false := by rw [beq_eq_false_iff_ne]; omega
                  go_upto_region 23 with (go_at_call 119; refine (at_any s j bt bc _ (HT.out _ (HG.out _ (HF11.out).b)) (HC.out _ (HG.out _ (HF11.out).b)) (by omega) (by omega)).mono ?_; rintro e w2 ⟨rfl, hw2⟩; obtain rfl := hw2.symm; rw [show clsAt s j = clsAt s j from rfl])
                  go_upto_region 33 with fail
                  obtain ⟨fn, tmps, assign, body, hy, hR⟩ := HY.out pre (⟨2, s.extract k j, ((k : Nat) : Int), 0⟩ : Fnd) V11 (HJ.out _ _ _ HP.out (HF11.out).b) (len_lt HEQ.out hN)
                  dsimp only [fndV] at hy
                  refine (wpIn_wide (n := m + 1)).1 ?_
                  have hm1 : 1 ≤ m + 1 := Nat.succ_pos m
                  gi_wp2
                  refine hR.mono ?_
                  rintro e W3 (⟨rfl, hJ3, hk3⟩ | ⟨rfl, hJx3⟩)
                  · have HF33 := Lib.hid (hk3 _ _ _ (.inl rfl) (HF11.out).f)
                    have HB3 := Lib.hid ((HG.out _ (HF11.out).b).keeps hk3)
                    obtain ⟨p33, q33⟩ := HF33.out.facts
                    gi_wp2
                    go_wp2_with fail
                    go_roundw
                    case rel => exact ⟨j, n, pre ++ [(⟨2, s.extract k j, ((k : Nat) : Int), 0⟩ : Fnd)], by go_num, (by show lexF s = (pre ++ [(⟨2, s.extract k j, ((k : Nat) : Int), 0⟩ : Fnd)]) ++ lexGo s n (j); rw [HEQ.out, List.append_assoc]; rfl), by omega, by omega, hJ3, HB3.out⟩
                    case measure => simp [intOf]; omega
                  · gi_wp2
                    go_wp2_with fail
                    rw [Exit.noGoto_ret]
                    refine bodyPost_ret (results_none rfl _ _ _) rfl ?_
                    exact ⟨⟨_, rfl⟩, .inr ⟨pre ++ [(⟨2, s.extract k j, ((k : Nat) : Int), 0⟩ : Fnd)], by rw [HEQ.out]; exact ⟨lexGo s n (j), by simp⟩, hJx3⟩⟩
          · have HN := Lib.hid (upto_next HH.out hw)
            have e : clsAt s j = 4 := by unfold digP at hw; simpa [beq_iff_eq] using hw
            have hjl : j < s.size := by
              rcases Nat.lt_or_ge j s.size with h | h
              · exact h
              · have e0 : clsAt s j = 0 := by unfold clsAt; rw [if_neg (by omega)]
                rw [e0] at e; cases e
            have HEJ := Lib.hid e
            clear e hw
            go_wp2_with (go_at_call 119; refine (at_any s j bt bc _ (HT.out _ (HG.out _ (HF0.out).b)) (HC.out _ (HG.out _ (HF0.out).b)) (by omega) (by omega)).mono ?_; rintro e w2 ⟨rfl, hw2⟩; obtain rfl := hw2.symm; rw [HEJ.out])
            go_roundw
            case rel => exact ⟨j + 1, by go_num, by omega, by omega, HN.out, trivial⟩
            case measure => simp [intOf]; omega
      · have HEQ := Lib.hid (show lexF s = pre ++ [(⟨0, ⟨#[]⟩, ((k : Nat) : Int), 10⟩ : Fnd)] from HL2.out)
        go_upto_region 33 with (go_at_call 119; refine (at_any s k bt bc _ (HT.out _ (HG.out _ (HF0.out).b)) (HC.out _ (HG.out _ (HF0.out).b)) (by omega) (by omega)).mono ?_; rintro e w2 ⟨rfl, hw2⟩; obtain rfl := hw2.symm; rw [HCL.out])
        obtain ⟨fn, tmps, assign, body, hy, hR⟩ := HY.out pre (⟨0, ⟨#[]⟩, ((k : Nat) : Int), 10⟩ : Fnd) V1 (HJ.out _ _ _ HP.out (HF0.out).b) (len_lt HEQ.out hN)
        dsimp only [fndV] at hy
        refine (wpIn_wide (n := m + 1)).1 ?_
        have hm1 : 1 ≤ m + 1 := Nat.succ_pos m
        gi_wp2
        refine hR.mono ?_
        rintro e W3 (⟨rfl, hJ3, hk3⟩ | ⟨rfl, hJx3⟩)
        · have HF33 := Lib.hid (hk3 _ _ _ (.inl rfl) (HF0.out).f)
          have HB3 := Lib.hid ((HG.out _ (HF0.out).b).keeps hk3)
          obtain ⟨p33, q33⟩ := HF33.out.facts
          gi_wp2
          go_wp2_with fail
          rw [Exit.noGoto_ret]
          refine bodyPost_ret (results_none rfl _ _ _) rfl ?_
          exact ⟨⟨_, rfl⟩, .inl ⟨pre ++ [(⟨0, ⟨#[]⟩, ((k : Nat) : Int), 10⟩ : Fnd)], HEQ.out.symm, hJ3⟩⟩
        · gi_wp2
          go_wp2_with fail
          rw [Exit.noGoto_ret]
          refine bodyPost_ret (results_none rfl _ _ _) rfl ?_
          exact ⟨⟨_, rfl⟩, .inr ⟨pre ++ [(⟨0, ⟨#[]⟩, ((k : Nat) : Int), 10⟩ : Fnd)], by rw [HEQ.out]; exact List.prefix_rfl, hJx3⟩⟩
      · have HEQ := Lib.hid (show lexF s = pre ++ ((⟨4, s.extract k (k + 1), ((k : Nat) : Int), 0⟩ : Fnd) :: lexGo s n (k + 1)) from HL2.out)
        have hk1i : (k : Int) ≤ (k : Int) + 1 := by omega
        have hk2i : (k : Int) + 1 ≤ (s.size : Int) := by omega
        go_wp2_with (go_at_call 119; refine (at_any s k bt bc _ (HT.out _ (HG.out _ (HF0.out).b)) (HC.out _ (HG.out _ (HF0.out).b)) (by omega) (by omega)).mono ?_; rintro e w2 ⟨rfl, hw2⟩; obtain rfl := hw2.symm; rw [HCL.out])
        refine wp_region_held_drew (S := fun V => V.cell? ⟨bt, 0, none⟩ = some (.string s)) (by kernel_rfl) ((HT.out _ (HG.out _ (HF0.out).b)).facts.1 0) (fun hHeld => ?_)
        refine plI [(0, false), (1, false), (2, false), (3, false), (4, false), (5, false)] ?_
        repeat ((first | ((with_reducible show Plan ((_, true) :: _) _); refine plF ?_) | (refine plR (v := ?_) ?_ ?_; rotate_left; focus (intro W hSW; (try dsimp only at hSW); go_simp; all_goals (with_reducible rfl)))); try simp only [Act.put, List.setIfInBounds_toArray, List.set_cons_zero, List.set_cons_succ])
        refine plE ?_
        refine wpAnyH_ready (rs := [6]) (by kernel_rfl) (by simp) ?_
        refine AllReadyH.cons (o := ⟨_, _, _, _, _, _⟩) rfl (fun K hK => ?_) AllReadyH.nil
        go_simp
        have HF6 := Lib.hid (((HF0.out).kind 4).drew)
        obtain ⟨V6, hV6⟩ : ∃ V, V = (V1.setCell ⟨wr.heap.size, 0, none⟩ (.int .i64 4)).drew := ⟨_, rfl⟩
        rw [← hV6] at HF6 ⊢
        clear hV6
        obtain ⟨p6, q6⟩ := HF6.out.f.facts
        refine hK.out _ _ ((HT.out _ (HG.out _ HF6.out.b)).facts.1 0) (fun hHeld => ?_)
        clear hK K
        try simp only [Act.put]
        refine plI [(7, false), (8, false)] ?_
        repeat ((first | ((with_reducible show Plan ((_, true) :: _) _); refine plF ?_) | (refine plR (v := ?_) ?_ ?_; rotate_left; focus (intro W hSW; (try dsimp only at hSW); go_simp; all_goals (with_reducible rfl)))); try simp only [Act.put, List.setIfInBounds_toArray, List.set_cons_zero, List.set_cons_succ])
        refine plE ?_
        refine wpAnyH_ready (rs := [9]) (by kernel_rfl) (by simp) ?_
        refine AllReadyH.cons (o := ⟨_, _, _, _, _, _⟩) rfl (fun K hK => ?_) AllReadyH.nil
        go_simp
        have HF9 := Lib.hid ((HF6.out).text (s.extract k (k + 1)))
        obtain ⟨V9, hV9⟩ : ∃ V, V = V6.setCell ⟨wr.heap.size, 1, none⟩ (.string (s.extract k (k + 1))) := ⟨_, rfl⟩
        rw [← hV9] at HF9 ⊢
        clear hV9
        obtain ⟨p9, q9⟩ := HF9.out.f.facts
        refine hK.out _ _ ((HT.out _ (HG.out _ HF9.out.b)).facts.1 0) (fun hHeld => ?_)
        clear hK K
        try simp only [Act.put]
        refine plI [(10, false)] ?_
        repeat ((first | ((with_reducible show Plan ((_, true) :: _) _); refine plF ?_) | (refine plR (v := ?_) ?_ ?_; rotate_left; focus (intro W hSW; (try dsimp only at hSW); go_simp; all_goals (with_reducible rfl)))); try simp only [Act.put, List.setIfInBounds_toArray, List.set_cons_zero, List.set_cons_succ])
        refine plE ?_
        refine wpAnyH_ready (rs := [11]) (by kernel_rfl) (by simp) ?_
        refine AllReadyH.cons (o := ⟨_, _, _, _, _, _⟩) rfl (fun K hK => ?_) AllReadyH.nil
        go_simp
        have HF11 := Lib.hid ((HF9.out).err 0)
        obtain ⟨V11, hV11⟩ : ∃ V, V = V9.setCell ⟨wr.heap.size, 3, none⟩ (.int .i64 0) := ⟨_, rfl⟩
        rw [← hV11] at HF11 ⊢
        clear hV11
        obtain ⟨p11, q11⟩ := HF11.out.f.facts
        refine hK.out _ _ ((HT.out _ (HG.out _ HF11.out.b)).facts.1 0) (fun hHeld => ?_)
        clear hK K
        try simp only [Act.put]
        refine wpAnyH_done (by kernel_rfl) ?_ _
        clear hHeld
        go_upto_region 33 with fail
        obtain ⟨fn, tmps, assign, body, hy, hR⟩ := HY.out pre (⟨4, s.extract k (k + 1), ((k : Nat) : Int), 0⟩ : Fnd) V11 (HJ.out _ _ _ HP.out (HF11.out).b) (len_lt HEQ.out hN)
        dsimp only [fndV] at hy
        refine (wpIn_wide (n := m + 1)).1 ?_
        have hm1 : 1 ≤ m + 1 := Nat.succ_pos m
        gi_wp2
        refine hR.mono ?_
        rintro e W3 (⟨rfl, hJ3, hk3⟩ | ⟨rfl, hJx3⟩)
        · have HF33 := Lib.hid (hk3 _ _ _ (.inl rfl) (HF11.out).f)
          have HB3 := Lib.hid ((HG.out _ (HF11.out).b).keeps hk3)
          obtain ⟨p33, q33⟩ := HF33.out.facts
          gi_wp2
          go_wp2_with fail
          go_roundw
          case rel => exact ⟨k + 1, n, pre ++ [(⟨4, s.extract k (k + 1), ((k : Nat) : Int), 0⟩ : Fnd)], by go_num, (by show lexF s = (pre ++ [(⟨4, s.extract k (k + 1), ((k : Nat) : Int), 0⟩ : Fnd)]) ++ lexGo s n (k + 1); rw [HEQ.out, List.append_assoc]; rfl), by omega, by omega, hJ3, HB3.out⟩
          case measure => simp [intOf]; omega
        · gi_wp2
          go_wp2_with fail
          rw [Exit.noGoto_ret]
          refine bodyPost_ret (results_none rfl _ _ _) rfl ?_
          exact ⟨⟨_, rfl⟩, .inr ⟨pre ++ [(⟨4, s.extract k (k + 1), ((k : Nat) : Int), 0⟩ : Fnd)], by rw [HEQ.out]; exact ⟨lexGo s n (k + 1), by simp⟩, hJx3⟩⟩
      · have hksi : (k : Int) ≤ (s.size : Int) := by omega
        cases hu : unqL (cut s k s.size) with
        | none =>
          have HEQ := Lib.hid (show lexF s = pre ++ [(⟨0, ⟨#[]⟩, ((k : Nat) : Int), 10⟩ : Fnd)] by rw [HL2.out]; show pre ++ (match unqL (cut s k s.size) with | none => _ | some (t, m) => _) = _; rw [hu])
          have HU := Lib.hid (show unqV (s.extract k s.size) = (⟨#[]⟩, 0) from unqV_none hu)
          clear HL2 hu
          go_upto_region 33 with (first | (go_at_call 119; refine (at_any s k bt bc _ (HT.out _ (HG.out _ (HF0.out).b)) (HC.out _ (HG.out _ (HF0.out).b)) (by omega) (by omega)).mono ?_; rintro e w2 ⟨rfl, hw2⟩; obtain rfl := hw2.symm; rw [HCL.out]) | (go_at_call 121; refine (unquoted_any (s.extract k s.size) _ (by rw [size_cut]; omega)).mono ?_; rintro e w3 ⟨rfl, hb3⟩; rw [HU.out]; have HF3 := Lib.hid (HF0.out.below hb3); obtain ⟨p3, q3⟩ := HF3.out.f.facts; clear hb3))
          obtain ⟨fn, tmps, assign, body, hy, hR⟩ := HY.out pre (⟨0, ⟨#[]⟩, ((k : Nat) : Int), 10⟩ : Fnd) w3 (HJ.out _ _ _ HP.out (HF3.out).b) (len_lt HEQ.out hN)
          dsimp only [fndV] at hy
          refine (wpIn_wide (n := m + 1)).1 ?_
          have hm1 : 1 ≤ m + 1 := Nat.succ_pos m
          gi_wp2
          refine hR.mono ?_
          rintro e W3 (⟨rfl, hJ3, hk3⟩ | ⟨rfl, hJx3⟩)
          · have HF33 := Lib.hid (hk3 _ _ _ (.inl rfl) (HF3.out).f)
            have HB3 := Lib.hid ((HG.out _ (HF3.out).b).keeps hk3)
            obtain ⟨p33, q33⟩ := HF33.out.facts
            gi_wp2
            go_wp2_with fail
            rw [Exit.noGoto_ret]
            refine bodyPost_ret (results_none rfl _ _ _) rfl ?_
            exact ⟨⟨_, rfl⟩, .inl ⟨pre ++ [(⟨0, ⟨#[]⟩, ((k : Nat) : Int), 10⟩ : Fnd)], HEQ.out.symm, hJ3⟩⟩
          · gi_wp2
            go_wp2_with fail
            rw [Exit.noGoto_ret]
            refine bodyPost_ret (results_none rfl _ _ _) rfl ?_
            exact ⟨⟨_, rfl⟩, .inr ⟨pre ++ [(⟨0, ⟨#[]⟩, ((k : Nat) : Int), 10⟩ : Fnd)], by rw [HEQ.out]; exact List.prefix_rfl, hJx3⟩⟩
        | some lm =>
          obtain ⟨lq, mq⟩ := lm
          have HEQ := Lib.hid (show lexF s = pre ++ ((⟨3, ⟨lq.toArray⟩, ((k : Nat) : Int), 0⟩ : Fnd) :: lexGo s n (k + mq)) by rw [HL2.out]; show pre ++ (match unqL (cut s k s.size) with | none => _ | some (t, m) => _) = _; rw [hu])
          have HU := Lib.hid (show unqV (s.extract k s.size) = (⟨lq.toArray⟩, mq) from unqV_some hu)
          obtain ⟨hm0, hm1⟩ := unqGo_pos _ _ _ _ _ hu
          have hm2 : k + mq ≤ s.size := by rw [show (cut s k s.size).size = s.size - k from size_cut s k] at hm1; omega
          have hmi : (0 : Int) < (mq : Int) := by omega
          clear HL2 hu hm1
          go_upto_region 28 with (first | (go_at_call 119; refine (at_any s k bt bc _ (HT.out _ (HG.out _ (HF0.out).b)) (HC.out _ (HG.out _ (HF0.out).b)) (by omega) (by omega)).mono ?_; rintro e w2 ⟨rfl, hw2⟩; obtain rfl := hw2.symm; rw [HCL.out]) | (go_at_call 121; refine (unquoted_any (s.extract k s.size) _ (by rw [size_cut]; omega)).mono ?_; rintro e w3 ⟨rfl, hb3⟩; rw [HU.out]; have HF3 := Lib.hid (HF0.out.below hb3); obtain ⟨p3, q3⟩ := HF3.out.f.facts; clear hb3))
          have HFE := Lib.hid ((((HF3.out).kind 3).text ⟨lq.toArray⟩).err 0)
          obtain ⟨VE, hVE⟩ : ∃ V, V = (((w3.setCell ⟨wr.heap.size, 0, none⟩ (.int .i64 3)).setCell ⟨wr.heap.size, 1, none⟩ (.string ⟨lq.toArray⟩)).setCell ⟨wr.heap.size, 3, none⟩ (.int .i64 0)) := ⟨_, rfl⟩
          go_upto_region 33 with fail
          rw [← hVE] at HFE ⊢
          clear hVE
          obtain ⟨pE, qE⟩ := HFE.out.f.facts
          obtain ⟨fn, tmps, assign, body, hy, hR⟩ := HY.out pre (⟨3, ⟨lq.toArray⟩, ((k : Nat) : Int), 0⟩ : Fnd) VE (HJ.out _ _ _ HP.out (HFE.out).b) (len_lt HEQ.out hN)
          dsimp only [fndV] at hy
          refine (wpIn_wide (n := m + 1)).1 ?_
          have hm1 : 1 ≤ m + 1 := Nat.succ_pos m
          gi_wp2
          refine hR.mono ?_
          rintro e W3 (⟨rfl, hJ3, hk3⟩ | ⟨rfl, hJx3⟩)
          · have HF33 := Lib.hid (hk3 _ _ _ (.inl rfl) (HFE.out).f)
            have HB3 := Lib.hid ((HG.out _ (HFE.out).b).keeps hk3)
            obtain ⟨p33, q33⟩ := HF33.out.facts
            gi_wp2
            go_wp2_with fail
            go_roundw
            case rel => exact ⟨k + mq, n, pre ++ [(⟨3, ⟨lq.toArray⟩, ((k : Nat) : Int), 0⟩ : Fnd)], by go_num, (by show lexF s = (pre ++ [(⟨3, ⟨lq.toArray⟩, ((k : Nat) : Int), 0⟩ : Fnd)]) ++ lexGo s n (k + mq); rw [HEQ.out, List.append_assoc]; rfl), by omega, by omega, hJ3, HB3.out⟩
            case measure => simp [intOf]; omega
          · gi_wp2
            go_wp2_with fail
            rw [Exit.noGoto_ret]
            refine bodyPost_ret (results_none rfl _ _ _) rfl ?_
            exact ⟨⟨_, rfl⟩, .inr ⟨pre ++ [(⟨3, ⟨lq.toArray⟩, ((k : Nat) : Int), 0⟩ : Fnd)], by rw [HEQ.out]; exact ⟨lexGo s n (k + mq), by simp⟩, hJx3⟩⟩
      · have HEQ := Lib.hid (show lexF s = pre ++ [(⟨0, ⟨#[]⟩, ((k : Nat) : Int), 10⟩ : Fnd)] from HL2.out)
        go_upto_region 33 with (go_at_call 119; refine (at_any s k bt bc _ (HT.out _ (HG.out _ (HF0.out).b)) (HC.out _ (HG.out _ (HF0.out).b)) (by omega) (by omega)).mono ?_; rintro e w2 ⟨rfl, hw2⟩; obtain rfl := hw2.symm; rw [HCL.out])
        obtain ⟨fn, tmps, assign, body, hy, hR⟩ := HY.out pre (⟨0, ⟨#[]⟩, ((k : Nat) : Int), 10⟩ : Fnd) V1 (HJ.out _ _ _ HP.out (HF0.out).b) (len_lt HEQ.out hN)
        dsimp only [fndV] at hy
        refine (wpIn_wide (n := m + 1)).1 ?_
        have hm1 : 1 ≤ m + 1 := Nat.succ_pos m
        gi_wp2
        refine hR.mono ?_
        rintro e W3 (⟨rfl, hJ3, hk3⟩ | ⟨rfl, hJx3⟩)
        · have HF33 := Lib.hid (hk3 _ _ _ (.inl rfl) (HF0.out).f)
          have HB3 := Lib.hid ((HG.out _ (HF0.out).b).keeps hk3)
          obtain ⟨p33, q33⟩ := HF33.out.facts
          gi_wp2
          go_wp2_with fail
          rw [Exit.noGoto_ret]
          refine bodyPost_ret (results_none rfl _ _ _) rfl ?_
          exact ⟨⟨_, rfl⟩, .inl ⟨pre ++ [(⟨0, ⟨#[]⟩, ((k : Nat) : Int), 10⟩ : Fnd)], HEQ.out.symm, hJ3⟩⟩
        · gi_wp2
          go_wp2_with fail
          rw [Exit.noGoto_ret]
          refine bodyPost_ret (results_none rfl _ _ _) rfl ?_
          exact ⟨⟨_, rfl⟩, .inr ⟨pre ++ [(⟨0, ⟨#[]⟩, ((k : Nat) : Int), 10⟩ : Fnd)], by rw [HEQ.out]; exact List.prefix_rfl, hJx3⟩⟩
    · have hki : ¬ (k : Int) < (s.size : Int) := by omega
      have HE := Lib.hid (show lexF s = pre by
        rw [HL.out]
        cases n with
        | zero => exact List.append_nil _
        | succ n => rw [lexGo_succ, if_pos (by omega), List.append_nil])
      go_wp2_with fail
      go_end0
      exact ⟨⟨_, rfl⟩, .inl ⟨pre, HE.out.symm, HP.out⟩⟩
end Go.Proofs.YtcpakaiblelmlaaGreatDoor
