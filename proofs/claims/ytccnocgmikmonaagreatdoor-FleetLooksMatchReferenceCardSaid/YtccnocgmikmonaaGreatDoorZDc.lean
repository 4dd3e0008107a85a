/- A call that leaves the world, in a region that draws its order: it may be taken first. No condition. bogieref01.mix, digits, Decimal: what they return. No condition but that the numbers fit. bogieref01.Sum: what it returns. No condition but that the text fits a machine. bogieref01.Joined, List: what they return. Condition: the joined text is not too long. bogieref10.Fields, Digest: what they return. Condition: the fields are not too many, nor too long. -/
import Derived.Lib.ItoaLen
import Derived.Lib.ItoaMem
import Derived.Test.YtccnocgmikmonaaGreatDoorZDa
import Derived.Test.YtccnocgmikmonaaGreatDoorZDb
namespace Go.Proofs.YtccnocgmikmonaaGreatDoor
open Go
section
variable {P : Program} {ops : Array Oper} {md : Region.Mode} {Q : Exit → Act → World → Prop} {S : World → Prop}
/-- What an operation leaves of a state is that state with a temporary written, or with a deferred call more. -/
theorem wpOp_frame {T : Act → Prop} {j : Nat} {oj : Oper} (hj : ops[j]? = some oj) (keep : ∀ a, T a → ∀ u, T (a.put oj.dst u)) (keepD : ∀ a d, T a → T { a with defers := d :: a.defers })
    {K : Act → World → Prop} {a : Act} {w : World} (hT : T a) (h : wpOp P ops Q j K a w) : wpOp P ops Q j (fun a' w' => T a' ∧ K a' w') a w := by
  unfold wpOp at h ⊢
  simp only [hj] at h ⊢
  split
  · rename_i hw
    simp only [hw, if_true] at h
    rcases h with h | h
    · refine .inl ?_
      unfold Oper.wp at h ⊢
      generalize (execOp a.eval oj).run P w = r at h ⊢
      rcases r with ⟨n, w'⟩ | ⟨x, w'⟩
      · cases n <;> simp only [Oper.upon] at h ⊢
        case value u => exact ⟨keep a hT u, h⟩
        case skip => exact ⟨keep a hT _, h⟩
        case defer d => exact ⟨keep _ (keepD a d hT) _, h⟩
        case enter f args =>
          refine Calls.mono h fun e w'' he => ?_
          cases e <;> first | exact ⟨keep a hT _, he⟩ | exact he
        case row row args => exact Rows.mono h fun u w'' he => ⟨keep a hT u, he⟩
      · cases x <;> simp only [Oper.upon] at h ⊢
        all_goals exact h
    · exact .inr h
  · rename_i hw
    simp only [hw] at h
    exact ⟨keep a hT _, h⟩
/-- A call that in every world that meets S answers v and leaves the world. -/
def CallsIf (P : Program) (ops : Array Oper) (S : World → Prop) (o : Oper) (v : Value) (a : Act) : Prop :=
  Region.wanted o (yielded ops a.tmps) = true ∧ ∃ f args, (∀ w, (execOp a.eval o).run P w = .ok (.enter f args) w) ∧ ∀ w, S w → Calls P f args w fun e w' => e = .returned v ∧ w' = w
theorem CallsIf.step {i : Nat} {o : Oper} {v : Value} {a : Act} (hi : ops[i]? = some o) (h : CallsIf P ops S o v a) {K : Act → World → Prop} {w : World} (hS : S w) (hK : K (a.put o.dst v) w) : wpOp P ops Q i K a w := by
  obtain ⟨hw, f, args, hr, hc⟩ := h
  unfold wpOp
  simp only [hi, hw, if_true]
  refine .inl ?_
  unfold Oper.wp
  rw [hr w]
  simp only [Oper.upon]
  refine (hc w hS).mono ?_
  rintro e w' ⟨rfl, rfl⟩
  exact hK
theorem quiet_first {i : Nat} {oi : Oper} {v : Value} (hi : ops[i]? = some oi) (hsel : ∀ (j : Nat) (o : Oper) cs b, ops[j]? = some o → o.op ≠ .select cs b) (hQ : ∀ c a w, Q (.panic c) (a.put oi.dst v) w → Q (.panic c) a w) :
    ∀ (fuel : Nat) (listed : Array Bool) (a : Act) (w : World),
      (∀ j oj, ops[j]? = some oj → j ≠ i → listed.getD j true = false → (∀ e ∈ oj.after, Region.binds md e = true → e.on ≠ i) → oi.apart ops oj = true) →
      i ∈ Region.ready md ops listed → CallsIf P ops S oi v a → S w →
      wpAnyH P md ops Q S fuel (listed.setIfInBounds i true) (a.put oi.dst v) w → wpAnyH P md ops Q S (fuel + 1) listed a w
  | 0, listed, a, w, _, hr, hy, hS, H => by
    refine ⟨fun h => absurd hr (by rw [h]; exact List.not_mem_nil), fun j hj => ?_⟩
    by_cases hji : j = i
    · exact hji ▸ hy.step hi hS ⟨hS, H⟩
    · have h0 := ready_mono hj hji
      rw [H.1] at h0
      cases h0
  | fuel + 1, listed, a, w, hfree, hr, hy, hS, H => by
    refine ⟨fun h => absurd hr (by rw [h]; exact List.not_mem_nil), fun j hj => ?_⟩
    by_cases hji : j = i
    · exact hji ▸ hy.step hi hS ⟨hS, H⟩
    obtain ⟨hun, oj, hoj, hall⟩ := mem_ready.1 hj
    have hun0 := (mem_ready.1 hr).1
    have hwait : ∀ e ∈ oj.after, Region.binds md e = true → e.on ≠ i := by
      rintro e he hb rfl
      have h1 := hall e he hb
      rcases Nat.lt_or_ge e.on listed.size with h' | h'
      · simp [h'] at hun0 h1; rw [hun0] at h1; cases h1
      · simp [Array.getElem?_eq_none h'] at h1
    have hap := hfree j oj hoj hji hun hwait
    obtain ⟨_, _, h3⟩ := Oper.apart_spec hap
    have hsi := fun cs b => hsel i oi cs b hi
    have h1 := wpOp_putIf (S := fun _ => False) hoj hap hsi (fun cs b => hsel j oj cs b hoj) hQ (.inl ⟨hy.1, fun _ h => h.elim⟩) (H.2 j (ready_mono hj hji))
    have h2 := wpOp_frame (T := CallsIf P ops S oi v) hoj (fun a hT u => by
      unfold CallsIf at hT ⊢
      rw [execOp_put oi hsi a oj.dst u h3, wanted_put oi a oj.dst u h3]
      exact hT) (fun a d hT => hT) hy h1
    refine wpOp_mono (fun a' w' h => ⟨h.2.2.1, quiet_first hi hsel hQ fuel (listed.setIfInBounds j true) a' w' ?_ (ready_mono hr (Ne.symm hji)) h.1 h.2.2.1 ?_⟩) h2
    · intro k ok hk hki hu hno
      refine hfree k ok hk hki ?_ hno
      by_cases hjk : j = k
      · exact hjk ▸ hun
      · rwa [getD_set_ne true hjk] at hu
    · rw [Array.setIfInBounds_comm _ _ hji]
      exact h.2.2.2
/-- As 'plR', for such a call. -/
theorem plC {i : Nat} {d : Option Tmp} {o : Op} {ty : TypeId} {ps : String} {af : Array Edge} {g : Option (Nat × Bool)} {v : Value} {fuel : Nat} {listed : Array Bool} {a : Act} {w : World} (f : FuncId) (args : Array Value)
    (hr : ∀ w, (execOp a.eval ⟨d, o, ty, ps, af, g⟩).run P w = .ok (.enter f args) w) (hc : ∀ w, S w → Calls P f args w fun e w' => e = .returned v ∧ w' = w)
    (h : wpAnyH P md ops Q S fuel (listed.setIfInBounds i true) (a.put d v) w)
    (hi : ops[i]? = some ⟨d, o, ty, ps, af, g⟩) (hs : Region.noSelect ops = true) (hf : Region.free md ops listed i = true) (hrd : (Region.ready md ops listed).contains i = true)
    (hQ : ∀ c a w, Q (.panic c) (a.put d v) w → Q (.panic c) a w) (hw : Region.wanted ⟨d, o, ty, ps, af, g⟩ (yielded ops a.tmps) = true) (hS : S w) :
    wpAnyH P md ops Q S (fuel + 1) listed a w :=
  quiet_first hi (Region.noSelect_spec hs) hQ fuel listed a w (Region.free_spec hi hf) (by simpa using hrd) ⟨hw, f, args, hr, hc⟩ hS h
end
end Go.Proofs.YtccnocgmikmonaaGreatDoor
namespace Go.Proofs.YtccnocgmikmonaaGreatDoor
open Go Go.RowKit
set_option maxRecDepth 100000 in
set_option maxHeartbeats 1000000 in
theorem refMix_any (x : Nat) (_hx : x < 18446744073709551616) (w : World) :
    Calls Tryz.prog 118 #[.int .u64 x] w fun e w' => e = .returned (.int .u64 (mixN x)) ∧ w = w' := by
  obtain ⟨a, ha⟩ : ∃ a, a = x * 6364136223846793005 % 18446744073709551616 := ⟨_, rfl⟩
  have hal : a < 18446744073709551616 := by rw [ha]; exact Nat.mod_lt _ (by decide)
  have h1 : IntKind.u64.wrap ((x : Int) * 6364136223846793005) = (a : Int) := by rw [IntKind.wrap_u64, ha]; omega
  have hb : bits .xor .u64 (a : Int) ((a : Int) / 8589934592) = ((a ^^^ a / 8589934592 : Nat) : Int) := xorShift_u64 a 8589934592 hal
  obtain ⟨b, hb0⟩ : ∃ b, b = a ^^^ a / 8589934592 := ⟨_, rfl⟩
  have hbl : b < 18446744073709551616 := by rw [hb0]; exact xor_lt hal (Nat.lt_of_le_of_lt (Nat.div_le_self _ _) hal)
  rw [← hb0] at hb
  obtain ⟨c, hc⟩ : ∃ c, c = b * 2685821657736338717 % 18446744073709551616 := ⟨_, rfl⟩
  have hcl : c < 18446744073709551616 := by rw [hc]; exact Nat.mod_lt _ (by decide)
  have h2 : IntKind.u64.wrap ((b : Int) * 2685821657736338717) = (c : Int) := by rw [IntKind.wrap_u64, hc]; omega
  have hd : bits .xor .u64 (c : Int) ((c : Int) / 134217728) = ((c ^^^ c / 134217728 : Nat) : Int) := xorShift_u64 c 134217728 hcl
  have HM := Lib.hid (show mixN x = c ^^^ c / 134217728 by unfold mixN; rw [hc, hb0, ha])
  rw [← HM.out] at hd
  clear ha hb0 hc
  go_enter Tryz.func118, Tryz.ntmps118
  go_wp2_with fail
  go_ret
  exact ⟨rfl, rfl⟩
theorem dig_cut (d : Nat) (h : d < 10) : (⟨#[48, 49, 50, 51, 52, 53, 54, 55, 56, 57]⟩ : ByteArray).extract d (d + 1) = ⟨#[UInt8.ofNat (48 + d)]⟩ := by
  rcases (by omega : d = 0 ∨ d = 1 ∨ d = 2 ∨ d = 3 ∨ d = 4 ∨ d = 5 ∨ d = 6 ∨ d = 7 ∨ d = 8 ∨ d = 9) with rfl | rfl | rfl | rfl | rfl | rfl | rfl | rfl | rfl | rfl <;> decide
theorem hex_cut (d : Nat) (h : d < 16) : (⟨#[48, 49, 50, 51, 52, 53, 54, 55, 56, 57, 97, 98, 99, 100, 101, 102]⟩ : ByteArray).extract d (d + 1) = ⟨#[UInt8.ofNat (hexN d)]⟩ := by
  rcases (by omega : d = 0 ∨ d = 1 ∨ d = 2 ∨ d = 3 ∨ d = 4 ∨ d = 5 ∨ d = 6 ∨ d = 7 ∨ d = 8 ∨ d = 9 ∨ d = 10 ∨ d = 11 ∨ d = 12 ∨ d = 13 ∨ d = 14 ∨ d = 15) with rfl | rfl | rfl | rfl | rfl | rfl | rfl | rfl | rfl | rfl | rfl | rfl | rfl | rfl | rfl | rfl <;> decide
theorem dec_step (m : Nat) (t : List UInt8) (h : 10 ≤ m) : Lib.decDigits m ++ t = Lib.decDigits (m / 10) ++ (UInt8.ofNat (48 + m % 10) :: t) := by
  rw [Lib.decDigits, dif_neg (by omega), List.append_assoc]; rfl
theorem dec_last (m : Nat) (h : m < 10) : Lib.decDigits m = [UInt8.ofNat (48 + m % 10)] := by
  rw [Lib.decDigits, dif_pos h, Nat.mod_eq_of_lt h]
theorem byte_app (b : UInt8) (t : List UInt8) : (⟨#[b]⟩ : ByteArray) ++ ⟨t.toArray⟩ = ⟨(b :: t).toArray⟩ := by
  apply ByteArray.ext
  rw [ByteArray.data_append]
  simp
/-- What is still to be written, and what has been. -/
def DigS (n m : Nat) (t : List UInt8) : Prop := m < 18446744073709551616 ∧ ((m = 0 ∧ t = Lib.decDigits n) ∨ (0 < m ∧ Lib.decDigits m ++ t = Lib.decDigits n))
theorem digS_len {n m : Nat} {t : List UInt8} (hn : n < 18446744073709551616) (h : DigS n m t) : t.length ≤ 20 := by
  have h1 := Lib.nDigits_le20 n hn
  rw [← Lib.decDigits_length] at h1
  obtain ⟨_, ⟨_, rfl⟩ | ⟨_, h2⟩⟩ := h
  · exact h1
  · rw [← h2, List.length_append] at h1; omega
theorem digS_start {n : Nat} (hn : n < 18446744073709551616) : DigS n (n / 10) [UInt8.ofNat (48 + n % 10)] := by
  refine ⟨by omega, ?_⟩
  by_cases h : n < 10
  · exact .inl ⟨by omega, (dec_last n h).symm⟩
  · exact .inr ⟨by omega, by have := dec_step n [] (by omega); simpa using this.symm⟩
theorem digS_step {n m : Nat} {t : List UInt8} (h : DigS n m t) (h0 : 0 < m) : DigS n (m / 10) (UInt8.ofNat (48 + m % 10) :: t) := by
  obtain ⟨h1, h2 | ⟨_, h3⟩⟩ := h
  · omega
  · refine ⟨by omega, ?_⟩
    by_cases h : m < 10
    · exact .inl ⟨by omega, by rw [← h3, dec_last m h]; rfl⟩
    · exact .inr ⟨by omega, by rw [← h3, dec_step m t (by omega)]⟩
set_option maxRecDepth 100000 in
set_option maxHeartbeats 2000000 in
theorem refDigits_any (n : Nat) (hn : n < 18446744073709551616) (w : World) :
    Calls Tryz.prog 81 #[.int .u64 n] w fun e w' => e = .returned (.string ⟨(Lib.decDigits n).toArray⟩) ∧ w = w' := by
  go_enter Tryz.func81, Tryz.ntmps81
  go_wp2_with fail
  go_loop [0, 3] (fun x s => ∃ (m : Nat) (t : List UInt8), x = .int .u64 (m : Int) ∧ s = .string ⟨t.toArray⟩ ∧ Hid (DigS n m t)) (fun x _ => (intOf x).toNat)
  case atStart => exact ⟨n / 10, _, (by rw [Int.natCast_ediv]; rfl), (by rw [dig_cut _ (Nat.mod_lt _ (by decide))]), digS_start hn⟩
  case round =>
    obtain ⟨m, t, rfl, rfl, HD⟩ := hrel
    by_cases h0 : 0 < m
    · have h0i : (0 : Int) < (m : Int) := by omega
      have hcut := dig_cut (m % 10) (Nat.mod_lt _ (by decide))
      have hw : IntKind.u64.wrap ((m : Int) / 10) = ((m / 10 : Nat) : Int) := by have := HD.out.1; rw [IntKind.wrap_u64]; omega
      have htl : t.length ≤ 20 := digS_len hn HD.out
      have hsz9 : ¬ 9223372036854775807 < 1 + t.length := by omega
      have HTL := Lib.hid htl
      clear htl
      have HS := Lib.hid (digS_step HD.out h0)
      go_wp2_with fail
      go_round
      case rel => exact ⟨m / 10, UInt8.ofNat (48 + m % 10) :: t, by rw [Int.natCast_ediv]; rfl, by rw [byte_app, UInt8.ofNat_add]; rfl, HS.out⟩
      case measure => simp [intOf]; omega
    · obtain rfl : m = 0 := by omega
      have HT : Hid (t = Lib.decDigits n) := by
        obtain ⟨_, ⟨_, h⟩ | ⟨h, _⟩⟩ := HD.out
        · exact h
        · omega
      have e := HT.out
      subst e
      clear HT HD
      go_wp2_with fail
      go_ret
      exact ⟨rfl, rfl⟩
set_option maxRecDepth 100000 in
set_option maxHeartbeats 2000000 in
theorem refDecimal_any (n : Int) (h0 : -9223372036854775808 ≤ n) (h1 : n ≤ 9223372036854775807) (w : World) :
    Calls Tryz.prog 45 #[.int .i64 n] w fun e w' => e = .returned (.string (itoaB n)) ∧ w = w' := by
  by_cases hn : n < 0
  · obtain ⟨m, hm⟩ : ∃ m : Nat, n = -(m : Int) := ⟨n.natAbs, by omega⟩
    have hm0 : 1 ≤ m := by omega
    have hml : m < 18446744073709551616 := by omega
    have HD := Lib.hid (refDigits_any m hml w)
    have hw1 : IntKind.i64.wrap (n + 1) = n + 1 := by rw [IntKind.wrap_i64]; omega
    have hw2 : IntKind.i64.wrap (-(n + 1)) = ((m - 1 : Nat) : Int) := by rw [IntKind.wrap_i64]; omega
    have hw3 : IntKind.u64.wrap ((m - 1 : Nat) : Int) = ((m - 1 : Nat) : Int) := by rw [IntKind.wrap_u64]; omega
    have hw4 : IntKind.u64.wrap (((m - 1 : Nat) : Int) + 1) = (m : Int) := by rw [IntKind.wrap_u64]; omega
    have HE : Hid ((⟨#[45]⟩ : ByteArray) ++ ⟨(Lib.decDigits m).toArray⟩ = itoaB n) := by
      show _ = _
      rw [byte_app, hm]
      unfold itoaB
      rw [Lib.itoa_neg m hm0]
    have hsz : ¬ 9223372036854775807 < 1 + (Lib.decDigits m).length := by
      have := Lib.nDigits_le20 m hml
      rw [← Lib.decDigits_length] at this
      omega
    clear hm
    generalize m - 1 = k at *
    go_enter Tryz.func45, Tryz.ntmps45
    go_wp2_with (go_at_call 81; refine HD.out.mono ?_; rintro e w1 ⟨rfl, rfl⟩)
    go_ret
    exact ⟨congrArg (fun x => Ending.returned (Value.string x)) HE.out, rfl⟩
  · obtain ⟨m, rfl⟩ : ∃ m : Nat, n = (m : Int) := ⟨n.natAbs, by omega⟩
    have hml : m < 18446744073709551616 := by omega
    have HD := Lib.hid (refDigits_any m hml w)
    have hw : IntKind.u64.wrap (m : Int) = (m : Int) := by rw [IntKind.wrap_u64]; omega
    have HE : Hid ((⟨(Lib.decDigits m).toArray⟩ : ByteArray) = itoaB (m : Int)) := by
      show _ = _
      unfold itoaB
      rw [Lib.itoa_nonneg m]
    go_enter Tryz.func45, Tryz.ntmps45
    go_wp2_with (go_at_call 81; refine HD.out.mono ?_; rintro e w1 ⟨rfl, rfl⟩)
    go_ret
    exact ⟨congrArg (fun x => Ending.returned (Value.string x)) HE.out, rfl⟩
end Go.Proofs.YtccnocgmikmonaaGreatDoor
namespace Go.Proofs.YtccnocgmikmonaaGreatDoor
open Go Go.RowKit
theorem stepN_add (n b : Nat) (hb : b < 256) : stepN n b = n * 256 % 18446744073709551616 + b := by
  unfold stepN
  rw [show n * 256 % 18446744073709551616 = (n % 72057594037927936) <<< 8 by rw [Nat.shiftLeft_eq]; omega]
  exact (Nat.shiftLeft_add_eq_or_of_lt (i := 8) hb _).symm
theorem stepN_zero (n : Nat) : stepN n 0 = n * 256 % 18446744073709551616 := by rw [stepN_add n 0 (by decide), Nat.add_zero]
theorem blkN_lt (f : Nat → Nat) (hf : ∀ j, f j < 256) : ∀ k, blkN f k < 18446744073709551616
  | 0 => by unfold blkN; decide
  | k + 1 => stepN_lt _ _ (hf k)
/-- The digits of a number's last places. -/
def hexR (n : Nat) : Nat → List UInt8
  | 0 => []
  | k + 1 => UInt8.ofNat (hexN (n / 16 ^ k % 16)) :: hexR n k
theorem hexR_len (n : Nat) : ∀ k, (hexR n k).length = k
  | 0 => rfl
  | k + 1 => by unfold hexR; rw [List.length_cons, hexR_len n k]
theorem hexR_all (n : Nat) : (⟨(hexR n 16).toArray⟩ : ByteArray) = strOfNums (hexL n) := by
  unfold strOfNums hexL
  rw [List.map_map]
  congr 2
set_option maxRecDepth 100000 in
set_option maxHeartbeats 4000000 in
theorem refSum_any (s : ByteArray) (hs : s.size ≤ 140737488355328) (w : World) :
    Calls Tryz.prog 73 #[.string s] w fun e w' => e = .returned (.string (sumB s)) ∧ w = w' := by
  have hm : s.size < 18446744073709551616 := by omega
  have hx := bits_xor_u64_nat 7046029254386353131 s.size (by decide) hm
  rw [show ((7046029254386353131 : Nat) : Int) = 7046029254386353131 from rfl] at hx
  have hw0 : IntKind.u64.wrap (s.size : Int) = (s.size : Int) := by rw [IntKind.wrap_u64]; omega
  have HM := Lib.hid hm
  have HSM : Hid (s.size ≤ 140737488355328) := hs
  clear hm hs
  go_enter Tryz.func73, Tryz.ntmps73
  go_wp2_with fail
  go_loop [3, 4] (fun st i => ∃ k : Nat, 8 * k ≤ s.size + 8 ∧ i = .int .i64 ((8 * k : Nat) : Int) ∧ st = .int .u64 (stTo s k : Int)) (fun _ i => s.size + 8 - (intOf i).toNat)
  case atStart => exact ⟨0, by omega, rfl, rfl⟩
  case round =>
    clear hx hw0
    obtain ⟨k, hk, rfl, rfl⟩ := hrel
    by_cases hle : 8 * k ≤ s.size
    · have HLE := Lib.hid hle
      have hlei : ((8 * k : Nat) : Int) ≤ (s.size : Int) := by omega
      have HST := Lib.hid (stTo_lt HM.out k)
      have hw8 : IntKind.i64.wrap (((8 * k : Nat) : Int) + 8) = ((8 * (k + 1) : Nat) : Int) := by have := HSM.out; rw [IntKind.wrap_i64]; omega
      have HW8 := Lib.hid hw8
      obtain ⟨q0, hq0⟩ : ∃ q, q = 8 * k := ⟨_, rfl⟩
      rw [← hq0] at hlei hw8 ⊢
      have HQ0 := Lib.hid hq0
      clear hle hk hq0
      go_wp2_with fail
      go_loop [5, 6] (fun bl i => ∃ j : Nat, j ≤ 8 ∧ i = .int .i64 ((q0 + j : Nat) : Int) ∧ bl = .int .u64 (blkN (fun j => byteAt s (q0 + j)) j : Int)) (fun _ i => q0 + 8 - (intOf i).toNat)
      case atStart => exact ⟨0, by omega, rfl, rfl⟩
      case round =>
        obtain ⟨j, hj, rfl, rfl⟩ := hrel
        by_cases hlt : j < 8
        · obtain ⟨q, hq⟩ : ∃ q, q = q0 + j := ⟨_, rfl⟩
          rw [← hq]
          have HQ := Lib.hid hq
          have HLT := Lib.hid hlt
          have hqi : (q : Int) < ((8 * (k + 1) : Nat) : Int) := by have := HQ0.out; omega
          obtain ⟨B, hB⟩ : ∃ B, B = blkN (fun j => byteAt s (q0 + j)) j := ⟨_, rfl⟩
          rw [← hB]
          have HN := Lib.hid (show blkN (fun j => byteAt s (q0 + j)) (j + 1) = stepN B (byteAt s q) by rw [hB, hq]; rfl)
          have hm1 : IntKind.u64.wrap ((B : Int) * 256) = ((B * 256 % 18446744073709551616 : Nat) : Int) := by rw [IntKind.wrap_u64]; omega
          obtain ⟨C, hC⟩ : ∃ C, C = B * 256 % 18446744073709551616 := ⟨_, rfl⟩
          rw [← hC] at hm1
          have hq1 : IntKind.i64.wrap ((q : Int) + 1) = ((q0 + (j + 1) : Nat) : Int) := by have := HSM.out; have := HQ0.out; have := HLE.out; rw [IntKind.wrap_i64]; omega
          clear hB hq hlt
          by_cases hin : q < s.size
          · have hini : (q : Int) < (s.size : Int) := by omega
            have hb := byteAt_eq s q hin
            have hb8 := UInt8.toNat_lt s[q]
            have hbw : IntKind.u64.wrap (s[q].toNat : Int) = (s[q].toNat : Int) := by rw [IntKind.wrap_u64]; omega
            have had : IntKind.u64.wrap ((C : Int) + (s[q].toNat : Int)) = ((stepN B s[q].toNat : Nat) : Int) := by
              rw [stepN_add _ _ hb8, ← hC, IntKind.wrap_u64]
              omega
            rw [hb] at HN
            have HHJ := Lib.hid hj
            clear hb hb8 hC hj
            go_wp2_with fail
            go_round
            case rel => exact ⟨j + 1, by have := HLT.out; omega, by go_num, by rw [HN.out]⟩
            case measure => have := HQ.out; have := HLT.out; simp [intOf]; omega
          · have hini : ¬ (q : Int) < (s.size : Int) := by omega
            rw [byteAt_beyond s q (by omega), stepN_zero, ← hC] at HN
            have HHJ := Lib.hid hj
            clear hC hj
            go_wp2_with fail
            go_round
            case rel => exact ⟨j + 1, by have := HLT.out; omega, by go_num, by rw [HN.out]⟩
            case measure => have := HQ.out; have := HLT.out; simp [intOf]; omega
        · obtain rfl : j = 8 := by omega
          have HNX := Lib.hid (show mixN (stTo s k ^^^ blkN (fun j => byteAt s (q0 + j)) 8) = stTo s (k + 1) by rw [HQ0.out]; rfl)
          have hblt := blkN_lt (fun j => byteAt s (q0 + j)) (fun j => byteAt_lt s _) 8
          have hxo := bits_xor_u64_nat _ _ HST.out hblt
          have hq8 : ((q0 + 8 : Nat) : Int) = ((8 * (k + 1) : Nat) : Int) := by have := HQ0.out; omega
          rw [hq8]
          generalize blkN (fun j => byteAt s (q0 + j)) 8 = B at *
          have HMX := Lib.hid (fun W => refMix_any (stTo s k ^^^ B) (xor_lt HST.out hblt) W)
          have hnl : ¬ ((8 * (k + 1) : Nat) : Int) < ((8 * (k + 1) : Nat) : Int) := by omega
          clear hblt hq8
          generalize hST : stTo s k = S at *
          go_wp2_with (go_at_call 118; refine (HMX.out _).mono ?_; rintro e w1 ⟨rfl, rfl⟩)
          go_round
          case rel => exact ⟨k + 1, by have := HLE.out; omega, by go_num, by rw [HNX.out]⟩
          case measure => have := HQ0.out; have := HLE.out; simp [intOf]; omega
    · have hk1 : k = s.size / 8 + 1 := by omega
      have hni : ¬ ((8 * k : Nat) : Int) ≤ (s.size : Int) := by omega
      have HN := Lib.hid (show stTo s k = sumN s by rw [hk1]; rfl)
      have HNL := Lib.hid (stTo_lt HM.out k)
      rw [HN.out] at HNL ⊢
      have HE := Lib.hid (hexR_all (sumN s))
      have HSB := Lib.hid (show sumB s = strOfNums (hexL (sumN s)) from rfl)
      generalize sumN s = N at *
      generalize ((8 * k : Nat) : Int) = e8 at *
      clear hk hk1
      go_wp2_with fail
      go_loop [3, 7, 8] (fun st t i => ∃ j : Nat, j ≤ 16 ∧ i = .int .i64 (j : Int) ∧ st = .int .u64 ((N / 16 ^ j : Nat) : Int) ∧ t = .string ⟨(hexR N j).toArray⟩) (fun _ _ i => 16 - (intOf i).toNat)
      case atStart => exact ⟨0, by omega, rfl, by rw [Nat.pow_zero, Nat.div_one], rfl⟩
      case round =>
        obtain ⟨j, hj, rfl, rfl, rfl⟩ := hrel
        by_cases hlt : j < 16
        · obtain ⟨d, hd⟩ : ∃ d, d = N / 16 ^ j := ⟨_, rfl⟩
          have HX := Lib.hid (show UInt8.ofNat (hexN (d % 16)) :: hexR N j = hexR N (j + 1) by rw [hd]; rfl)
          have HNX := Lib.hid (show d / 16 = N / 16 ^ (j + 1) by rw [hd, Nat.div_div_eq_div_mul, Nat.pow_succ])
          have hdl : d < 18446744073709551616 := by rw [hd]; exact Nat.lt_of_le_of_lt (Nat.div_le_self _ _) HNL.out
          rw [← hd]
          have hcut := hex_cut (d % 16) (Nat.mod_lt _ (by decide))
          have hw : IntKind.u64.wrap ((d : Int) / 16) = ((d / 16 : Nat) : Int) := by rw [IntKind.wrap_u64]; omega
          have hlen := hexR_len N j
          generalize hexR N j = T at hlen HX ⊢
          have hsz9 : ¬ 9223372036854775807 < 1 + T.length := by omega
          have HLN := Lib.hid hlt
          generalize hb : UInt8.ofNat (hexN (d % 16)) = bb at hcut HX
          clear hd hlen hb hj
          go_wp2_with fail
          go_round
          case rel => exact ⟨j + 1, by have := HLN.out; omega, by go_num, by rw [← HNX.out, Int.natCast_ediv]; rfl, by rw [byte_app, HX.out]⟩
          case measure => have := HLN.out; simp [intOf]; omega
        · obtain rfl : j = 16 := by omega
          go_wp2_with fail
          go_ret
          exact ⟨congrArg (fun x => Ending.returned (Value.string x)) (HE.out.trans HSB.out.symm), rfl⟩
end Go.Proofs.YtccnocgmikmonaaGreatDoor
namespace Go.Proofs.YtccnocgmikmonaaGreatDoor
open Go Go.RowKit
/-- The room that is made. -/
def capT : List ByteArray → Nat
  | [] => 0
  | s :: l => s.size + 21 + capT l
theorem capT_app : ∀ a b : List ByteArray, capT (a ++ b) = capT a + capT b
  | [], b => by simp [capT]
  | s :: a, b => by rw [List.cons_append, capT, capT, capT_app a b]; omega
theorem capT_step (l : List ByteArray) (k : Nat) (hk : k < l.length) : capT (l.take (k + 1)) = capT (l.take k) + ((l.getD k ByteArray.empty).size + 21) := by
  rw [List.take_add_one, capT_app, List.getElem?_eq_getElem hk, List.getD_eq_getElem?_getD, List.getElem?_eq_getElem hk]
  simp [capT]
theorem capT_le : ∀ l : List ByteArray, capT l ≤ (joinedL l).length + 21 * l.length
  | [] => by simp [capT]
  | s :: l => by
    have h := capT_le l
    have e : (oneL s).length ≥ s.size := by
      have h2 : s.data.toList.length = s.size := rfl
      unfold oneL
      rw [List.length_append, List.length_cons, h2]
      omega
    unfold joinedL at h ⊢
    rw [capT, List.flatMap_cons, List.length_append, List.length_cons]
    omega
theorem capT_take (l : List ByteArray) (k : Nat) : capT (l.take k) ≤ capT l := by
  conv => rhs; rw [← List.take_append_drop k l, capT_app]
  omega
theorem conv_own {w : World} {base n : Nat} {v : Value} {bs : List UInt8} (h : w.ownsRow base 5 1 v n (Lib.byteCells bs)) (hn : n = bs.length) :
    (convert 85 9 v).run Tryz.prog w = .ok (.string ⟨bs.toArray⟩) w := by
  rcases h.2 with ⟨rfl, h0⟩ | ⟨g, cap, cur, rfl, _, hg, _, _, _, hc⟩
  · have hb : bs = [] := List.eq_nil_of_length_eq_zero (by omega)
    subst hb
    exact run_convert_bytes_nil w 85 5 Tryz.underlying85 Tryz.underlying5 _ _ 9 Tryz.underlying9
  · have hcell : ∀ i, i < n → w.cell? ⟨g, 0 + i, none⟩ = some (.int .u8 ((bs.map fun b => (b.toNat : Int)).getD i 0)) := fun i hi => by
      have e : (cur.toList.take (n * 1))[i]? = (Lib.byteCells bs)[i]? := by rw [hc]
      rw [List.getElem?_take_of_lt (by omega), Array.getElem?_toList] at e
      rw [Nat.zero_add, cell_of_row w g i cur _ (0, 0) hg, e]
      unfold Lib.byteCells
      rw [List.getElem?_map, List.getD_eq_getElem?_getD, List.getElem?_map, List.getElem?_eq_getElem (show i < bs.length by omega)]
      rfl
    rw [run_convert_bytes_arg w 85 5 Tryz.underlying85 Tryz.underlying5 g 0 n cap (bs.map fun b => (b.toNat : Int)) (by rw [List.length_map, hn]) hcell 9 Tryz.underlying9]
    have e : strOfNums (bs.map fun b => (b.toNat : Int)) = ⟨bs.toArray⟩ := by
      unfold strOfNums
      rw [List.map_map]
      congr 2
      conv => rhs; rw [← List.map_id bs]
      exact List.map_congr_left fun b _ => by simp
    rw [e]
theorem bytes_more (a : List UInt8) (t : ByteArray) : Lib.byteCells a ++ Lib.strCells t = Lib.byteCells (a ++ t.data.toList) := by
  unfold Lib.byteCells Lib.strCells
  rw [List.map_append]
theorem infoB1 : (Tryz.prog.info? 5).map (fun i => (i.zero, i.size, i.bytes)) = some (some (.int .u8 0), 1, 1) := by kernel_rfl
set_option maxRecDepth 100000 in
set_option maxHeartbeats 8000000 in
theorem refJoined_any (v : Value) (l : List ByteArray) (w : World) (hv : Sl w v l.length 1 (strF l)) (hl : (joinedL l).length ≤ 1000000000) (hl2 : l.length ≤ 1000000) :
    Calls Tryz.prog 20 #[v] w fun e w' => e = .returned (.string ⟨(joinedL l).toArray⟩) ∧ Below w.heap.size w w' := by
  obtain ⟨A, c, rfl, hn, hc⟩ := hv
  obtain ⟨i0, hi, hz0, hz1, hz2⟩ := info_parts infoB1
  have HC := Lib.hid hc
  have HI := Lib.hid hi
  have HZ := Lib.hid hz0
  have HLL := Lib.hid hl
  have HL2 := Lib.hid hl2
  have HCT := Lib.hid (capT_le l)
  clear hc hi hz0 hl
  go_enter Tryz.func20, Tryz.ntmps20
  go_wp2_with fail
  go_loop [3, 4] (fun n i => ∃ k : Nat, k ≤ l.length ∧ i = .int .i64 (k : Int) ∧ n = .int .i64 (capT (l.take k) : Int)) (fun _ i => l.length - (intOf i).toNat)
  case atStart => exact ⟨0, by omega, rfl, rfl⟩
  case round =>
    obtain ⟨k, hk, rfl, rfl⟩ := hrel
    by_cases hlt : k < l.length
    · rcases HC.out with h0 | ⟨b, o, rfl, hcc⟩
      · omega
      have hcell : w.cell? ⟨b, o + k, none⟩ = some (.string (l.getD k ByteArray.empty)) := hcc k (by omega)
      have HST := Lib.hid (capT_step l k hlt)
      have HTK := Lib.hid (capT_take l (k + 1))
      have hki : (k : Int) < (l.length : Int) := by omega
      clear hcc
      generalize l.getD k ByteArray.empty = s at hcell HST
      have hb1 : s.size + 21 + capT (l.take k) ≤ 1100000000 := by
        have h1 := HST.out; have h2 := HTK.out; have h3 := HCT.out; have h4 := HLL.out
        omega
      generalize capT (l.take k) = C at *
      have hw1 : IntKind.i64.wrap ((s.size : Int) + 21) = (s.size : Int) + 21 := by rw [IntKind.wrap_i64]; omega
      have hw2 : IntKind.i64.wrap ((C : Int) + ((s.size : Int) + 21)) = (C : Int) + ((s.size : Int) + 21) := by rw [IntKind.wrap_i64]; omega
      clear hb1
      go_wp2_with fail
      go_round
      case rel => exact ⟨k + 1, by omega, by go_num, by rw [HST.out]; congr 1⟩
      case measure => simp [intOf]; omega
    · obtain rfl : k = l.length := by omega
      rw [List.take_length]
      obtain ⟨C, hC⟩ : ∃ C, C = capT l := ⟨_, rfl⟩
      rw [← hC]
      have HCB : Hid (C ≤ 1100000000) := by
        show _ ≤ _
        have h3 := HCT.out; have h4 := HLL.out
        omega
      clear hC
      go_wp2_with (at_make; refine wpList_make_own w rfl _ (.tmp 21) 85 rfl w.heap.size 5 i0 (.int .u8 0) 1 Tryz.underlying85 HI.out HZ.out hz1 .i64 .i64 (C : Int) C rfl rfl rfl (by rw [hz2]; have := HCB.out; omega) (by have := HCB.out; unfold maxLen; omega) (Nat.le_refl _) ?_; intro w1 hown1 hg1; have HO1 := Lib.hid hown1; have HB1 := Lib.hid ((Below.refl w.heap.size w).grown hg1 (Nat.le_refl _) (fun _ h => by cases h)); clear hown1 hg1)
      go_loopw [5, 6] (fun bv i wr => ∃ (k : Nat) (A1 : Option Addr) (c1 : Nat), k ≤ l.length ∧ i = .int .i64 (k : Int) ∧ bv = .slice A1 (joinedL (l.take k)).length c1 ∧ Hid (wr.ownsRow w.heap.size 5 1 (.slice A1 (joinedL (l.take k)).length c1) (joinedL (l.take k)).length (Lib.byteCells (joinedL (l.take k)))) ∧ Hid (Below w.heap.size w wr)) (fun _ i _ => l.length - (intOf i).toNat)
      case atStart => exact ⟨0, _, _, Nat.zero_le _, rfl, rfl, HO1.out, HB1.out⟩
      case round =>
        obtain ⟨k, A1, c1, hk, rfl, rfl, HO, HB⟩ := hrel
        by_cases hlt : k < l.length
        · rcases HC.out with h0 | ⟨b, o, rfl, hcc⟩
          · omega
          have hcell : wr.cell? ⟨b, o + k, none⟩ = some (.string (l.getD k ByteArray.empty)) := cell_later HB.out (hcc k (by omega))
          have HJ := Lib.hid (joinedL_step l k hlt)
          have hki : (k : Int) < (l.length : Int) := by omega
          have HLE := Lib.hid (joinedL_le l (k + 1))
          have HW0 : Hid (w.cell? ⟨b, o + k, none⟩ = some (.string (l.getD k ByteArray.empty))) := hcc k (by omega)
          clear hcc
          generalize l.getD k ByteArray.empty = s at hcell HJ HW0
          have HSZ : Hid (s.size ≤ 1000000000 ∧ (joinedL (l.take k)).length + ((itoaB (s.size : Int)).size + (1 + s.size)) ≤ 1000000000) := by
            show _ ∧ _
            have h1 := HLE.out
            have h3 := HLL.out
            rw [HJ.out] at h1
            unfold oneL at h1
            rw [List.length_append, List.length_append, List.length_cons, show s.data.toList.length = s.size from rfl] at h1
            have h2 : (itoaB (s.size : Int)).size = (Lib.itoa (s.size : Int)).length := by unfold itoaB; exact List.size_toArray
            omega
          have HD := Lib.hid (refDecimal_any (s.size : Int) (by omega) (by have := HSZ.out.1; omega))
          have HEQ : Hid (joinedL (l.take (k + 1)) = joinedL (l.take k) ++ ((itoaB (s.size : Int)).data.toList ++ (58 :: s.data.toList))) := by
            show _ = _
            rw [HJ.out]
            unfold oneL itoaB
            simp
          generalize joinedL (l.take k) = J at *
          generalize itoaB (s.size : Int) = I at *
          clear HJ HLE
          go_wp2_with (first
            | (go_at_call 45; refine (HD.out _).mono ?_; rintro e w2 ⟨rfl, rfl⟩)
            | ((with_reducible show wpList _ _ _ (Oper.mk (some 36) _ _ _ _ _ :: _) _ _); refine Lib.wpList_append_own_string _ rfl (.tmp 29) (.tmp 35) 85 9 rfl w.heap.size 5 i0 Tryz.underlying85 Tryz.underlying9 HI.out HZ.out hz1 hz2 _ J.length (Lib.byteCells J) rfl HO.out I rfl (by have := HSZ.out.2; unfold maxLen; omega) (by have := HSZ.out.2; omega) HB.out.size ?_; intro v3 w3 hown3 hg3 hnil3; obtain ⟨A3, c3, hf3⟩ := own_slice hown3; subst hf3; have HO3 := Lib.hid hown3; have HB3 := Lib.hid (HB.out.grown hg3 HB.out.size (fun j hj => (HO.out.lt j hj).1)); have hcell3 : w3.cell? ⟨b, o + k, none⟩ = some (.string s) := cell_later HB3.out HW0.out; clear hown3 hg3 hnil3)
            | ((with_reducible show wpList _ _ _ (Oper.mk (some 39) _ _ _ _ _ :: _) _ _); refine wpList_app rfl (.tmp 37) (.tmp 38) 85 rfl w.heap.size 5 i0 (.int .u8 0) 1 1 Tryz.underlying85 HI.out HZ.out hz1 hz2 rfl (by decide) _ (J.length + I.size) (Lib.byteCells J ++ Lib.strCells I) rfl (HO3.out.alloc _) (some ⟨_, 0, none⟩) 1 1 [.int .u8 58] rfl rfl (.inr ⟨_, rfl, own_src _ _ _⟩) (by simp [Value.oneCell']) (by have := HSZ.out.2; unfold maxLen; omega) (by have := HSZ.out.2; omega) (by have := HB3.out.size; simp; omega) ?_; intro v4 w4 hown4 hg4; obtain ⟨A4, c4, hf4⟩ := own_slice hown4; subst hf4; have HO4 := Lib.hid hown4; have HB4 := Lib.hid ((HB3.out.alloc HB3.out.size (.cells #[.int .u8 58] 5)).grown hg4 (by have := HB3.out.size; simp; omega) (fun j hj => ((HO3.out.alloc (.cells #[.int .u8 58] 5)).lt j hj).1)); have hcell4 : w4.cell? ⟨b, o + k, none⟩ = some (.string s) := cell_later HB4.out HW0.out; clear hown4 hg4)
            | ((with_reducible show wpList _ _ _ (Oper.mk (some 45) _ _ _ _ _ :: _) _ _); refine Lib.wpList_append_own_string _ rfl (.tmp 40) (.tmp 44) 85 9 rfl w.heap.size 5 i0 Tryz.underlying85 Tryz.underlying9 HI.out HZ.out hz1 hz2 (.slice A4 (J.length + I.size + 1) c4) (J.length + I.size + 1) ((Lib.byteCells J ++ Lib.strCells I) ++ [.int .u8 58]) rfl HO4.out s rfl (by have := HSZ.out.2; unfold maxLen; omega) (by have := HSZ.out.2; omega) HB4.out.size ?_; intro v5 w5 hown5 hg5 hnil5; obtain ⟨A5, c5, hf5⟩ := own_slice hown5; subst hf5; have HO5 := Lib.hid hown5; have HB5 := Lib.hid (HB4.out.grown hg5 HB4.out.size (fun j hj => (HO4.out.lt j hj).1)); clear hown5 hg5 hnil5))
          have hlen : J.length + I.size + 1 + s.size = (joinedL (l.take (k + 1))).length := by
            rw [HEQ.out, List.length_append, List.length_append, List.length_cons, show s.data.toList.length = s.size from rfl, show I.data.toList.length = I.size from rfl]
            omega
          have HOX : Hid (w5.ownsRow w.heap.size 5 1 (.slice A5 (joinedL (l.take (k + 1))).length c5) (joinedL (l.take (k + 1))).length (Lib.byteCells (joinedL (l.take (k + 1))))) := by
            have h := HO5.out
            rw [hlen, bytes_more, show ([.int .u8 58] : List Value) = Lib.byteCells [58] from rfl, show Lib.byteCells (J ++ I.data.toList) ++ Lib.byteCells [58] = Lib.byteCells ((J ++ I.data.toList) ++ [58]) by unfold Lib.byteCells; simp, bytes_more, List.append_assoc, List.append_assoc] at h
            rw [HEQ.out]
            rw [HEQ.out] at h
            exact h
          rw [hlen]
          go_roundw
          case rel => exact ⟨k + 1, A5, c5, by omega, by go_num, rfl, HOX.out, HB5.out⟩
          case measure => simp [intOf]; omega
        · obtain rfl : k = l.length := by omega
          have HOE : Hid (wr.ownsRow w.heap.size 5 1 (.slice A1 (joinedL l).length c1) (joinedL l).length (Lib.byteCells (joinedL l))) := by
            have := HO.out
            rwa [List.take_length] at this
          rw [List.take_length]
          have hconv := conv_own HOE.out rfl
          go_wp2_with fail
          go_ret
          exact ⟨rfl, HB.out⟩
set_option maxRecDepth 100000 in
set_option maxHeartbeats 2000000 in
theorem refList_any (v : Value) (l : List ByteArray) (w : World) (hv : Sl w v l.length 1 (strF l)) (hl : (joinedL l).length ≤ 1000000000) (hl2 : l.length ≤ 1000000) :
    Calls Tryz.prog 43 #[v] w fun e w' => e = .returned (.string (sumB ⟨(joinedL l).toArray⟩)) ∧ Below w.heap.size w w' := by
  have HJ := Lib.hid (refJoined_any v l w hv hl hl2)
  have HS := Lib.hid (fun W => refSum_any ⟨(joinedL l).toArray⟩ (by show (joinedL l).toArray.size ≤ _; rw [List.size_toArray]; omega) W)
  clear hv hl
  go_enter Tryz.func43, Tryz.ntmps43
  go_wp2_with (first | (go_at_call 20; refine HJ.out.mono ?_; rintro e w1 ⟨rfl, hb1⟩; have HB1 := Lib.hid hb1; clear hb1) | (go_at_call 73; refine (HS.out _).mono ?_; rintro e w2 ⟨rfl, rfl⟩))
  go_ret
  exact ⟨rfl, HB1.out⟩
end Go.Proofs.YtccnocgmikmonaaGreatDoor
namespace Go.Proofs.YtccnocgmikmonaaGreatDoor
open Go Go.RowKit
/-- The box of the state, and the list of one's own. -/
structure FlB (w : World) (s0 : Array Value) (v : Value) (out : List ByteArray) (W : World) : Prop where
  s : Has W w.heap.size 24 s0
  o : Own0 W w.heap.size 9 1 v out.length (out.map .string)
  b : Below w.heap.size w W
theorem FlB.below {w W W' : World} {s0 : Array Value} {v : Value} {out : List ByteArray} (h : FlB w s0 v out W) (hb : Below W.heap.size W W') : FlB w s0 v out W' := ⟨h.s.below hb h.s.lt, own0_below h.o hb, h.b.trans (hb.mono h.b.size)⟩
theorem FlB.alloc {w W : World} {s0 : Array Value} {v : Value} {out : List ByteArray} (h : FlB w s0 v out W) (o : Obj) : FlB w s0 v out (W.alloc o) := h.below ((Below.refl _ _).alloc (Nat.le_refl _) o)
theorem FlB.drew {w W : World} {s0 : Array Value} {v : Value} {out : List ByteArray} (h : FlB w s0 v out W) : FlB w s0 v out W.drew := h.below (Below.refl _ _).drew
theorem FlB.more {w W W' : World} {s0 : Array Value} {v v' : Value} {out more : List ByteArray} {n : Nat} (h : FlB w s0 v out W) (hg : Grew W W' w.heap.size 9) (ho : Own0 W' w.heap.size 9 1 v' n (out.map .string ++ more.map .string)) (hn : n = out.length + more.length) : FlB w s0 v' (out ++ more) W' :=
  ⟨hg.has h.s (by decide), (by rw [List.length_append, List.map_append, ← hn]; exact ho), hg.below h.b h.b.size (Nat.le_refl _)⟩
theorem dec_quiet (n : Int) (h : -9223372036854775808 ≤ n ∧ n ≤ 9223372036854775807) (w : World) : Calls Tryz.prog 45 #[.int .i64 n] w fun e w' => e = .returned (.string (itoaB n)) ∧ w' = w :=
  (refDecimal_any n h.1 h.2 w).mono fun _ _ ⟨h1, h2⟩ => ⟨h1, h2.symm⟩
set_option maxRecDepth 100000 in
set_option maxHeartbeats 20000000 in
theorem refFields_any (w0 : World) (v : Value) (l : List Pa) (w : World) (hb0 : Below w0.heap.size w0 w) (hv : Sta w0 v l) (hi : ∀ p ∈ l, p.i64) (hl : (fieldsL l).length ≤ 1000000) (hpl : ∀ p ∈ l, p.props.length ≤ 100000) (hll : l.length ≤ 100000) :
    Calls Tryz.prog 21 #[.agg #[v]] w fun e w' => ∃ v', e = .returned v' ∧ Sl w' v' (fieldsL l).length 1 (strF (fieldsL l)) ∧ Below w.heap.size w w' := by
  obtain ⟨A, cs, rfl, hn⟩ := Rd.form hv
  obtain ⟨i0, hi0, hz0, hz1, hz2⟩ := info_parts infoS
  have HI := Lib.hid hi0
  have HZ := Lib.hid hz0
  have HV := Lib.hid hv
  have HR := Lib.hid hi
  have HPL := Lib.hid hpl
  have HB0 := Lib.hid hb0
  have hsz0 := hb0.size
  have HDL := Lib.hid (dec_quiet (l.length : Int) (by omega) (w.alloc (.cells #[.slice A l.length cs] 24)))
  have HS0 := Lib.hid ((Has.new w 24 #[.slice A l.length cs]))
  have HBa := Lib.hid ((Below.refl w.heap.size w).alloc (Nat.le_refl _) (.cells #[.slice A l.length cs] 24))
  have HFL := Lib.hid hl
  obtain ⟨x1, y1⟩ := HS0.out.facts
  clear hi0 hz0 hv hi hb0 hpl hl
  go_enter Tryz.func21, Tryz.ntmps21
  go_wp2_with (go_at_call 45; refine HDL.out.mono ?_; rintro e w2 ⟨rfl, rfl⟩)
  have HD1 : Hid (FlB w #[.slice A l.length cs] (.slice (some ⟨w.heap.size + 1, 0, none⟩) 1 1) (itoaB l.length :: (l.take 0).flatMap partF) ((w.alloc (.cells #[.slice A l.length cs] 24)).alloc (.cells #[.string (itoaB (l.length : Int))] 9))) := by
    have h1 := Has.new (w.alloc (.cells #[.slice A l.length cs] 24)) 9 #[.string (itoaB (l.length : Int))]
    rw [World.size_alloc] at h1
    exact ⟨HS0.out.alloc _, .inl (own_litD (n := 1) (sz := 1) h1 (by omega) rfl (by decide)), HBa.out.alloc HBa.out.size _⟩
  go_loopw [3, 4] (fun ov i wr => ∃ (j : Nat) (A1 : Option Addr) (c1 : Nat), j ≤ l.length ∧ i = .int .i64 j ∧ ov = .slice A1 (itoaB l.length :: (l.take j).flatMap partF).length c1 ∧ Hid (FlB w #[.slice A l.length cs] (.slice A1 (itoaB l.length :: (l.take j).flatMap partF).length c1) (itoaB l.length :: (l.take j).flatMap partF) wr)) (fun _ i _ => l.length - (intOf i).toNat)
  case atStart => exact ⟨0, _, _, Nat.zero_le _, rfl, rfl, HD1.out⟩
  case round =>
    clear x1 y1
    obtain ⟨j, A1, c1, hj, rfl, rfl, HD⟩ := hrel
    obtain ⟨xs, ys⟩ := HD.out.s.facts
    by_cases hlt : j < l.length
    · obtain ⟨b, o, c', cs', he, _, ⟨sv, rfl, hsv⟩, _, hrg⟩ := Rd.get HV.out hlt noPa
      injection he with e1 e2 e3
      subst e1; subst e3
      obtain ⟨Ap, mp, rfl, hnp⟩ := Rd.form hsv
      have HPR := Lib.hid hsv
      have HBW := Lib.hid (HB0.out.trans (HD.out.b.mono hsz0))
      have hrg' := range_later hrg HBW.out
      have hmem := getD_mem l j noPa hlt
      have HI64 := Lib.hid (HR.out _ hmem)
      have hpp := HPL.out _ hmem
      have HST := Lib.hid (flat_step partF l noPa j hlt)
      have HLE := Lib.hid (flat_le partF l (j + 1))
      have hji : (j : Int) < (l.length : Int) := by omega
      clear hrg hsv hmem
      generalize l.getD j noPa = p at *
      obtain ⟨pname, pkind, pinto, pslot, pmade, psince, pgone, pprops, pkl, pkh, pcl, pch, pdl, pdh⟩ := p
      dsimp only at hnp HPR hpp
      replace hrg' : wr.rangeAt b (o + j * 14) [.string pname, .string pkind, .string pinto, .string pslot, .int .i64 pmade, .int .i64 psince, .bool pgone, .slice Ap pprops.length mp, .int .i64 pkl, .int .i64 pkh, .int .i64 pcl, .int .i64 pch, .int .i64 pdl, .int .i64 pdh] := hrg'
      have HLN : Hid ((itoaB l.length :: (l.take j).flatMap partF).length + (14 + 2 * pprops.length) ≤ 1000000) := by
        show _ ≤ _
        have h1 := HLE.out
        rw [HST.out, List.length_append, partF_len] at h1
        have h2 := HFL.out
        unfold fieldsL at h2
        rw [List.length_cons] at h2 ⊢
        have h3 := h1
        dsimp only at h3
        omega
      have HSO : Hid ((itoaB l.length :: (l.take (j + 1)).flatMap partF) = (itoaB l.length :: (l.take j).flatMap partF) ++ partF ⟨pname, pkind, pinto, pslot, pmade, psince, pgone, pprops, pkl, pkh, pcl, pch, pdl, pdh⟩) := by
        show _ = _
        rw [HST.out]; rfl
      have HQp := Lib.hid (show -9223372036854775808 ≤ (pprops.length : Int) ∧ (pprops.length : Int) ≤ 9223372036854775807 by omega)
      have HQ4 : Hid (∀ n ∈ ([pmade, psince, pkl, pkh, pcl, pch, pdl, pdh] : List Int), -9223372036854775808 ≤ n ∧ n ≤ 9223372036854775807) := HI64.out
      generalize itoaB l.length :: (l.take j).flatMap partF = oj at HD HLN HSO ⊢
      clear HST HLE HI64
      cases pgone
      · skip
        have HDa := Lib.hid (HD.out.alloc (.cells #[.string pname, .string pkind, .string pinto, .string pslot, .int .i64 pmade, .int .i64 psince, .bool false, .slice Ap pprops.length mp, .int .i64 pkl, .int .i64 pkh, .int .i64 pcl, .int .i64 pch, .int .i64 pdl, .int .i64 pdh] 33))
        have HPa := Lib.hid (Has.new wr 33 #[.string pname, .string pkind, .string pinto, .string pslot, .int .i64 pmade, .int .i64 psince, .bool false, .slice Ap pprops.length mp, .int .i64 pkl, .int .i64 pkh, .int .i64 pcl, .int .i64 pch, .int .i64 pdl, .int .i64 pdh])
        obtain ⟨xp, yp⟩ := HPa.out.facts
        go_wp2_with ((with_reducible show wpList _ _ _ (Oper.mk (some 25) _ _ _ _ _ :: _) _ _); refine wpList_load_mid rfl 33 _ rfl b (o + j * 14) rfl _ _ hrg' Tryz.underlying33 rfl rfl ?_)
        have HK9 := Lib.hid (fun W (h : Has W wr.heap.size 33 #[.string pname, .string pkind, .string pinto, .string pslot, .int .i64 pmade, .int .i64 psince, .bool false, .slice Ap pprops.length mp, .int .i64 pkl, .int .i64 pkh, .int .i64 pcl, .int .i64 pch, .int .i64 pdl, .int .i64 pdh]) => (⟨h.facts.1 0, h.facts.1 1, h.facts.1 2, h.facts.1 3, h.facts.1 4, h.facts.1 5, h.facts.1 7⟩ : (fun W => W.cell? ⟨wr.heap.size, 0, none⟩ = some (.string pname) ∧ W.cell? ⟨wr.heap.size, 1, none⟩ = some (.string pkind) ∧ W.cell? ⟨wr.heap.size, 2, none⟩ = some (.string pinto) ∧ W.cell? ⟨wr.heap.size, 3, none⟩ = some (.string pslot) ∧ W.cell? ⟨wr.heap.size, 4, none⟩ = some (.int .i64 pmade) ∧ W.cell? ⟨wr.heap.size, 5, none⟩ = some (.int .i64 psince) ∧ W.cell? ⟨wr.heap.size, 7, none⟩ = some (.slice Ap pprops.length mp)) W))
        clear xp yp
        refine wp_region_held_drew (S := fun W => W.cell? ⟨wr.heap.size, 0, none⟩ = some (.string pname) ∧ W.cell? ⟨wr.heap.size, 1, none⟩ = some (.string pkind) ∧ W.cell? ⟨wr.heap.size, 2, none⟩ = some (.string pinto) ∧ W.cell? ⟨wr.heap.size, 3, none⟩ = some (.string pslot) ∧ W.cell? ⟨wr.heap.size, 4, none⟩ = some (.int .i64 pmade) ∧ W.cell? ⟨wr.heap.size, 5, none⟩ = some (.int .i64 psince) ∧ W.cell? ⟨wr.heap.size, 7, none⟩ = some (.slice Ap pprops.length mp)) (by kernel_rfl) (HK9.out _ HPa.out.drew) (fun hHeld => ?_)
        refine plI [(0, false), (1, false), (2, false), (3, false), (4, false), (5, false), (6, false), (7, false), (8, false), (9, false), (10, false), (12, false), (13, false), (15, false), (16, false), (17, false), (18, false)] ?_
        repeat ((first | ((with_reducible show Plan ((_, true) :: _) _); refine plF ?_) | (refine plR (v := ?_) ?_ ?_; rotate_left; focus (intro W hSW; (try dsimp only at hSW); go_simp; all_goals (with_reducible rfl)))); try simp only [Act.put, List.setIfInBounds_toArray, List.set_cons_zero, List.set_cons_succ])
        refine plE ?_
        refine plC (i := 11) (v := .string (itoaB pmade)) 45 #[.int .i64 pmade] ?_ (fun W hSW => dec_quiet pmade (HQ4.out _ (by simp)) W) ?_ rfl (by kernel_rfl) (by kernel_rfl) (by kernel_rfl) (fun _ _ _ h => h) (by rfl) (by assumption)
        · intro W; go_simp; all_goals (with_reducible rfl)
        try simp only [Act.put, List.setIfInBounds_toArray, List.set_cons_zero, List.set_cons_succ]
        refine plC (i := 14) (v := .string (itoaB psince)) 45 #[.int .i64 psince] ?_ (fun W hSW => dec_quiet psince (HQ4.out _ (by simp)) W) ?_ rfl (by kernel_rfl) (by kernel_rfl) (by kernel_rfl) (fun _ _ _ h => h) (by rfl) (by assumption)
        · intro W; go_simp; all_goals (with_reducible rfl)
        try simp only [Act.put, List.setIfInBounds_toArray, List.set_cons_zero, List.set_cons_succ]
        refine plC (i := 19) (v := .string (itoaB (pprops.length : Int))) 45 #[.int .i64 (pprops.length : Int)] ?_ (fun W hSW => dec_quiet (pprops.length : Int) HQp.out W) ?_ rfl (by kernel_rfl) (by kernel_rfl) (by kernel_rfl) (fun _ _ _ h => h) (by rfl) (by assumption)
        · intro W; go_simp; all_goals (with_reducible rfl)
        try simp only [Act.put, List.setIfInBounds_toArray, List.set_cons_zero, List.set_cons_succ]
        refine wpAnyH_ready (rs := [20]) (by kernel_rfl) (by simp) ?_
        refine AllReadyH.cons (o := ⟨_, _, _, _, _, _⟩) rfl (fun K hK => ?_) AllReadyH.nil
        go_simp
        refine hK.out _ _ (HK9.out _ (HPa.out.drew.alloc _)) (fun hHeld => ?_)
        clear hK K
        try simp only [Act.put, List.setIfInBounds_toArray, List.set_cons_zero, List.set_cons_succ]
        refine wpAnyH_ready (rs := [21]) (by kernel_rfl) (by simp) ?_
        refine AllReadyH.cons (o := ⟨_, _, _, _, _, _⟩) rfl (fun K hK => ?_) AllReadyH.nil
        rw [if_pos (show Region.wanted _ _ = true by rfl)]
        refine wp_app0 (.tmp 28) (.tmp 48) 39 rfl w.heap.size 9 i0 (.string ⟨#[]⟩) 1 16 Tryz.underlying39 HI.out HZ.out hz1 hz2 rfl (by decide) _ oj.length (oj.map .string) rfl ((HDa.out.drew.alloc _).o) (some ⟨_, 0, none⟩) 8 8 ([pname, pkind, pinto, pslot, itoaB pmade, itoaB psince, ⟨#[48]⟩, itoaB (pprops.length : Int)].map .string) rfl rfl (.inr ⟨_, rfl, src_lit _ _ _ _ (by simp)⟩) (strs_one (l := [pname, pkind, pinto, pslot, itoaB pmade, itoaB psince, ⟨#[48]⟩, itoaB (pprops.length : Int)])) (by have := HLN.out; unfold maxLen; omega) (by have := HLN.out; omega) (by have := HDa.out.b.size; simp at this ⊢; omega) ?_
        intro v6 w6 hown6 hg6
        obtain ⟨A6, c6, hf6⟩ := hown6.form
        subst hf6
        have HD6 := Lib.hid ((HDa.out.drew.alloc _).more (more := [pname, pkind, pinto, pslot, itoaB pmade, itoaB psince, ⟨#[48]⟩, itoaB (pprops.length : Int)]) hg6 hown6 rfl)
        have HP6 := Lib.hid (hg6.has (HPa.out.drew.alloc _) (by decide))
        clear hown6 hg6
        refine hK.out _ _ (HK9.out _ HP6.out) (fun hHeld => ?_)
        clear hK K
        try simp only [Act.put, List.setIfInBounds_toArray, List.set_cons_zero, List.set_cons_succ]
        refine plI [(22, false)] ?_
        repeat ((first | ((with_reducible show Plan ((_, true) :: _) _); refine plF ?_) | (refine plR (v := ?_) ?_ ?_; rotate_left; focus (intro W hSW; (try dsimp only at hSW); go_simp; all_goals (with_reducible rfl)))); try simp only [Act.put, List.setIfInBounds_toArray, List.set_cons_zero, List.set_cons_succ])
        refine plE ?_
        refine wpAnyH_done (by kernel_rfl) ?_ _
        clear hHeld HK9
        obtain ⟨q7, hq7⟩ : ∃ q, oj ++ [pname, pkind, pinto, pslot, itoaB pmade, itoaB psince, ⟨#[48]⟩, itoaB (pprops.length : Int)] = q := ⟨_, rfl⟩
        have hl7 : oj.length + 8 = q7.length := by rw [← hq7]; simp
        rw [hq7] at HD6
        have HL7 : Hid (q7.length + (6 + 2 * pprops.length) ≤ 1000000) := by
          show _ ≤ _
          have := HLN.out
          omega
        have HQ7 := Lib.hid hq7
        rw [hl7] at HD6 ⊢
        clear hq7 hl7
        obtain ⟨x6, y6⟩ := HP6.out.facts
        go_wp2_with fail
        obtain ⟨wo, rfl⟩ : ∃ wo : World, wo = wr := ⟨_, rfl⟩
        go_loopw [3, 7] (fun ov i wv => ∃ (m : Nat) (A2 : Option Addr) (c2 : Nat), m ≤ pprops.length ∧ i = .int .i64 m ∧ ov = .slice A2 (q7 ++ (pprops.take m).flatMap propF).length c2 ∧ Hid (FlB w #[.slice (some ⟨b, o, none⟩) l.length cs] (.slice A2 (q7 ++ (pprops.take m).flatMap propF).length c2) (q7 ++ (pprops.take m).flatMap propF) wv) ∧ Hid (Has wv wo.heap.size 33 #[.string pname, .string pkind, .string pinto, .string pslot, .int .i64 pmade, .int .i64 psince, .bool false, .slice Ap pprops.length mp, .int .i64 pkl, .int .i64 pkh, .int .i64 pcl, .int .i64 pch, .int .i64 pdl, .int .i64 pdh])) (fun _ i _ => pprops.length - (intOf i).toNat)
        case atStart => exact ⟨0, A6, c6, Nat.zero_le _, rfl, (by simp), (by show FlB _ _ _ _ _; simpa using HD6.out), HP6.out⟩
        case round =>
          clear x6 y6
          obtain ⟨m, A2, c2, hm, rfl, rfl, HD8, HP8⟩ := hrel
          obtain ⟨x8, y8⟩ := HP8.out.facts
          by_cases hlm : m < pprops.length
          · obtain ⟨b2, o2, c2', cs2, he2, _, hcs2, _, hrg2⟩ := Rd.get HPR.out hlm noPr
            injection he2 with e1 e2 e3
            subst e1; subst e3
            unfold PrR at hcs2
            subst hcs2
            have HBV := Lib.hid (HB0.out.trans (HD8.out.b.mono hsz0))
            have HSM := Lib.hid (flat_step propF pprops noPr m hlm)
            have hmi : (m : Int) < (pprops.length : Int) := by omega
            have HL8 : Hid ((q7 ++ (pprops.take m).flatMap propF).length + 8 ≤ 1000000) := by
              show _ ≤ _
              have h1 := HL7.out
              rw [List.length_append, propF_len, List.length_take]
              omega
            generalize pprops.getD m noPr = x at *
            obtain ⟨xk, xv⟩ := x
            have HR2 : Hid (w0.rangeAt b2 (o2 + m * 2) [.string xk, .string xv]) := hrg2
            clear hrg2
            have HSN : Hid (q7 ++ (pprops.take (m + 1)).flatMap propF = (q7 ++ (pprops.take m).flatMap propF) ++ [xk, xv]) := by
              show _ = _
              rw [HSM.out, ← List.append_assoc]; rfl
            generalize q7 ++ (pprops.take m).flatMap propF = q8 at HD8 HL8 HSN ⊢
            clear HSM
            go_wp2_with fail
            have HK13 := Lib.hid (fun W (h : Has W wo.heap.size 33 #[.string pname, .string pkind, .string pinto, .string pslot, .int .i64 pmade, .int .i64 psince, .bool false, .slice (some ⟨b2, o2, none⟩) pprops.length mp, .int .i64 pkl, .int .i64 pkh, .int .i64 pcl, .int .i64 pch, .int .i64 pdl, .int .i64 pdh]) (hb : Below w0.heap.size w0 W) => (⟨h.facts.1 7, range_later HR2.out hb 0 _ rfl, range_later HR2.out hb 1 _ rfl⟩ : (fun W => W.cell? ⟨wo.heap.size, 7, none⟩ = some (.slice (some ⟨b2, o2, none⟩) pprops.length mp) ∧ W.cell? ⟨b2, o2 + m * 2, none⟩ = some (.string xk) ∧ W.cell? ⟨b2, o2 + m * 2 + 1, none⟩ = some (.string xv)) W))
            clear x8 y8
            refine wp_region_held_drew (S := fun W => W.cell? ⟨wo.heap.size, 7, none⟩ = some (.slice (some ⟨b2, o2, none⟩) pprops.length mp) ∧ W.cell? ⟨b2, o2 + m * 2, none⟩ = some (.string xk) ∧ W.cell? ⟨b2, o2 + m * 2 + 1, none⟩ = some (.string xv)) (by kernel_rfl) (HK13.out _ HP8.out.drew (HB0.out.trans (HD8.out.drew.b.mono hsz0))) (fun hHeld => ?_)
            refine plI [(0, false), (1, false), (2, false), (3, false), (4, false), (5, false), (6, false), (7, false), (8, false), (9, false), (10, false), (11, false), (12, false)] ?_
            repeat ((first | ((with_reducible show Plan ((_, true) :: _) _); refine plF ?_) | (refine plR (v := ?_) ?_ ?_; rotate_left; focus (intro W hSW; (try dsimp only at hSW); go_simp; all_goals (with_reducible rfl)))); try simp only [Act.put, List.setIfInBounds_toArray, List.set_cons_zero, List.set_cons_succ])
            refine plE ?_
            refine wpAnyH_ready (rs := [13]) (by kernel_rfl) (by simp) ?_
            refine AllReadyH.cons (o := ⟨_, _, _, _, _, _⟩) rfl (fun K hK => ?_) AllReadyH.nil
            go_simp
            refine hK.out _ _ (HK13.out _ (HP8.out.drew.alloc _) (HB0.out.trans ((HD8.out.drew.alloc _).b.mono hsz0))) (fun hHeld => ?_)
            clear hK K
            try simp only [Act.put, List.setIfInBounds_toArray, List.set_cons_zero, List.set_cons_succ]
            refine wpAnyH_ready (rs := [14]) (by kernel_rfl) (by simp) ?_
            refine AllReadyH.cons (o := ⟨_, _, _, _, _, _⟩) rfl (fun K hK => ?_) AllReadyH.nil
            rw [if_pos (show Region.wanted _ _ = true by rfl)]
            refine wp_app0 (.tmp 57) (.tmp 70) 39 rfl w.heap.size 9 i0 (.string ⟨#[]⟩) 1 16 Tryz.underlying39 HI.out HZ.out hz1 hz2 rfl (by decide) _ q8.length (q8.map .string) rfl ((HD8.out.drew.alloc _).o) (some ⟨_, 0, none⟩) 2 2 ([xk, xv].map .string) rfl rfl (.inr ⟨_, rfl, src_lit _ _ _ _ (by simp)⟩) (strs_one (l := [xk, xv])) (by have := HL8.out; unfold maxLen; omega) (by have := HL8.out; omega) (by have := HD8.out.b.size; simp at this ⊢; omega) ?_
            intro v9 w9 hown9 hg9
            obtain ⟨A9, c9, hf9⟩ := hown9.form
            subst hf9
            have HD9 := Lib.hid ((HD8.out.drew.alloc _).more (more := [xk, xv]) hg9 hown9 rfl)
            have HP9 := Lib.hid (hg9.has (HP8.out.drew.alloc _) (by decide))
            clear hown9 hg9
            refine hK.out _ _ (HK13.out _ HP9.out (HB0.out.trans (HD9.out.b.mono hsz0))) (fun hHeld => ?_)
            clear hK K
            try simp only [Act.put, List.setIfInBounds_toArray, List.set_cons_zero, List.set_cons_succ]
            refine plI [(15, false)] ?_
            repeat ((first | ((with_reducible show Plan ((_, true) :: _) _); refine plF ?_) | (refine plR (v := ?_) ?_ ?_; rotate_left; focus (intro W hSW; (try dsimp only at hSW); go_simp; all_goals (with_reducible rfl)))); try simp only [Act.put, List.setIfInBounds_toArray, List.set_cons_zero, List.set_cons_succ])
            refine plE ?_
            refine wpAnyH_done (by kernel_rfl) ?_ _
            clear hHeld HK13
            have hl9 : q8.length + 2 = (q7 ++ (pprops.take (m + 1)).flatMap propF).length := by rw [HSN.out]; simp
            rw [hl9, ← HSN.out] at HD9
            rw [hl9]
            clear hl9
            go_wp2_with fail
            go_roundw
            case rel => exact ⟨m + 1, A9, c9, by omega, by go_num, rfl, HD9.out, HP9.out⟩
            case measure => simp [intOf]; omega
          · obtain rfl : m = pprops.length := by omega
            rw [List.take_length] at HD8 ⊢
            have HLE8 : Hid ((q7 ++ pprops.flatMap propF).length + 6 ≤ 1000000) := by
              show _ ≤ _
              have h1 := HL7.out
              rw [List.length_append, propF_len]
              omega
            have HQE : Hid ((q7 ++ pprops.flatMap propF) ++ [itoaB pkl, itoaB pkh, itoaB pcl, itoaB pch, itoaB pdl, itoaB pdh] = oj ++ partF ⟨pname, pkind, pinto, pslot, pmade, psince, false, pprops, pkl, pkh, pcl, pch, pdl, pdh⟩) := by
              show _ = _
              rw [← HQ7.out]
              have e0 : itoaB 0 = ⟨#[48]⟩ := by unfold itoaB; rw [show (0 : Int) = ((0 : Nat) : Int) from rfl, Lib.itoa_nonneg, Lib.decDigits_one (by decide)]; rfl
              simp [partF, headF, numsA, numsB, List.append_assoc, e0]
            generalize q7 ++ pprops.flatMap propF = q8 at HD8 HLE8 HQE ⊢
            have HDb := Lib.hid (HD8.out.alloc (.cells #[.int .i64 pkl, .int .i64 pkh, .int .i64 pcl, .int .i64 pch, .int .i64 pdl, .int .i64 pdh] 31))
            have HLb := Lib.hid (Has.new wr 31 #[.int .i64 pkl, .int .i64 pkh, .int .i64 pcl, .int .i64 pch, .int .i64 pdl, .int .i64 pdh])
            go_wp2_with fail
            have HK15 := Lib.hid (fun W (h : Has W wr.heap.size 31 #[.int .i64 pkl, .int .i64 pkh, .int .i64 pcl, .int .i64 pch, .int .i64 pdl, .int .i64 pdh]) => (⟨h.facts.1 0, h.facts.1 1, h.facts.1 2, h.facts.1 3, h.facts.1 4, h.facts.1 5⟩ : (fun W => W.cell? ⟨wr.heap.size, 0, none⟩ = some (.int .i64 pkl) ∧ W.cell? ⟨wr.heap.size, 1, none⟩ = some (.int .i64 pkh) ∧ W.cell? ⟨wr.heap.size, 2, none⟩ = some (.int .i64 pcl) ∧ W.cell? ⟨wr.heap.size, 3, none⟩ = some (.int .i64 pch) ∧ W.cell? ⟨wr.heap.size, 4, none⟩ = some (.int .i64 pdl) ∧ W.cell? ⟨wr.heap.size, 5, none⟩ = some (.int .i64 pdh)) W))
            clear x8 y8
            refine wp_region_held_drew (S := fun W => W.cell? ⟨wr.heap.size, 0, none⟩ = some (.int .i64 pkl) ∧ W.cell? ⟨wr.heap.size, 1, none⟩ = some (.int .i64 pkh) ∧ W.cell? ⟨wr.heap.size, 2, none⟩ = some (.int .i64 pcl) ∧ W.cell? ⟨wr.heap.size, 3, none⟩ = some (.int .i64 pch) ∧ W.cell? ⟨wr.heap.size, 4, none⟩ = some (.int .i64 pdl) ∧ W.cell? ⟨wr.heap.size, 5, none⟩ = some (.int .i64 pdh)) (by kernel_rfl) (HK15.out _ HLb.out.drew) (fun hHeld => ?_)
            refine plI [(0, false), (1, false), (2, false), (3, false), (5, false), (6, false), (7, false), (9, false), (10, false), (11, false), (13, false), (14, false), (15, false), (17, false), (18, false), (19, false), (21, false), (22, false), (23, false)] ?_
            repeat ((first | ((with_reducible show Plan ((_, true) :: _) _); refine plF ?_) | (refine plR (v := ?_) ?_ ?_; rotate_left; focus (intro W hSW; (try dsimp only at hSW); go_simp; all_goals (with_reducible rfl)))); try simp only [Act.put, List.setIfInBounds_toArray, List.set_cons_zero, List.set_cons_succ])
            refine plE ?_
            refine plC (i := 4) (v := .string (itoaB pkl)) 45 #[.int .i64 pkl] ?_ (fun W hSW => dec_quiet pkl (HQ4.out _ (by simp)) W) ?_ rfl (by kernel_rfl) (by kernel_rfl) (by kernel_rfl) (fun _ _ _ h => h) (by rfl) (by assumption)
            · intro W; go_simp; all_goals (with_reducible rfl)
            try simp only [Act.put, List.setIfInBounds_toArray, List.set_cons_zero, List.set_cons_succ]
            refine plC (i := 8) (v := .string (itoaB pkh)) 45 #[.int .i64 pkh] ?_ (fun W hSW => dec_quiet pkh (HQ4.out _ (by simp)) W) ?_ rfl (by kernel_rfl) (by kernel_rfl) (by kernel_rfl) (fun _ _ _ h => h) (by rfl) (by assumption)
            · intro W; go_simp; all_goals (with_reducible rfl)
            try simp only [Act.put, List.setIfInBounds_toArray, List.set_cons_zero, List.set_cons_succ]
            refine plC (i := 12) (v := .string (itoaB pcl)) 45 #[.int .i64 pcl] ?_ (fun W hSW => dec_quiet pcl (HQ4.out _ (by simp)) W) ?_ rfl (by kernel_rfl) (by kernel_rfl) (by kernel_rfl) (fun _ _ _ h => h) (by rfl) (by assumption)
            · intro W; go_simp; all_goals (with_reducible rfl)
            try simp only [Act.put, List.setIfInBounds_toArray, List.set_cons_zero, List.set_cons_succ]
            refine plC (i := 16) (v := .string (itoaB pch)) 45 #[.int .i64 pch] ?_ (fun W hSW => dec_quiet pch (HQ4.out _ (by simp)) W) ?_ rfl (by kernel_rfl) (by kernel_rfl) (by kernel_rfl) (fun _ _ _ h => h) (by rfl) (by assumption)
            · intro W; go_simp; all_goals (with_reducible rfl)
            try simp only [Act.put, List.setIfInBounds_toArray, List.set_cons_zero, List.set_cons_succ]
            refine plC (i := 20) (v := .string (itoaB pdl)) 45 #[.int .i64 pdl] ?_ (fun W hSW => dec_quiet pdl (HQ4.out _ (by simp)) W) ?_ rfl (by kernel_rfl) (by kernel_rfl) (by kernel_rfl) (fun _ _ _ h => h) (by rfl) (by assumption)
            · intro W; go_simp; all_goals (with_reducible rfl)
            try simp only [Act.put, List.setIfInBounds_toArray, List.set_cons_zero, List.set_cons_succ]
            refine plC (i := 24) (v := .string (itoaB pdh)) 45 #[.int .i64 pdh] ?_ (fun W hSW => dec_quiet pdh (HQ4.out _ (by simp)) W) ?_ rfl (by kernel_rfl) (by kernel_rfl) (by kernel_rfl) (fun _ _ _ h => h) (by rfl) (by assumption)
            · intro W; go_simp; all_goals (with_reducible rfl)
            try simp only [Act.put, List.setIfInBounds_toArray, List.set_cons_zero, List.set_cons_succ]
            refine wpAnyH_ready (rs := [25]) (by kernel_rfl) (by simp) ?_
            refine AllReadyH.cons (o := ⟨_, _, _, _, _, _⟩) rfl (fun K hK => ?_) AllReadyH.nil
            go_simp
            refine hK.out _ _ (HK15.out _ (HLb.out.drew.alloc _)) (fun hHeld => ?_)
            clear hK K
            try simp only [Act.put, List.setIfInBounds_toArray, List.set_cons_zero, List.set_cons_succ]
            refine wpAnyH_ready (rs := [26]) (by kernel_rfl) (by simp) ?_
            refine AllReadyH.cons (o := ⟨_, _, _, _, _, _⟩) rfl (fun K hK => ?_) AllReadyH.nil
            rw [if_pos (show Region.wanted _ _ = true by rfl)]
            refine wp_app0 (.tmp 74) (.tmp 99) 39 rfl w.heap.size 9 i0 (.string ⟨#[]⟩) 1 16 Tryz.underlying39 HI.out HZ.out hz1 hz2 rfl (by decide) _ q8.length (q8.map .string) rfl ((HDb.out.drew.alloc _).o) (some ⟨_, 0, none⟩) 6 6 ([itoaB pkl, itoaB pkh, itoaB pcl, itoaB pch, itoaB pdl, itoaB pdh].map .string) rfl rfl (.inr ⟨_, rfl, src_lit _ _ _ _ (by simp)⟩) (strs_one (l := [itoaB pkl, itoaB pkh, itoaB pcl, itoaB pch, itoaB pdl, itoaB pdh])) (by have := HLE8.out; unfold maxLen; omega) (by have := HLE8.out; omega) (by have := HDb.out.b.size; simp at this ⊢; omega) ?_
            intro v9 w9 hown9 hg9
            obtain ⟨A9, c9, hf9⟩ := hown9.form
            subst hf9
            have HD9 := Lib.hid ((HDb.out.drew.alloc _).more (more := [itoaB pkl, itoaB pkh, itoaB pcl, itoaB pch, itoaB pdl, itoaB pdh]) hg9 hown9 rfl)
            have HLc := Lib.hid (hg9.has (HLb.out.drew.alloc _) (by decide))
            clear hown9 hg9
            refine hK.out _ _ (HK15.out _ HLc.out) (fun hHeld => ?_)
            clear hK K
            try simp only [Act.put, List.setIfInBounds_toArray, List.set_cons_zero, List.set_cons_succ]
            refine plI [(27, false)] ?_
            repeat ((first | ((with_reducible show Plan ((_, true) :: _) _); refine plF ?_) | (refine plR (v := ?_) ?_ ?_; rotate_left; focus (intro W hSW; (try dsimp only at hSW); go_simp; all_goals (with_reducible rfl)))); try simp only [Act.put, List.setIfInBounds_toArray, List.set_cons_zero, List.set_cons_succ])
            refine plE ?_
            refine wpAnyH_done (by kernel_rfl) ?_ _
            clear hHeld HK15
            have hl9 : q8.length + 6 = (itoaB l.length :: (l.take (j + 1)).flatMap partF).length := by rw [HSO.out, ← HQE.out]; simp
            rw [hl9, HQE.out, ← HSO.out] at HD9
            rw [hl9]
            clear hl9
            go_wp2_with fail
            go_roundw
            case rel => exact ⟨j + 1, A9, c9, by omega, by go_num, rfl, HD9.out⟩
            case measure => simp [intOf]; omega
      · skip
        have HDa := Lib.hid (HD.out.alloc (.cells #[.string pname, .string pkind, .string pinto, .string pslot, .int .i64 pmade, .int .i64 psince, .bool true, .slice Ap pprops.length mp, .int .i64 pkl, .int .i64 pkh, .int .i64 pcl, .int .i64 pch, .int .i64 pdl, .int .i64 pdh] 33))
        have HPa := Lib.hid (Has.new wr 33 #[.string pname, .string pkind, .string pinto, .string pslot, .int .i64 pmade, .int .i64 psince, .bool true, .slice Ap pprops.length mp, .int .i64 pkl, .int .i64 pkh, .int .i64 pcl, .int .i64 pch, .int .i64 pdl, .int .i64 pdh])
        obtain ⟨xp, yp⟩ := HPa.out.facts
        go_wp2_with ((with_reducible show wpList _ _ _ (Oper.mk (some 25) _ _ _ _ _ :: _) _ _); refine wpList_load_mid rfl 33 _ rfl b (o + j * 14) rfl _ _ hrg' Tryz.underlying33 rfl rfl ?_)
        have HK9 := Lib.hid (fun W (h : Has W wr.heap.size 33 #[.string pname, .string pkind, .string pinto, .string pslot, .int .i64 pmade, .int .i64 psince, .bool true, .slice Ap pprops.length mp, .int .i64 pkl, .int .i64 pkh, .int .i64 pcl, .int .i64 pch, .int .i64 pdl, .int .i64 pdh]) => (⟨h.facts.1 0, h.facts.1 1, h.facts.1 2, h.facts.1 3, h.facts.1 4, h.facts.1 5, h.facts.1 7⟩ : (fun W => W.cell? ⟨wr.heap.size, 0, none⟩ = some (.string pname) ∧ W.cell? ⟨wr.heap.size, 1, none⟩ = some (.string pkind) ∧ W.cell? ⟨wr.heap.size, 2, none⟩ = some (.string pinto) ∧ W.cell? ⟨wr.heap.size, 3, none⟩ = some (.string pslot) ∧ W.cell? ⟨wr.heap.size, 4, none⟩ = some (.int .i64 pmade) ∧ W.cell? ⟨wr.heap.size, 5, none⟩ = some (.int .i64 psince) ∧ W.cell? ⟨wr.heap.size, 7, none⟩ = some (.slice Ap pprops.length mp)) W))
        clear xp yp
        refine wp_region_held_drew (S := fun W => W.cell? ⟨wr.heap.size, 0, none⟩ = some (.string pname) ∧ W.cell? ⟨wr.heap.size, 1, none⟩ = some (.string pkind) ∧ W.cell? ⟨wr.heap.size, 2, none⟩ = some (.string pinto) ∧ W.cell? ⟨wr.heap.size, 3, none⟩ = some (.string pslot) ∧ W.cell? ⟨wr.heap.size, 4, none⟩ = some (.int .i64 pmade) ∧ W.cell? ⟨wr.heap.size, 5, none⟩ = some (.int .i64 psince) ∧ W.cell? ⟨wr.heap.size, 7, none⟩ = some (.slice Ap pprops.length mp)) (by kernel_rfl) (HK9.out _ HPa.out.drew) (fun hHeld => ?_)
        refine plI [(0, false), (1, false), (2, false), (3, false), (4, false), (5, false), (6, false), (7, false), (8, false), (9, false), (10, false), (12, false), (13, false), (15, false), (16, false), (17, false), (18, false)] ?_
        repeat ((first | ((with_reducible show Plan ((_, true) :: _) _); refine plF ?_) | (refine plR (v := ?_) ?_ ?_; rotate_left; focus (intro W hSW; (try dsimp only at hSW); go_simp; all_goals (with_reducible rfl)))); try simp only [Act.put, List.setIfInBounds_toArray, List.set_cons_zero, List.set_cons_succ])
        refine plE ?_
        refine plC (i := 11) (v := .string (itoaB pmade)) 45 #[.int .i64 pmade] ?_ (fun W hSW => dec_quiet pmade (HQ4.out _ (by simp)) W) ?_ rfl (by kernel_rfl) (by kernel_rfl) (by kernel_rfl) (fun _ _ _ h => h) (by rfl) (by assumption)
        · intro W; go_simp; all_goals (with_reducible rfl)
        try simp only [Act.put, List.setIfInBounds_toArray, List.set_cons_zero, List.set_cons_succ]
        refine plC (i := 14) (v := .string (itoaB psince)) 45 #[.int .i64 psince] ?_ (fun W hSW => dec_quiet psince (HQ4.out _ (by simp)) W) ?_ rfl (by kernel_rfl) (by kernel_rfl) (by kernel_rfl) (fun _ _ _ h => h) (by rfl) (by assumption)
        · intro W; go_simp; all_goals (with_reducible rfl)
        try simp only [Act.put, List.setIfInBounds_toArray, List.set_cons_zero, List.set_cons_succ]
        refine plC (i := 19) (v := .string (itoaB (pprops.length : Int))) 45 #[.int .i64 (pprops.length : Int)] ?_ (fun W hSW => dec_quiet (pprops.length : Int) HQp.out W) ?_ rfl (by kernel_rfl) (by kernel_rfl) (by kernel_rfl) (fun _ _ _ h => h) (by rfl) (by assumption)
        · intro W; go_simp; all_goals (with_reducible rfl)
        try simp only [Act.put, List.setIfInBounds_toArray, List.set_cons_zero, List.set_cons_succ]
        refine wpAnyH_ready (rs := [20]) (by kernel_rfl) (by simp) ?_
        refine AllReadyH.cons (o := ⟨_, _, _, _, _, _⟩) rfl (fun K hK => ?_) AllReadyH.nil
        go_simp
        refine hK.out _ _ (HK9.out _ (HPa.out.drew.alloc _)) (fun hHeld => ?_)
        clear hK K
        try simp only [Act.put, List.setIfInBounds_toArray, List.set_cons_zero, List.set_cons_succ]
        refine wpAnyH_ready (rs := [21]) (by kernel_rfl) (by simp) ?_
        refine AllReadyH.cons (o := ⟨_, _, _, _, _, _⟩) rfl (fun K hK => ?_) AllReadyH.nil
        rw [if_pos (show Region.wanted _ _ = true by rfl)]
        refine wp_app0 (.tmp 28) (.tmp 48) 39 rfl w.heap.size 9 i0 (.string ⟨#[]⟩) 1 16 Tryz.underlying39 HI.out HZ.out hz1 hz2 rfl (by decide) _ oj.length (oj.map .string) rfl ((HDa.out.drew.alloc _).o) (some ⟨_, 0, none⟩) 8 8 ([pname, pkind, pinto, pslot, itoaB pmade, itoaB psince, ⟨#[49]⟩, itoaB (pprops.length : Int)].map .string) rfl rfl (.inr ⟨_, rfl, src_lit _ _ _ _ (by simp)⟩) (strs_one (l := [pname, pkind, pinto, pslot, itoaB pmade, itoaB psince, ⟨#[49]⟩, itoaB (pprops.length : Int)])) (by have := HLN.out; unfold maxLen; omega) (by have := HLN.out; omega) (by have := HDa.out.b.size; simp at this ⊢; omega) ?_
        intro v6 w6 hown6 hg6
        obtain ⟨A6, c6, hf6⟩ := hown6.form
        subst hf6
        have HD6 := Lib.hid ((HDa.out.drew.alloc _).more (more := [pname, pkind, pinto, pslot, itoaB pmade, itoaB psince, ⟨#[49]⟩, itoaB (pprops.length : Int)]) hg6 hown6 rfl)
        have HP6 := Lib.hid (hg6.has (HPa.out.drew.alloc _) (by decide))
        clear hown6 hg6
        refine hK.out _ _ (HK9.out _ HP6.out) (fun hHeld => ?_)
        clear hK K
        try simp only [Act.put, List.setIfInBounds_toArray, List.set_cons_zero, List.set_cons_succ]
        refine plI [(22, false)] ?_
        repeat ((first | ((with_reducible show Plan ((_, true) :: _) _); refine plF ?_) | (refine plR (v := ?_) ?_ ?_; rotate_left; focus (intro W hSW; (try dsimp only at hSW); go_simp; all_goals (with_reducible rfl)))); try simp only [Act.put, List.setIfInBounds_toArray, List.set_cons_zero, List.set_cons_succ])
        refine plE ?_
        refine wpAnyH_done (by kernel_rfl) ?_ _
        clear hHeld HK9
        obtain ⟨q7, hq7⟩ : ∃ q, oj ++ [pname, pkind, pinto, pslot, itoaB pmade, itoaB psince, ⟨#[49]⟩, itoaB (pprops.length : Int)] = q := ⟨_, rfl⟩
        have hl7 : oj.length + 8 = q7.length := by rw [← hq7]; simp
        rw [hq7] at HD6
        have HL7 : Hid (q7.length + (6 + 2 * pprops.length) ≤ 1000000) := by
          show _ ≤ _
          have := HLN.out
          omega
        have HQ7 := Lib.hid hq7
        rw [hl7] at HD6 ⊢
        clear hq7 hl7
        obtain ⟨x6, y6⟩ := HP6.out.facts
        go_wp2_with fail
        obtain ⟨wo, rfl⟩ : ∃ wo : World, wo = wr := ⟨_, rfl⟩
        go_loopw [3, 7] (fun ov i wv => ∃ (m : Nat) (A2 : Option Addr) (c2 : Nat), m ≤ pprops.length ∧ i = .int .i64 m ∧ ov = .slice A2 (q7 ++ (pprops.take m).flatMap propF).length c2 ∧ Hid (FlB w #[.slice (some ⟨b, o, none⟩) l.length cs] (.slice A2 (q7 ++ (pprops.take m).flatMap propF).length c2) (q7 ++ (pprops.take m).flatMap propF) wv) ∧ Hid (Has wv wo.heap.size 33 #[.string pname, .string pkind, .string pinto, .string pslot, .int .i64 pmade, .int .i64 psince, .bool true, .slice Ap pprops.length mp, .int .i64 pkl, .int .i64 pkh, .int .i64 pcl, .int .i64 pch, .int .i64 pdl, .int .i64 pdh])) (fun _ i _ => pprops.length - (intOf i).toNat)
        case atStart => exact ⟨0, A6, c6, Nat.zero_le _, rfl, (by simp), (by show FlB _ _ _ _ _; simpa using HD6.out), HP6.out⟩
        case round =>
          clear x6 y6
          obtain ⟨m, A2, c2, hm, rfl, rfl, HD8, HP8⟩ := hrel
          obtain ⟨x8, y8⟩ := HP8.out.facts
          by_cases hlm : m < pprops.length
          · obtain ⟨b2, o2, c2', cs2, he2, _, hcs2, _, hrg2⟩ := Rd.get HPR.out hlm noPr
            injection he2 with e1 e2 e3
            subst e1; subst e3
            unfold PrR at hcs2
            subst hcs2
            have HBV := Lib.hid (HB0.out.trans (HD8.out.b.mono hsz0))
            have HSM := Lib.hid (flat_step propF pprops noPr m hlm)
            have hmi : (m : Int) < (pprops.length : Int) := by omega
            have HL8 : Hid ((q7 ++ (pprops.take m).flatMap propF).length + 8 ≤ 1000000) := by
              show _ ≤ _
              have h1 := HL7.out
              rw [List.length_append, propF_len, List.length_take]
              omega
            generalize pprops.getD m noPr = x at *
            obtain ⟨xk, xv⟩ := x
            have HR2 : Hid (w0.rangeAt b2 (o2 + m * 2) [.string xk, .string xv]) := hrg2
            clear hrg2
            have HSN : Hid (q7 ++ (pprops.take (m + 1)).flatMap propF = (q7 ++ (pprops.take m).flatMap propF) ++ [xk, xv]) := by
              show _ = _
              rw [HSM.out, ← List.append_assoc]; rfl
            generalize q7 ++ (pprops.take m).flatMap propF = q8 at HD8 HL8 HSN ⊢
            clear HSM
            go_wp2_with fail
            have HK13 := Lib.hid (fun W (h : Has W wo.heap.size 33 #[.string pname, .string pkind, .string pinto, .string pslot, .int .i64 pmade, .int .i64 psince, .bool true, .slice (some ⟨b2, o2, none⟩) pprops.length mp, .int .i64 pkl, .int .i64 pkh, .int .i64 pcl, .int .i64 pch, .int .i64 pdl, .int .i64 pdh]) (hb : Below w0.heap.size w0 W) => (⟨h.facts.1 7, range_later HR2.out hb 0 _ rfl, range_later HR2.out hb 1 _ rfl⟩ : (fun W => W.cell? ⟨wo.heap.size, 7, none⟩ = some (.slice (some ⟨b2, o2, none⟩) pprops.length mp) ∧ W.cell? ⟨b2, o2 + m * 2, none⟩ = some (.string xk) ∧ W.cell? ⟨b2, o2 + m * 2 + 1, none⟩ = some (.string xv)) W))
            clear x8 y8
            refine wp_region_held_drew (S := fun W => W.cell? ⟨wo.heap.size, 7, none⟩ = some (.slice (some ⟨b2, o2, none⟩) pprops.length mp) ∧ W.cell? ⟨b2, o2 + m * 2, none⟩ = some (.string xk) ∧ W.cell? ⟨b2, o2 + m * 2 + 1, none⟩ = some (.string xv)) (by kernel_rfl) (HK13.out _ HP8.out.drew (HB0.out.trans (HD8.out.drew.b.mono hsz0))) (fun hHeld => ?_)
            refine plI [(0, false), (1, false), (2, false), (3, false), (4, false), (5, false), (6, false), (7, false), (8, false), (9, false), (10, false), (11, false), (12, false)] ?_
            repeat ((first | ((with_reducible show Plan ((_, true) :: _) _); refine plF ?_) | (refine plR (v := ?_) ?_ ?_; rotate_left; focus (intro W hSW; (try dsimp only at hSW); go_simp; all_goals (with_reducible rfl)))); try simp only [Act.put, List.setIfInBounds_toArray, List.set_cons_zero, List.set_cons_succ])
            refine plE ?_
            refine wpAnyH_ready (rs := [13]) (by kernel_rfl) (by simp) ?_
            refine AllReadyH.cons (o := ⟨_, _, _, _, _, _⟩) rfl (fun K hK => ?_) AllReadyH.nil
            go_simp
            refine hK.out _ _ (HK13.out _ (HP8.out.drew.alloc _) (HB0.out.trans ((HD8.out.drew.alloc _).b.mono hsz0))) (fun hHeld => ?_)
            clear hK K
            try simp only [Act.put, List.setIfInBounds_toArray, List.set_cons_zero, List.set_cons_succ]
            refine wpAnyH_ready (rs := [14]) (by kernel_rfl) (by simp) ?_
            refine AllReadyH.cons (o := ⟨_, _, _, _, _, _⟩) rfl (fun K hK => ?_) AllReadyH.nil
            rw [if_pos (show Region.wanted _ _ = true by rfl)]
            refine wp_app0 (.tmp 57) (.tmp 70) 39 rfl w.heap.size 9 i0 (.string ⟨#[]⟩) 1 16 Tryz.underlying39 HI.out HZ.out hz1 hz2 rfl (by decide) _ q8.length (q8.map .string) rfl ((HD8.out.drew.alloc _).o) (some ⟨_, 0, none⟩) 2 2 ([xk, xv].map .string) rfl rfl (.inr ⟨_, rfl, src_lit _ _ _ _ (by simp)⟩) (strs_one (l := [xk, xv])) (by have := HL8.out; unfold maxLen; omega) (by have := HL8.out; omega) (by have := HD8.out.b.size; simp at this ⊢; omega) ?_
            intro v9 w9 hown9 hg9
            obtain ⟨A9, c9, hf9⟩ := hown9.form
            subst hf9
            have HD9 := Lib.hid ((HD8.out.drew.alloc _).more (more := [xk, xv]) hg9 hown9 rfl)
            have HP9 := Lib.hid (hg9.has (HP8.out.drew.alloc _) (by decide))
            clear hown9 hg9
            refine hK.out _ _ (HK13.out _ HP9.out (HB0.out.trans (HD9.out.b.mono hsz0))) (fun hHeld => ?_)
            clear hK K
            try simp only [Act.put, List.setIfInBounds_toArray, List.set_cons_zero, List.set_cons_succ]
            refine plI [(15, false)] ?_
            repeat ((first | ((with_reducible show Plan ((_, true) :: _) _); refine plF ?_) | (refine plR (v := ?_) ?_ ?_; rotate_left; focus (intro W hSW; (try dsimp only at hSW); go_simp; all_goals (with_reducible rfl)))); try simp only [Act.put, List.setIfInBounds_toArray, List.set_cons_zero, List.set_cons_succ])
            refine plE ?_
            refine wpAnyH_done (by kernel_rfl) ?_ _
            clear hHeld HK13
            have hl9 : q8.length + 2 = (q7 ++ (pprops.take (m + 1)).flatMap propF).length := by rw [HSN.out]; simp
            rw [hl9, ← HSN.out] at HD9
            rw [hl9]
            clear hl9
            go_wp2_with fail
            go_roundw
            case rel => exact ⟨m + 1, A9, c9, by omega, by go_num, rfl, HD9.out, HP9.out⟩
            case measure => simp [intOf]; omega
          · obtain rfl : m = pprops.length := by omega
            rw [List.take_length] at HD8 ⊢
            have HLE8 : Hid ((q7 ++ pprops.flatMap propF).length + 6 ≤ 1000000) := by
              show _ ≤ _
              have h1 := HL7.out
              rw [List.length_append, propF_len]
              omega
            have HQE : Hid ((q7 ++ pprops.flatMap propF) ++ [itoaB pkl, itoaB pkh, itoaB pcl, itoaB pch, itoaB pdl, itoaB pdh] = oj ++ partF ⟨pname, pkind, pinto, pslot, pmade, psince, true, pprops, pkl, pkh, pcl, pch, pdl, pdh⟩) := by
              show _ = _
              rw [← HQ7.out]
              have e0 : itoaB 1 = ⟨#[49]⟩ := by unfold itoaB; rw [show (1 : Int) = ((1 : Nat) : Int) from rfl, Lib.itoa_nonneg, Lib.decDigits_one (by decide)]; rfl
              simp [partF, headF, numsA, numsB, List.append_assoc, e0]
            generalize q7 ++ pprops.flatMap propF = q8 at HD8 HLE8 HQE ⊢
            have HDb := Lib.hid (HD8.out.alloc (.cells #[.int .i64 pkl, .int .i64 pkh, .int .i64 pcl, .int .i64 pch, .int .i64 pdl, .int .i64 pdh] 31))
            have HLb := Lib.hid (Has.new wr 31 #[.int .i64 pkl, .int .i64 pkh, .int .i64 pcl, .int .i64 pch, .int .i64 pdl, .int .i64 pdh])
            go_wp2_with fail
            have HK15 := Lib.hid (fun W (h : Has W wr.heap.size 31 #[.int .i64 pkl, .int .i64 pkh, .int .i64 pcl, .int .i64 pch, .int .i64 pdl, .int .i64 pdh]) => (⟨h.facts.1 0, h.facts.1 1, h.facts.1 2, h.facts.1 3, h.facts.1 4, h.facts.1 5⟩ : (fun W => W.cell? ⟨wr.heap.size, 0, none⟩ = some (.int .i64 pkl) ∧ W.cell? ⟨wr.heap.size, 1, none⟩ = some (.int .i64 pkh) ∧ W.cell? ⟨wr.heap.size, 2, none⟩ = some (.int .i64 pcl) ∧ W.cell? ⟨wr.heap.size, 3, none⟩ = some (.int .i64 pch) ∧ W.cell? ⟨wr.heap.size, 4, none⟩ = some (.int .i64 pdl) ∧ W.cell? ⟨wr.heap.size, 5, none⟩ = some (.int .i64 pdh)) W))
            clear x8 y8
            refine wp_region_held_drew (S := fun W => W.cell? ⟨wr.heap.size, 0, none⟩ = some (.int .i64 pkl) ∧ W.cell? ⟨wr.heap.size, 1, none⟩ = some (.int .i64 pkh) ∧ W.cell? ⟨wr.heap.size, 2, none⟩ = some (.int .i64 pcl) ∧ W.cell? ⟨wr.heap.size, 3, none⟩ = some (.int .i64 pch) ∧ W.cell? ⟨wr.heap.size, 4, none⟩ = some (.int .i64 pdl) ∧ W.cell? ⟨wr.heap.size, 5, none⟩ = some (.int .i64 pdh)) (by kernel_rfl) (HK15.out _ HLb.out.drew) (fun hHeld => ?_)
            refine plI [(0, false), (1, false), (2, false), (3, false), (5, false), (6, false), (7, false), (9, false), (10, false), (11, false), (13, false), (14, false), (15, false), (17, false), (18, false), (19, false), (21, false), (22, false), (23, false)] ?_
            repeat ((first | ((with_reducible show Plan ((_, true) :: _) _); refine plF ?_) | (refine plR (v := ?_) ?_ ?_; rotate_left; focus (intro W hSW; (try dsimp only at hSW); go_simp; all_goals (with_reducible rfl)))); try simp only [Act.put, List.setIfInBounds_toArray, List.set_cons_zero, List.set_cons_succ])
            refine plE ?_
            refine plC (i := 4) (v := .string (itoaB pkl)) 45 #[.int .i64 pkl] ?_ (fun W hSW => dec_quiet pkl (HQ4.out _ (by simp)) W) ?_ rfl (by kernel_rfl) (by kernel_rfl) (by kernel_rfl) (fun _ _ _ h => h) (by rfl) (by assumption)
            · intro W; go_simp; all_goals (with_reducible rfl)
            try simp only [Act.put, List.setIfInBounds_toArray, List.set_cons_zero, List.set_cons_succ]
            refine plC (i := 8) (v := .string (itoaB pkh)) 45 #[.int .i64 pkh] ?_ (fun W hSW => dec_quiet pkh (HQ4.out _ (by simp)) W) ?_ rfl (by kernel_rfl) (by kernel_rfl) (by kernel_rfl) (fun _ _ _ h => h) (by rfl) (by assumption)
            · intro W; go_simp; all_goals (with_reducible rfl)
            try simp only [Act.put, List.setIfInBounds_toArray, List.set_cons_zero, List.set_cons_succ]
            refine plC (i := 12) (v := .string (itoaB pcl)) 45 #[.int .i64 pcl] ?_ (fun W hSW => dec_quiet pcl (HQ4.out _ (by simp)) W) ?_ rfl (by kernel_rfl) (by kernel_rfl) (by kernel_rfl) (fun _ _ _ h => h) (by rfl) (by assumption)
            · intro W; go_simp; all_goals (with_reducible rfl)
            try simp only [Act.put, List.setIfInBounds_toArray, List.set_cons_zero, List.set_cons_succ]
            refine plC (i := 16) (v := .string (itoaB pch)) 45 #[.int .i64 pch] ?_ (fun W hSW => dec_quiet pch (HQ4.out _ (by simp)) W) ?_ rfl (by kernel_rfl) (by kernel_rfl) (by kernel_rfl) (fun _ _ _ h => h) (by rfl) (by assumption)
            · intro W; go_simp; all_goals (with_reducible rfl)
            try simp only [Act.put, List.setIfInBounds_toArray, List.set_cons_zero, List.set_cons_succ]
            refine plC (i := 20) (v := .string (itoaB pdl)) 45 #[.int .i64 pdl] ?_ (fun W hSW => dec_quiet pdl (HQ4.out _ (by simp)) W) ?_ rfl (by kernel_rfl) (by kernel_rfl) (by kernel_rfl) (fun _ _ _ h => h) (by rfl) (by assumption)
            · intro W; go_simp; all_goals (with_reducible rfl)
            try simp only [Act.put, List.setIfInBounds_toArray, List.set_cons_zero, List.set_cons_succ]
            refine plC (i := 24) (v := .string (itoaB pdh)) 45 #[.int .i64 pdh] ?_ (fun W hSW => dec_quiet pdh (HQ4.out _ (by simp)) W) ?_ rfl (by kernel_rfl) (by kernel_rfl) (by kernel_rfl) (fun _ _ _ h => h) (by rfl) (by assumption)
            · intro W; go_simp; all_goals (with_reducible rfl)
            try simp only [Act.put, List.setIfInBounds_toArray, List.set_cons_zero, List.set_cons_succ]
            refine wpAnyH_ready (rs := [25]) (by kernel_rfl) (by simp) ?_
            refine AllReadyH.cons (o := ⟨_, _, _, _, _, _⟩) rfl (fun K hK => ?_) AllReadyH.nil
            go_simp
            refine hK.out _ _ (HK15.out _ (HLb.out.drew.alloc _)) (fun hHeld => ?_)
            clear hK K
            try simp only [Act.put, List.setIfInBounds_toArray, List.set_cons_zero, List.set_cons_succ]
            refine wpAnyH_ready (rs := [26]) (by kernel_rfl) (by simp) ?_
            refine AllReadyH.cons (o := ⟨_, _, _, _, _, _⟩) rfl (fun K hK => ?_) AllReadyH.nil
            rw [if_pos (show Region.wanted _ _ = true by rfl)]
            refine wp_app0 (.tmp 74) (.tmp 99) 39 rfl w.heap.size 9 i0 (.string ⟨#[]⟩) 1 16 Tryz.underlying39 HI.out HZ.out hz1 hz2 rfl (by decide) _ q8.length (q8.map .string) rfl ((HDb.out.drew.alloc _).o) (some ⟨_, 0, none⟩) 6 6 ([itoaB pkl, itoaB pkh, itoaB pcl, itoaB pch, itoaB pdl, itoaB pdh].map .string) rfl rfl (.inr ⟨_, rfl, src_lit _ _ _ _ (by simp)⟩) (strs_one (l := [itoaB pkl, itoaB pkh, itoaB pcl, itoaB pch, itoaB pdl, itoaB pdh])) (by have := HLE8.out; unfold maxLen; omega) (by have := HLE8.out; omega) (by have := HDb.out.b.size; simp at this ⊢; omega) ?_
            intro v9 w9 hown9 hg9
            obtain ⟨A9, c9, hf9⟩ := hown9.form
            subst hf9
            have HD9 := Lib.hid ((HDb.out.drew.alloc _).more (more := [itoaB pkl, itoaB pkh, itoaB pcl, itoaB pch, itoaB pdl, itoaB pdh]) hg9 hown9 rfl)
            have HLc := Lib.hid (hg9.has (HLb.out.drew.alloc _) (by decide))
            clear hown9 hg9
            refine hK.out _ _ (HK15.out _ HLc.out) (fun hHeld => ?_)
            clear hK K
            try simp only [Act.put, List.setIfInBounds_toArray, List.set_cons_zero, List.set_cons_succ]
            refine plI [(27, false)] ?_
            repeat ((first | ((with_reducible show Plan ((_, true) :: _) _); refine plF ?_) | (refine plR (v := ?_) ?_ ?_; rotate_left; focus (intro W hSW; (try dsimp only at hSW); go_simp; all_goals (with_reducible rfl)))); try simp only [Act.put, List.setIfInBounds_toArray, List.set_cons_zero, List.set_cons_succ])
            refine plE ?_
            refine wpAnyH_done (by kernel_rfl) ?_ _
            clear hHeld HK15
            have hl9 : q8.length + 6 = (itoaB l.length :: (l.take (j + 1)).flatMap partF).length := by rw [HSO.out, ← HQE.out]; simp
            rw [hl9, HQE.out, ← HSO.out] at HD9
            rw [hl9]
            clear hl9
            go_wp2_with fail
            go_roundw
            case rel => exact ⟨j + 1, A9, c9, by omega, by go_num, rfl, HD9.out⟩
            case measure => simp [intOf]; omega
    · obtain rfl : j = l.length := by omega
      rw [List.take_length] at HD ⊢
      have HSL : Hid (Sl wr (.slice A1 (fieldsL l).length c1) (fieldsL l).length 1 (strF (fieldsL l))) := by
        have h := HD.out.o.sl
        change Sl wr (.slice A1 (fieldsL l).length c1) (fieldsL l).length 1 _ at h
        refine h.congr fun j hj => ?_
        rw [Nat.mul_one] at hj
        show (((fieldsL l).map Value.string)[j]?).getD undef = _
        simp [strF, List.getD_eq_getElem?_getD, List.getElem?_eq_getElem hj]
      go_wp2_with fail
      go_ret
      exact ⟨_, rfl, HSL.out, HD.out.b⟩
end Go.Proofs.YtccnocgmikmonaaGreatDoor
