/- How long the text of a valid condition is. No condition. lexer.Quote: a string in double quotes. Condition: the string is not too long. strconv.Itoa, by the table of powers of ten. Condition: the table is laid. strings.Join by its contract, strings as rows. Condition: the strings lie in memory. The four texts of the head of bogielaw20, parsed in plain words. No condition. -/
import Derived.Lib.LaidTab
import Derived.Sort.Grow
import Derived.WalkKit
import Derived.Test.YtppoeiofdmlpeaaGreatDoorU01
import Derived.Test.YtppoeiofdmlpeaaGreatDoorU02
import Derived.Test.YtppoeiofdmlpeaaGreatDoorU09
namespace Go.Proofs.YtppoeiofdmlpeaaGreatDoor
open Go Go.RowKit
theorem size_app (a b : ByteArray) : (a ++ b).size = a.size + b.size := ByteArray.size_append
def sumL : List ByteArray → Nat
  | [] => 0
  | t :: ts => t.size + sumL ts
theorem joined_len (sep : ByteArray) : ∀ ts : List ByteArray, (joined ts sep).size ≤ sumL ts + ts.length * sep.size := by
  have h : ∀ ts : List ByteArray, (Lib.joinTail sep.data.toList (ts.map (·.data.toList))).length ≤ sumL ts + ts.length * sep.size := by
    intro ts
    induction ts with
    | nil => exact Nat.zero_le _
    | cons a r ih =>
      rw [List.map_cons, List.length_cons, Nat.succ_mul]
      show (Lib.joinTail sep.data.toList (a.data.toList :: r.map (·.data.toList))).length ≤ a.size + sumL r + _
      rw [Lib.joinTail, List.map_cons, List.flatten_cons, List.length_append, List.length_append]
      unfold Lib.joinTail at ih
      have e1 : sep.data.toList.length = sep.size := rfl
      have e2 : a.data.toList.length = a.size := rfl
      omega
  intro ts
  cases ts with
  | nil => exact Nat.zero_le _
  | cons t ts =>
    show (Lib.join ((t :: ts).map (·.data.toList)) sep.data.toList).length ≤ _
    rw [List.map_cons, Lib.join_cons, List.length_append]
    have h2 := h ts
    have e2 : t.data.toList.length = t.size := rfl
    show _ ≤ t.size + sumL ts + _
    rw [List.length_cons, Nat.succ_mul]
    omega
theorem name_le {b : ByteArray} (h : nameB b = true) : b.size ≤ 24 := (of_decide_eq_true h).2.1
theorem kidT_len (op kop : Int) (t : ByteArray) : (kidT op kop t).size ≤ t.size + 2 := by
  unfold kidT
  split
  · rw [size_app, size_app]; show 1 + t.size + 1 ≤ _; omega
  · omega
theorem itoa_len {n : Int} (h0 : 0 ≤ n) (h1 : n ≤ 9999999) : (itoaB n).size ≤ 24 := int_len h0 (by omega)
theorem quote_size (v : ByteArray) : (quoteB v).size ≤ 2 * v.size + 2 := quote_len v
theorem node_parts {e : Ex} (h : nodeB e = true) : NodeOk e.op e.name e.value e.n e.extra e.kids.length := of_decide_eq_true h
theorem sumL_getD (ts : List ByteArray) (i : Nat) : (ts.getD i e0).size ≤ sumL ts := by
  induction ts generalizing i with
  | nil => exact Nat.le_refl _
  | cons a r ih =>
    cases i with
    | zero => show a.size ≤ a.size + sumL r; omega
    | succ i =>
      have := ih i
      show ((r.getD i e0)).size ≤ a.size + sumL r
      omega
set_option maxHeartbeats 2000000 in
/-- The text of a valid condition is short. -/
theorem texE_len : ∀ e : Ex, allB e = true → (texE e).size + 10 ≤ 500 * cnt e := by
  refine Ex.ind fun e ih h => ?_
  rw [allB_eq, Bool.and_eq_true] at h
  obtain ⟨h1, h2⟩ := h
  have hs : ∀ ks : List Ex, (∀ k ∈ ks, allB k = true → (texE k).size + 10 ≤ 500 * cnt k) → allsB ks = true → sumL (texs e.op ks) + ks.length * 5 ≤ 500 * cnts ks ∧ (texs e.op ks).length = ks.length := by
    intro ks
    induction ks with
    | nil => intro _ _; rw [texs_nil, cnts_nil]; exact ⟨Nat.le_refl _, rfl⟩
    | cons k r ihr =>
      intro hk ha
      rw [allsB_cons, Bool.and_eq_true] at ha
      have a1 := hk k (List.mem_cons_self ..) ha.1
      obtain ⟨a2, a3⟩ := ihr (fun x hx => hk x (List.mem_cons_of_mem _ hx)) ha.2
      have a4 := kidT_len e.op k.op (texE k)
      rw [texs_cons, cnts_cons, List.length_cons, List.length_cons, a3]
      refine ⟨?_, rfl⟩
      show (kidT e.op k.op (texE k)).size + sumL (texs e.op r) + _ ≤ _
      omega
  obtain ⟨g1, g2⟩ := hs e.kids ih h2
  have hg := sumL_getD (texs e.op e.kids) 0
  have hj1 := joined_len sAnd (texs e.op e.kids)
  have hj2 := joined_len sOr (texs e.op e.kids)
  rw [g2] at hj1 hj2
  have z1 : sAnd.size = 5 := rfl
  have z2 : sOr.size = 4 := rfl
  rw [z1] at hj1
  rw [z2] at hj2
  obtain ⟨_, _, hnm, _, hv, hn, hx⟩ := node_parts h1
  rw [texE_eq, cnt_eq]
  have l1 : sNot.size = 4 := rfl
  have l2 : sLimit.size = 6 := rfl
  have l3 : sSpace.size = 1 := rfl
  have l4 : sPlus.size = 6 := rfl
  have l5 : sOver.size = 5 := rfl
  have l6 : sEq.size = 3 := rfl
  have l7 : sHas.size = 4 := rfl
  have l8 : sSlot.size = 5 := rfl
  have l9 : sIs.size = 4 := rfl
  have l10 : sAll.size = 4 := rfl
  have l11 : sAny.size = 4 := rfl
  have l12 : sOpen.size = 2 := rfl
  have l13 : sAt.size = 9 := rfl
  have l14 : wShut.size = 1 := rfl
  have l15 : wTrue.size = 4 := rfl
  have hq := quote_size e.value
  unfold nodeT
  repeat' split
  all_goals (try simp only [size_app])
  all_goals try omega
  all_goals (rw [if_neg (by omega)] at hnm; have hnm := name_le hnm)
  · rw [if_pos (by omega)] at hn
    rw [if_pos (by assumption)] at hx
    have := itoa_len hn.1 hn.2
    have := itoa_len hx.1 hx.2
    omega
  · rw [if_pos (by omega)] at hn
    have := itoa_len hn.1 hn.2
    omega
  · rw [if_pos (by omega)] at hn
    have := itoa_len hn.1 hn.2
    omega
  · rw [if_pos (by assumption)] at hv
    omega
  · omega
  · rw [if_neg (by omega), if_pos (by assumption)] at hv
    have := name_le hv
    omega
  · omega
  · omega
  · rw [if_neg (by omega), if_pos (by assumption)] at hn
    have := itoa_len (by omega) hn.2
    omega
end Go.Proofs.YtppoeiofdmlpeaaGreatDoor
namespace Go.Proofs.YtppoeiofdmlpeaaGreatDoor
open Go Go.RowKit
theorem cells_snocQ (acc : List UInt8) (b : UInt8) : Lib.byteCells acc ++ [.int .u8 (b.toNat : Int)] = Lib.byteCells (acc ++ [b]) := by
  simp [Lib.byteCells]
def quoTo (v : ByteArray) (k : Nat) : List UInt8 := 34 :: (v.data.toList.take k).flatMap escL
theorem quoTo_succ (v : ByteArray) (k : Nat) (h : k < v.size) : quoTo v (k + 1) = quoTo v k ++ escL v[k] := by
  unfold quoTo
  have hl : k < v.data.toList.length := h
  rw [List.take_succ_eq_append_getElem hl, List.flatMap_append]
  simp
  rfl
theorem quoTo_len (v : ByteArray) (k : Nat) (_h : k ≤ v.size) : (quoTo v k).length ≤ 2 * k + 1 := by
  have h2 : ∀ l : List UInt8, (l.flatMap escL).length ≤ 2 * l.length := by
    intro l
    induction l with
    | nil => exact Nat.le_refl _
    | cons c l ih =>
      rw [List.flatMap_cons, List.length_append, List.length_cons]
      have : (escL c).length ≤ 2 := by
        unfold escL
        split
        · exact Nat.le_refl _
        · split
          · exact Nat.le_refl _
          · exact Nat.le_succ _
      omega
  have h3 := h2 (v.data.toList.take k)
  rw [List.length_take] at h3
  unfold quoTo
  rw [List.length_cons]
  omega
theorem quoTo_all (v : ByteArray) : quoTo v v.size ++ [34] = quoteL v.data.toList := by
  unfold quoTo quoteL
  rw [show v.size = v.data.toList.length from rfl, List.take_length]; rfl
set_option maxRecDepth 100000 in
set_option maxHeartbeats 8000000 in
theorem quote_any (v : ByteArray) (w : World) (hs : v.size ≤ 1000000) :
    Calls Tryz.prog 39 #[.string v] w fun e w' => e = .returned (.string (quoteB v)) ∧ Below w.heap.size w w' := by
  have HB0 := Lib.hid (Lib.fresh_isBuilder 89 5 w)
  have HBw := Lib.hid ((Below.refl w.heap.size w).alloc (Nat.le_refl _) (.cells #[.pointer none, .slice none 0 0] 89))
  have HQ := Lib.hid (show (⟨(quoTo v v.size ++ [34]).toArray⟩ : ByteArray) = quoteB v by rw [quoTo_all]; rfl)
  go_enter Tryz.func39, Tryz.ntmps39
  go_wp2_with (go_at_call 66; refine (writeByte_any w.heap.size w.heap.size [] 34 _ HB0.out (by simp) (by simp)).mono ?_; rintro e w2 ⟨rfl, hi2, hb2⟩; have HB2 := Lib.hid (HBw.out.trans hb2); have HI2 := Lib.hid (show Lib.IsBuilder 89 5 w.heap.size w.heap.size (Lib.byteCells (quoTo v 0)) w2 from hi2); clear hb2 hi2)
  go_loopw [9] (fun i wr => ∃ k : Nat, i = .int .i64 k ∧ k ≤ v.size ∧ Hid (Lib.IsBuilder 89 5 w.heap.size w.heap.size (Lib.byteCells (quoTo v k)) wr) ∧ Hid (Below w.heap.size w wr)) (fun i _ => v.size - (intOf i).toNat)
  case atStart => exact ⟨0, rfl, Nat.zero_le _, HI2.out, HB2.out⟩
  case round =>
    clear HB0 HBw HI2 HB2
    obtain ⟨k, rfl, hk, HI, HB⟩ := hrel
    have hzw := HB.out.size
    have hql := quoTo_len v k hk
    by_cases hlt : k < v.size
    · have hki : (k : Int) < (v.size : Int) := by omega
      have hb8 := UInt8.toNat_lt v[k]
      have HS := Lib.hid (quoTo_succ v k hlt)
      by_cases e1 : v[k].toNat = 10
      · have HS2 := Lib.hid (show quoTo v (k + 1) = quoTo v k ++ [92, 110] by rw [HS.out]; unfold escL; rw [if_pos (UInt8.toNat_inj.1 (by rw [e1]; rfl))])
        clear HS
        go_wp2_with (go_at_call 64; refine (writeStr_any w.heap.size w.heap.size (Lib.byteCells (quoTo v k)) _ _ HI.out (by rw [Lib.byteCells_length]; show _ + 2 ≤ _; omega) hzw).mono ?_; rintro e w3 ⟨rfl, hi3, hb3⟩; have HI3 := Lib.hid (show Lib.IsBuilder 89 5 w.heap.size w.heap.size (Lib.byteCells (quoTo v (k + 1))) w3 by rw [HS2.out]; unfold Lib.byteCells; rw [List.map_append]; exact hi3); have HB3 := Lib.hid (HB.out.trans hb3); clear hb3 hi3)
        go_roundw
        case rel => exact ⟨k + 1, by go_num, by omega, HI3.out, HB3.out⟩
        case measure => simp [intOf]; omega
      · by_cases e2 : v[k].toNat = 34 ∨ v[k].toNat = 92
        · have HS2 := Lib.hid (show quoTo v (k + 1) = (quoTo v k ++ [92]) ++ [v[k]] by
            rw [HS.out]; unfold escL
            rw [if_neg (fun h => e1 (by rw [h]; rfl)), if_pos (by rcases e2 with h | h; exact .inl (UInt8.toNat_inj.1 (by rw [h]; rfl)); exact .inr (UInt8.toNat_inj.1 (by rw [h]; rfl)))]
            simp)
          clear HS
          rcases e2 with e2 | e2
          · have hvk : v[k] = 34 := UInt8.toNat_inj.1 (by rw [e2]; rfl)
            rw [hvk] at HS2
            clear hvk
            go_wp2_with (first
              | (go_at_call 66; refine (writeByte_any w.heap.size w.heap.size (Lib.byteCells (quoTo v k)) 92 _ HI.out (by rw [Lib.byteCells_length]; omega) hzw).mono ?_; clear HI; rintro e w3 ⟨rfl, hi3, hb3⟩; have HI3 := Lib.hid (show Lib.IsBuilder 89 5 w.heap.size w.heap.size (Lib.byteCells (quoTo v k ++ [92])) w3 by rw [← cells_snocQ]; exact hi3); have HB3 := Lib.hid (HB.out.trans hb3); clear hb3 hi3)
              | (go_at_call 66; refine (writeByte_any w.heap.size w.heap.size (Lib.byteCells (quoTo v k ++ [92])) 34 _ HI3.out (by rw [Lib.byteCells_length, List.length_append, List.length_singleton]; omega) HB3.out.size).mono ?_; clear HI3; rintro e w4 ⟨rfl, hi4, hb4⟩; have HI4 := Lib.hid (show Lib.IsBuilder 89 5 w.heap.size w.heap.size (Lib.byteCells (quoTo v (k + 1))) w4 by rw [HS2.out, ← cells_snocQ]; exact hi4); have HB4 := Lib.hid (HB3.out.trans hb4); clear hb4 hi4))
            go_roundw
            case rel => exact ⟨k + 1, by go_num, by omega, HI4.out, HB4.out⟩
            case measure => simp [intOf]; omega
          · have hvk : v[k] = 92 := UInt8.toNat_inj.1 (by rw [e2]; rfl)
            rw [hvk] at HS2
            clear hvk
            go_wp2_with (first
              | (go_at_call 66; refine (writeByte_any w.heap.size w.heap.size (Lib.byteCells (quoTo v k)) 92 _ HI.out (by rw [Lib.byteCells_length]; omega) hzw).mono ?_; clear HI; rintro e w3 ⟨rfl, hi3, hb3⟩; have HI3 := Lib.hid (show Lib.IsBuilder 89 5 w.heap.size w.heap.size (Lib.byteCells (quoTo v k ++ [92])) w3 by rw [← cells_snocQ]; exact hi3); have HB3 := Lib.hid (HB.out.trans hb3); clear hb3 hi3)
              | (go_at_call 66; refine (writeByte_any w.heap.size w.heap.size (Lib.byteCells (quoTo v k ++ [92])) 92 _ HI3.out (by rw [Lib.byteCells_length, List.length_append, List.length_singleton]; omega) HB3.out.size).mono ?_; clear HI3; rintro e w4 ⟨rfl, hi4, hb4⟩; have HI4 := Lib.hid (show Lib.IsBuilder 89 5 w.heap.size w.heap.size (Lib.byteCells (quoTo v (k + 1))) w4 by rw [HS2.out, ← cells_snocQ]; exact hi4); have HB4 := Lib.hid (HB3.out.trans hb4); clear hb4 hi4))
            go_roundw
            case rel => exact ⟨k + 1, by go_num, by omega, HI4.out, HB4.out⟩
            case measure => simp [intOf]; omega
        · have e3 : ¬ v[k].toNat = 34 := fun h => e2 (.inl h)
          have e4 : ¬ v[k].toNat = 92 := fun h => e2 (.inr h)
          have HS2 := Lib.hid (show quoTo v (k + 1) = quoTo v k ++ [v[k]] by
            rw [HS.out]; unfold escL
            rw [if_neg (fun h => e1 (by rw [h]; rfl)), if_neg (fun h => e2 (h.imp (fun h => by rw [h]; rfl) (fun h => by rw [h]; rfl)))])
          clear HS e2
          go_wp2_with (go_at_call 66; refine (writeByte_any w.heap.size w.heap.size (Lib.byteCells (quoTo v k)) _ _ HI.out (by rw [Lib.byteCells_length]; omega) hzw).mono ?_; rintro e w3 ⟨rfl, hi3, hb3⟩; rw [cells_snocQ, ← HS2.out] at hi3; have HI3 := Lib.hid hi3; have HB3 := Lib.hid (HB.out.trans hb3); clear hb3 hi3)
          go_roundw
          case rel => exact ⟨k + 1, by go_num, by omega, HI3.out, HB3.out⟩
          case measure => simp [intOf]; omega
    · obtain rfl : k = v.size := by omega
      go_wp2_with (first
        | (go_at_call 66; refine (writeByte_any w.heap.size w.heap.size (Lib.byteCells (quoTo v v.size)) 34 _ HI.out (by rw [Lib.byteCells_length]; omega) hzw).mono ?_; rintro e w3 ⟨rfl, hi3, hb3⟩; have HI3 := Lib.hid (show Lib.IsBuilder 89 5 w.heap.size w.heap.size (Lib.byteCells (quoTo v v.size ++ [34])) w3 by rw [← cells_snocQ]; exact hi3); have HB3 := Lib.hid (HB.out.trans hb3); clear hb3 hi3)
        | (go_at_call 65; refine (Tryz.Builder_String_any w.heap.size w.heap.size (quoTo v v.size ++ [34]) _ HI3.out HB3.out.size).mono ?_; rintro e w4 ⟨rfl, hb4⟩; rw [HQ.out]; have HB4 := Lib.hid (HB3.out.trans hb4); clear hb4))
      go_ret
      exact ⟨rfl, HB4.out⟩
end Go.Proofs.YtppoeiofdmlpeaaGreatDoor
namespace Go.Proofs.YtppoeiofdmlpeaaGreatDoor
open Go Go.RowKit
/-- strconv's table of powers of ten. -/
def Tab (w : World) : Prop := Lib.TabIs Tryz.prog w "internal/strconv.uint64pow10" .u64 Lib.pow10Tab
theorem Tab.below {w w' : World} (h : Tab w) (hb : Below w.heap.size w w') : Tab w' := by
  unfold Tab Lib.TabIs World.var? at h ⊢
  cases hg : Program.globalNamed Tryz.prog "internal/strconv.uint64pow10" with
  | none => rw [hg] at h; cases h
  | some g =>
    rw [hg] at h
    simp only [Option.bind_some] at h ⊢
    have hlt : g < w.heap.size := by
      rcases Nat.lt_or_ge g w.heap.size with h' | h'
      · exact h'
      · rw [Array.getElem?_eq_none h'] at h; cases h
    rw [hb.block g hlt]
    exact h
theorem below_grow {B : Nat} {w w' : World} (h : Below B w w') (hB : B ≤ w'.heap.size) (os : Array Obj) : Below B w (Sort.grow w' os) :=
  ⟨h.os, h.tape, h.output, by show _ ≤ (w'.heap ++ os).size; rw [Array.size_append]; have := h.size; omega, fun k hk => by
    rw [Sort.heap_grow_old w' os (by omega)]; exact h.block k hk⟩
theorem drewN_below (w : World) (k : Nat) : Below w.heap.size w (w.drewN k) := below_drewN (Below.refl _ _) k
theorem itoa_any (w0 : World) (h : Tab w0) (n : Int) (h0 : -9223372036854775808 ≤ n) (h1 : n ≤ 9223372036854775807) (w : World) (hb : Below w0.heap.size w0 w) :
    Calls Tryz.prog 37 #[.int .i64 n] w fun e w' => e = .returned (.string (itoaB n)) ∧ Below w.heap.size w w' := by
  refine (Tryz.strconv_Itoa n h0 h1 w (h.below hb)).mono ?_
  rintro e w' ⟨rfl, k, os, rfl⟩
  exact ⟨rfl, below_grow (drewN_below w k) (Nat.le_refl _) os⟩
end Go.Proofs.YtppoeiofdmlpeaaGreatDoor
namespace Go.Proofs.YtppoeiofdmlpeaaGreatDoor
open Go Go.RowKit
theorem join_any (v : Value) (l : List ByteArray) (sep : ByteArray) (w : World) (h : Sl w v l.length 1 (strF l)) (hl : l.length ≤ 1000000) (hlen : (joined l sep).size ≤ 140737488355328) :
    Calls Tryz.prog 38 #[v, .string sep] w fun e w' => e = .returned (.string (joined l sep)) ∧ Below w.heap.size w w' := by
  obtain ⟨A, c, rfl, hn, h0 | ⟨b, o, rfl, hc⟩⟩ := h
  · have : l = [] := List.eq_nil_of_length_eq_zero h0
    subst this
    refine (Tryz.strings_Join_none A c sep w).mono fun e w' ⟨h1, h2⟩ => ⟨h1, h2 ▸ Below.refl _ _⟩
  · by_cases hz : l.length = 0
    · have : l = [] := List.eq_nil_of_length_eq_zero hz
      subst this
      refine (Tryz.strings_Join_none _ c sep w).mono fun e w' ⟨h1, h2⟩ => ⟨h1, h2 ▸ Below.refl _ _⟩
    · have hcell : ∀ (j : Nat) x, l[j]? = some x → w.cell? ⟨b, o + j, none⟩ = some (.string x) := fun j x hx => by
        have hj : j < l.length := by
          rcases Nat.lt_or_ge j l.length with h1 | h1
          · exact h1
          · rw [List.getElem?_eq_none h1] at hx; cases hx
        rw [hc j (by omega)]
        unfold strF
        rw [List.getD_eq_getElem?_getD, hx]; rfl
      have hb : b < w.heap.size := World.block_lt_of_cell? _ _ (hc 0 (by omega))
      exact (Tryz.strings_Join b o c l sep w hcell hb (by omega) hn hlen).mono fun e w' ⟨h1, h2⟩ => ⟨h1, h2⟩
theorem own_of_has {w : World} {g t : Nat} {cs : Array Value} {base n sz : Nat} (h : Has w g t cs) (hb : base ≤ g) (hs : cs.size = n * sz) (hn : n ≤ maxLen) :
    w.ownsRow base t sz (.slice (some ⟨g, 0, none⟩) n n) n cs.toList :=
  ⟨by simpa using hs, .inr ⟨g, n, cs, rfl, hb, h, Nat.le_refl _, hn, hs, by rw [List.take_of_length_le (by simp [hs])]⟩⟩
theorem str_own {w : World} {base : Nat} {t : Nat} {v : Value} {l : List ByteArray} (h : w.ownsRow base t 1 v l.length (l.map .string)) : Sl w v l.length 1 (strF l) := by
  rcases h.2 with ⟨rfl, h0⟩ | ⟨g, cap, cur, rfl, hg, hh, hn, hc, hs, ht⟩
  · rw [h0]; exact ⟨_, _, rfl, Nat.le_refl _, .inl rfl⟩
  · refine ⟨_, cap, rfl, hn, .inr ⟨g, 0, rfl, fun j hj => ?_⟩⟩
    have hj' : j < l.length := by omega
    rw [Nat.zero_add, cell_of_row w g j cur t (0, 0) hh]
    have h1 : (l.map Value.string)[j]? = some (strF l j) := by
      unfold strF
      rw [List.getElem?_map, List.getD_eq_getElem?_getD, List.getElem?_eq_getElem hj']; rfl
    rw [← ht, List.getElem?_take, if_pos hj] at h1
    simpa using h1
theorem info_str : (Tryz.prog.info? 9).map (fun i => (i.zero, i.size, i.bytes)) = some (some (.string ⟨#[]⟩), 1, 16) := by kernel_rfl
theorem lit_src (w : World) (l : List ByteArray) (t : TypeId) : ∀ j u, (l.map Value.string)[j]? = some u → (w.alloc (.cells (l.map Value.string).toArray t)).cell? ((⟨w.heap.size, 0, none⟩ : Addr).add j) = some u := fun j u h => by
  have h1 := (Has.new w t (l.map Value.string).toArray).facts.1 j
  rw [Addr.add_mid, Nat.zero_add, h1]; simpa using h
theorem itoaQ (w0 : World) (ht : Tab w0) (n : Int) (hn : -1000000000 ≤ n ∧ n ≤ 1000000000) (w : World) (hb : Below w0.heap.size w0 w) :
    Calls Tryz.prog 37 #[.int .i64 n] w fun e w' => e = .returned (.string (itoaB n)) ∧ Below w.heap.size w w' := itoa_any w0 ht n (by omega) (by omega) w hb
end Go.Proofs.YtppoeiofdmlpeaaGreatDoor
namespace Go.Proofs.YtppoeiofdmlpeaaGreatDoor
open Go Go.RowKit
def hr1 : Ru := ⟨⟨#[114]⟩, ⟨#[99, 111, 97, 99, 104]⟩, .mk 3 e0 e0 0 0 [.mk 5 ⟨#[107, 109]⟩ e0 800000 20000 [], .mk 2 e0 e0 0 0 [.mk 4 e0 e0 0 0 [.mk 8 ⟨#[98, 97, 116, 99, 104]⟩ e0 0 0 [], .mk 10 ⟨#[119, 104, 101, 101, 108, 115, 101, 116]⟩ e0 0 0 [.mk 6 ⟨#[100, 97, 121, 115]⟩ e0 5 0 []]]]]⟩
def hx1 : ByteArray := ⟨#[114, 117, 108, 101, 32, 114, 32, 102, 111, 114, 32, 99, 111, 97, 99, 104, 58, 32, 108, 105, 109, 105, 116, 32, 107, 109, 32, 56, 48, 48, 48, 48, 48, 32, 112, 108, 117, 115, 32, 50, 48, 48, 48, 48, 32, 97, 110, 100, 32, 110, 111, 116, 32, 40, 104, 97, 115, 32, 98, 97, 116, 99, 104, 32, 111, 114, 32, 97, 108, 108, 32, 119, 104, 101, 101, 108, 115, 101, 116, 32, 40, 111, 118, 101, 114, 32, 100, 97, 121, 115, 32, 53, 41, 41, 59]⟩
def ht1 : List Fnd := [⟨1, ⟨#[114, 117, 108, 101]⟩, 0, 0⟩, ⟨1, ⟨#[114]⟩, 5, 0⟩, ⟨1, ⟨#[102, 111, 114]⟩, 7, 0⟩, ⟨1, ⟨#[99, 111, 97, 99, 104]⟩, 11, 0⟩, ⟨4, ⟨#[58]⟩, 16, 0⟩, ⟨1, ⟨#[108, 105, 109, 105, 116]⟩, 18, 0⟩, ⟨1, ⟨#[107, 109]⟩, 24, 0⟩, ⟨2, ⟨#[56, 48, 48, 48, 48, 48]⟩, 27, 0⟩, ⟨1, ⟨#[112, 108, 117, 115]⟩, 34, 0⟩, ⟨2, ⟨#[50, 48, 48, 48, 48]⟩, 39, 0⟩, ⟨1, ⟨#[97, 110, 100]⟩, 45, 0⟩, ⟨1, ⟨#[110, 111, 116]⟩, 49, 0⟩, ⟨4, ⟨#[40]⟩, 53, 0⟩, ⟨1, ⟨#[104, 97, 115]⟩, 54, 0⟩, ⟨1, ⟨#[98, 97, 116, 99, 104]⟩, 58, 0⟩, ⟨1, ⟨#[111, 114]⟩, 64, 0⟩, ⟨1, ⟨#[97, 108, 108]⟩, 67, 0⟩, ⟨1, ⟨#[119, 104, 101, 101, 108, 115, 101, 116]⟩, 71, 0⟩, ⟨4, ⟨#[40]⟩, 80, 0⟩, ⟨1, ⟨#[111, 118, 101, 114]⟩, 81, 0⟩, ⟨1, ⟨#[100, 97, 121, 115]⟩, 86, 0⟩, ⟨2, ⟨#[53]⟩, 91, 0⟩, ⟨4, ⟨#[41]⟩, 92, 0⟩, ⟨4, ⟨#[41]⟩, 93, 0⟩, ⟨4, ⟨#[59]⟩, 94, 0⟩]
set_option maxRecDepth 100000 in
theorem lex_h1 : lexL hx1 = (ht1, 0, 0) := by kernel_rfl
set_option maxRecDepth 100000 in
theorem rule_h1 : ruleP 95 ht1 = .ok hr1 [] := by kernel_rfl
theorem head_q1 : parseU hx1 = (hr1, 0, 0) := by
  unfold parseU
  rw [lex_h1]
  show (match ruleP 95 ht1 with | .bad e a => (ru0, e, a) | .ok r _ => if 60 < cnt r.cond then (ru0, 7, 0) else (r, 0, 0)) = _
  rw [rule_h1]
  rfl
def hx2 : ByteArray := ⟨#[114, 117, 108, 101, 32, 114, 32, 102, 111, 114, 32, 97, 120, 108, 101, 58, 32, 98, 97, 116, 99, 104, 32, 61, 32, 34, 34, 59]⟩
def ht2 : List Fnd := [⟨1, ⟨#[114, 117, 108, 101]⟩, 0, 0⟩, ⟨1, ⟨#[114]⟩, 5, 0⟩, ⟨1, ⟨#[102, 111, 114]⟩, 7, 0⟩, ⟨1, ⟨#[97, 120, 108, 101]⟩, 11, 0⟩, ⟨4, ⟨#[58]⟩, 15, 0⟩, ⟨1, ⟨#[98, 97, 116, 99, 104]⟩, 17, 0⟩, ⟨4, ⟨#[61]⟩, 23, 0⟩, ⟨3, ⟨#[]⟩, 25, 0⟩, ⟨4, ⟨#[59]⟩, 27, 0⟩]
set_option maxRecDepth 100000 in
theorem lex_h2 : lexL hx2 = (ht2, 0, 0) := by kernel_rfl
set_option maxRecDepth 100000 in
theorem rule_h2 : ruleP 28 ht2 = .bad 13 25 := by kernel_rfl
theorem head_q2 : parseU hx2 = (ru0, 13, 25) := by
  unfold parseU
  rw [lex_h2]
  show (match ruleP 28 ht2 with | .bad e a => (ru0, e, a) | .ok r _ => if 60 < cnt r.cond then (ru0, 7, 0) else (r, 0, 0)) = _
  rw [rule_h2]
def hx3 : ByteArray := ⟨#[114, 117, 108, 101, 32, 114, 32, 102, 111, 114, 32, 97, 120, 108, 101, 58, 32, 97, 116, 32, 108, 101, 97, 115, 116, 32, 48, 32, 97, 120, 108, 101, 59]⟩
def ht3 : List Fnd := [⟨1, ⟨#[114, 117, 108, 101]⟩, 0, 0⟩, ⟨1, ⟨#[114]⟩, 5, 0⟩, ⟨1, ⟨#[102, 111, 114]⟩, 7, 0⟩, ⟨1, ⟨#[97, 120, 108, 101]⟩, 11, 0⟩, ⟨4, ⟨#[58]⟩, 15, 0⟩, ⟨1, ⟨#[97, 116]⟩, 17, 0⟩, ⟨1, ⟨#[108, 101, 97, 115, 116]⟩, 20, 0⟩, ⟨2, ⟨#[48]⟩, 26, 0⟩, ⟨1, ⟨#[97, 120, 108, 101]⟩, 28, 0⟩, ⟨4, ⟨#[59]⟩, 32, 0⟩]
set_option maxRecDepth 100000 in
theorem lex_h3 : lexL hx3 = (ht3, 0, 0) := by kernel_rfl
set_option maxRecDepth 100000 in
theorem rule_h3 : ruleP 33 ht3 = .bad 13 26 := by kernel_rfl
theorem head_q3 : parseU hx3 = (ru0, 13, 26) := by
  unfold parseU
  rw [lex_h3]
  show (match ruleP 33 ht3 with | .bad e a => (ru0, e, a) | .ok r _ => if 60 < cnt r.cond then (ru0, 7, 0) else (r, 0, 0)) = _
  rw [rule_h3]
def hx4 : ByteArray := ⟨#[114, 117, 108, 101, 32, 114, 32, 102, 111, 114, 32, 97, 120, 108, 101, 58, 32, 110, 111, 116]⟩
def ht4 : List Fnd := [⟨1, ⟨#[114, 117, 108, 101]⟩, 0, 0⟩, ⟨1, ⟨#[114]⟩, 5, 0⟩, ⟨1, ⟨#[102, 111, 114]⟩, 7, 0⟩, ⟨1, ⟨#[97, 120, 108, 101]⟩, 11, 0⟩, ⟨4, ⟨#[58]⟩, 15, 0⟩, ⟨1, ⟨#[110, 111, 116]⟩, 17, 0⟩]
set_option maxRecDepth 100000 in
theorem lex_h4 : lexL hx4 = (ht4, 0, 0) := by kernel_rfl
set_option maxRecDepth 100000 in
theorem rule_h4 : ruleP 20 ht4 = .bad 9 20 := by kernel_rfl
theorem head_q4 : parseU hx4 = (ru0, 9, 20) := by
  unfold parseU
  rw [lex_h4]
  show (match ruleP 20 ht4 with | .bad e a => (ru0, e, a) | .ok r _ => if 60 < cnt r.cond then (ru0, 7, 0) else (r, 0, 0)) = _
  rw [rule_h4]
set_option maxRecDepth 100000 in
theorem head_tx : textU hr1 = (⟨#[114, 117, 108, 101, 32, 114, 32, 102, 111, 114, 32, 99, 111, 97, 99, 104, 58, 32, 108, 105, 109, 105, 116, 32, 107, 109, 32, 56, 48, 48, 48, 48, 48, 32, 112, 108, 117, 115, 32, 50, 48, 48, 48, 48, 32, 97, 110, 100, 32, 110, 111, 116, 32, 40, 104, 97, 115, 32, 98, 97, 116, 99, 104, 32, 111, 114, 32, 97, 108, 108, 32, 119, 104, 101, 101, 108, 115, 101, 116, 32, 40, 111, 118, 101, 114, 32, 100, 97, 121, 115, 32, 53, 41, 41, 59, 10]⟩, 0) := by kernel_rfl
theorem head_ok : ruleB hr1 = true := by kernel_rfl
end Go.Proofs.YtppoeiofdmlpeaaGreatDoor
