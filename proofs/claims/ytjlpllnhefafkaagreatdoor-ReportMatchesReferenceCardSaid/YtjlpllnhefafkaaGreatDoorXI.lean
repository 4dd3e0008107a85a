/- Plain: a list of lines and its text, for lines without a line feed. No condition. Plain: the text of a report, and the report of a text. No condition. report.Text. Condition: the table of powers of ten, and that the strings are strings that lie in memory. -/
import Derived.Deep.RegionHeld3
import Derived.Lib.Split
import Derived.Maps.AppendAt
import Derived.Test.YtjlpllnhefafkaaGreatDoorU07
import Derived.Test.YtjlpllnhefafkaaGreatDoorU08
import Derived.Test.YtjlpllnhefafkaaGreatDoorXF
namespace Go.Proofs.YtjlpllnhefafkaaGreatDoor
open Go Go.RowKit
/-- The lines of a text: what lies between its line feeds. -/
def linesL : List UInt8 → List (List UInt8)
  | [] => [[]]
  | c :: r => if c = 10 then [] :: linesL r else match linesL r with
    | [] => [[c]]
    | l :: q => (c :: l) :: q
theorem linesL_ne (l : List UInt8) : linesL l ≠ [] := by
  cases l with
  | nil => intro h; cases h
  | cons c r =>
    unfold linesL
    split
    · intro h; cases h
    · split <;> (intro h; cases h)
/-- A line without a line feed, and then one: it is the first of the lines. -/
theorem linesL_line (l r : List UInt8) (h : ∀ c ∈ l, c ≠ 10) : linesL (l ++ 10 :: r) = l :: linesL r := by
  induction l with
  | nil => rfl
  | cons c q ih =>
    have h1 : c ≠ 10 := h c (List.mem_cons_self ..)
    have h2 := ih (fun d hd => h d (List.mem_cons_of_mem _ hd))
    show (if c = 10 then _ else match linesL (q ++ 10 :: r) with | [] => [[c]] | l :: q => (c :: l) :: q) = _
    rw [if_neg h1, h2]
end Go.Proofs.YtjlpllnhefafkaaGreatDoor
namespace Go.Proofs.YtjlpllnhefafkaaGreatDoor
open Go Go.RowKit
def sureS : ByteArray := ⟨#[115, 117, 114, 101]⟩
def perhapsS : ByteArray := ⟨#[112, 101, 114, 104, 97, 112, 115]⟩
/-- The lines of a report. -/
def lines (T : Ev → ByteArray) (l : List Ev) (d : Bool) (k : Nat) : List ByteArray := (if d then perhapsS else sureS) :: (l.take k).map T
def repTxt (T : Ev → ByteArray) (l : List Ev) (d : Bool) : ByteArray := joined (lines T l d l.length) ⟨#[10]⟩ ++ ⟨#[10]⟩
theorem lines_succ (T : Ev → ByteArray) (l : List Ev) (d : Bool) (k : Nat) (h : k < l.length) : lines T l d (k + 1) = lines T l d k ++ [T (l.getD k noEv)] := by
  unfold lines; rw [take_getD l k noEv h]; simp
theorem lines_len (T : Ev → ByteArray) (l : List Ev) (d : Bool) (k : Nat) (h : k ≤ l.length) : (lines T l d k).length = 1 + k := by
  unfold lines; simp; omega
theorem lines_hit (r : List UInt8) : linesL (10 :: r) = [] :: linesL r := by
  show (if (10 : UInt8) = 10 then _ else _) = _
  rw [if_pos rfl]
theorem lines_miss {c : UInt8} (h : c ≠ 10) (r l : List UInt8) (q : List (List UInt8)) (hr : linesL r = l :: q) : linesL (c :: r) = (c :: l) :: q := by
  show (if c = 10 then _ else match linesL r with | [] => [[c]] | l :: q => (c :: l) :: q) = _
  rw [if_neg h, hr]
/-- strings.Split at the line feed: the lines. -/
theorem split_lines : ∀ l : List UInt8, Lib.split l [10] = linesL l
  | [] => rfl
  | c :: r => by
    have ih := split_lines r
    by_cases hc : c = 10
    · subst hc
      have hi : Lib.index (10 :: r) [10] = ((0 : Nat) : Int) := by
        unfold Lib.index
        rw [if_pos (by rfl)]; rfl
      rw [lines_hit, ← ih]
      unfold Lib.split
      rw [Lib.count_hit (by simp) hi, Nat.add_comm 1]
      conv => lhs; unfold Lib.splitK
      rw [hi, if_neg (by decide)]
      rfl
    · have hp : ¬ ([10] : List UInt8).isPrefixOf (c :: r) = true := by
        simp [List.isPrefixOf, Ne.symm hc]
      by_cases hm : Lib.index r [10] = -1
      · have hi : Lib.index (c :: r) [10] = -1 := by
          unfold Lib.index
          rw [if_neg hp, hm]; rfl
        have h1 : Lib.split r [10] = [r] := by
          unfold Lib.split
          rw [Lib.count_miss hm]; rfl
        rw [lines_miss hc r r [] (by rw [← ih, h1])]
        unfold Lib.split
        rw [Lib.count_miss hi]; rfl
      · obtain ⟨i, hi⟩ : ∃ i : Nat, Lib.index r [10] = i := ⟨(Lib.index r [10]).toNat, by have := Lib.index_ge r [10]; omega⟩
        have hi2 : Lib.index (c :: r) [10] = ((i + 1 : Nat) : Int) := by
          unfold Lib.index
          rw [if_neg hp, hi, if_neg (by rw [beq_iff_eq]; omega)]; omega
        have h1 : Lib.split r [10] = r.take i :: Lib.splitK [10] 0 (Lib.count (r.drop (i + 1)) [10]) (r.drop (i + 1)) := by
          unfold Lib.split
          rw [Lib.count_hit (by simp) hi, Nat.add_comm 1]
          conv => lhs; unfold Lib.splitK
          rw [hi, if_neg (by rw [beq_iff_eq]; omega)]
          rfl
        rw [lines_miss hc r _ _ (by rw [← ih, h1])]
        unfold Lib.split
        rw [Lib.count_hit (by simp) hi2, Nat.add_comm 1]
        conv => lhs; unfold Lib.splitK
        rw [hi2, if_neg (by rw [beq_iff_eq]; omega)]
        simp
def nlB : ByteArray := ⟨#[10]⟩
def linesB (s : ByteArray) : List ByteArray := (linesL s.data.toList).map fun l => ⟨l.toArray⟩
theorem map_back : ∀ l : List ByteArray, (l.map (·.data.toList)).map (fun x => (⟨x.toArray⟩ : ByteArray)) = l
  | [] => rfl
  | b :: r => by rw [List.map_cons, List.map_cons, map_back r]
theorem split_linesB (s : ByteArray) : Lib.splitB nlB 0 (Lib.countB s nlB) s = linesB s := by
  rw [← map_back (Lib.splitB nlB 0 (Lib.countB s nlB) s), Lib.splitB_data]
  exact congrArg _ (split_lines s.data.toList)
theorem linesB_pos (s : ByteArray) : 0 < (linesB s).length := by
  unfold linesB
  rw [List.length_map]
  exact List.length_pos_iff.2 (linesL_ne _)
/-- No line feed in a text. -/
def NL (b : ByteArray) : Prop := ∀ c ∈ b.data.toList, c ≠ 10
theorem cls_ten : cls 10 = 1 := by decide +kernel
theorem nl_name {b : ByteArray} (h : nameB b = true) : NL b := fun c hc e => by
  obtain ⟨h0, h1, h2⟩ := of_decide_eq_true h
  obtain ⟨i, hi, rfl⟩ := List.getElem_of_mem hc
  have h3 := h2 i hi
  have e2 : byteAt b i = (b.data.toList[i]).toNat := by
    unfold byteAt; rw [List.getD_eq_getElem?_getD, List.getElem?_eq_getElem hi]; rfl
  rw [e2, e] at h3
  unfold okAt at h3
  rw [show (10 : UInt8).toNat = 10 by decide, cls_ten] at h3
  simp at h3
theorem nl_int (n : Int) : NL (itoaB n) := fun c hc e => by
  subst e
  have h : (10 : UInt8) ∈ Lib.itoa n := hc
  unfold Lib.itoa at h
  split at h
  · rcases List.mem_cons.1 h with h | h
    · exact absurd h (by decide)
    · have := dig_in _ _ h
      exact absurd this.1 (by decide)
  · have := dig_in _ _ h
    exact absurd this.1 (by decide)
theorem nl_quote (v : ByteArray) : NL (quoteB v) := fun c hc e => by
  subst e
  have h : (10 : UInt8) ∈ quoteL v.data.toList := hc
  unfold quoteL at h
  rcases List.mem_cons.1 h with h | h
  · exact absurd h (by decide)
  · rcases List.mem_append.1 h with h | h
    · obtain ⟨x, _, hx⟩ := List.mem_flatMap.1 h
      unfold escL at hx
      split at hx
      · simp at hx
      · rename_i h10
        split at hx
        · simp at hx; exact h10 hx.symm
        · rw [List.mem_singleton] at hx; exact h10 hx.symm
    · simp at h
theorem words_nl {e : Ev} (h : evOk e = true) : ∀ w ∈ evWords e, NL w := by
  obtain ⟨⟨h1, h2⟩, _, hp, hr⟩ := evOk_parts h
  obtain ⟨n1, n2, n3, n4, n5, n6, n7⟩ := words_names
  have hop : NL (wordS e.op) := by
    have hc : e.op = 1 ∨ e.op = 2 ∨ e.op = 3 ∨ e.op = 4 ∨ e.op = 5 ∨ e.op = 6 ∨ e.op = 7 := by omega
    rcases hc with h | h | h | h | h | h | h <;> rw [h] <;> exact nl_name (by assumption)
  intro w hw
  unfold evWords at hw
  rcases List.mem_append.1 hw with hw | hw
  · simp only [List.mem_cons, List.not_mem_nil, or_false] at hw
    rcases hw with rfl | rfl | rfl
    · exact hop
    · exact nl_int _
    · exact nl_name hp
  · unfold evTail at hw
    unfold evRest at hr
    split at hw
    · rename_i h
      rw [if_pos h] at hr
      simp only [Bool.and_eq_true, List.all_cons, List.all_nil, Bool.and_true] at hr
      rw [List.mem_singleton] at hw; subst hw
      exact nl_name hr.2
    · rename_i h
      rw [if_neg h] at hr
      split at hw
      · rename_i h
        rw [if_pos h] at hr
        simp only [Bool.and_eq_true, List.all_cons, List.all_nil, Bool.and_true] at hr
        simp only [List.mem_cons, List.not_mem_nil, or_false] at hw
        rcases hw with rfl | rfl
        · exact nl_name hr.2.2.1
        · exact nl_name hr.2.2.2
      · rename_i h
        rw [if_neg h] at hr
        split at hw
        · simp only [List.mem_cons, List.not_mem_nil, or_false] at hw
          rcases hw with rfl | rfl | rfl | rfl | rfl | rfl <;> exact nl_int _
        · split at hw
          · rename_i h
            rw [if_pos h] at hr
            simp only [Bool.and_eq_true, List.all_cons, List.all_nil, Bool.and_true] at hr
            simp only [List.mem_cons, List.not_mem_nil, or_false] at hw
            rcases hw with rfl | rfl
            · exact nl_name hr.2.2
            · exact nl_quote _
          · cases hw
theorem nl_spaced : ∀ ws : List (List UInt8), (∀ w ∈ ws, ∀ c ∈ w, c ≠ 10) → ∀ c ∈ spaced ws, c ≠ 10
  | [], _, c, hc, _ => by cases hc
  | w :: r, h, c, hc, e => by
    have hc : c ∈ w ++ r.flatMap (32 :: ·) := hc
    rcases List.mem_append.1 hc with hc | hc
    · exact h w (List.mem_cons_self ..) c hc e
    · obtain ⟨x, hx, hcx⟩ := List.mem_flatMap.1 hc
      rcases List.mem_cons.1 hcx with hcx | hcx
      · subst e; exact absurd hcx (by decide)
      · exact h x (List.mem_cons_of_mem _ hx) c hcx e
theorem text_nl {e : Ev} (h : evOk e = true) : NL (textB e) := by
  intro c hc
  rw [show (textB e).data.toList = spaced ((evWords e).map fun b => b.data.toList) from joined_spaced (evWords e)] at hc
  refine nl_spaced _ (fun w hw c hc => ?_) c hc
  obtain ⟨b, hb, rfl⟩ := List.mem_map.1 hw
  exact words_nl h b hb c hc
/-- Lines, a line feed behind each. -/
def nlL (ls : List (List UInt8)) : List UInt8 := ls.flatMap fun l => l ++ [10]
theorem lines_nlL : ∀ ls : List (List UInt8), (∀ l ∈ ls, ∀ c ∈ l, c ≠ 10) → linesL (nlL ls) = ls ++ [[]]
  | [], _ => rfl
  | l :: r, h => by
    have e : nlL (l :: r) = l ++ 10 :: nlL r := by simp [nlL]
    rw [e, linesL_line l _ (h l (List.mem_cons_self ..)), lines_nlL r fun m hm => h m (List.mem_cons_of_mem _ hm)]
    rfl
theorem join_nl : ∀ (l : List UInt8) (ls : List (List UInt8)), Lib.join (l :: ls) [10] ++ [10] = nlL (l :: ls)
  | l, [] => by rw [Lib.join_cons]; simp [nlL, Lib.joinTail]
  | l, m :: r => by
    have ih := join_nl m r
    have e : nlL (l :: m :: r) = l ++ 10 :: nlL (m :: r) := by simp [nlL]
    rw [e, ← ih, Lib.join_cons, Lib.join_cons]
    simp [Lib.joinTail]
/-- The text of a report. -/
def textR (r : Rep) : ByteArray := repTxt textB r.opts r.doubt
def lineR (r : Rep) : List ByteArray := lines textB r.opts r.doubt r.opts.length
theorem append_data (a b : ByteArray) : (a ++ b).data.toList = a.data.toList ++ b.data.toList := by
  rw [ByteArray.data_append, Array.toList_append]
theorem textR_data (r : Rep) : (textR r).data.toList = nlL ((lineR r).map (·.data.toList)) := by
  unfold textR repTxt
  rw [append_data]
  exact join_nl _ _
theorem lineR_nl {r : Rep} (h : repOk r.opts = true) : ∀ b ∈ lineR r, NL b := by
  intro b hb
  unfold lineR lines at hb
  rcases List.mem_cons.1 hb with rfl | hb
  · cases r.doubt <;> (intro c hc; revert c; decide)
  · rw [List.take_length] at hb
    obtain ⟨e, he, rfl⟩ := List.mem_map.1 hb
    unfold repOk at h
    simp only [Bool.and_eq_true] at h
    exact text_nl (List.all_eq_true.1 h.2.1 e he)
theorem linesB_text {r : Rep} (h : repOk r.opts = true) : linesB (textR r) = lineR r ++ [(⟨#[]⟩ : ByteArray)] := by
  unfold linesB
  rw [textR_data, lines_nlL _ (fun l hl c hc => by
    obtain ⟨b, hb, rfl⟩ := List.mem_map.1 hl
    exact lineR_nl h b hb c hc), List.map_append, map_back]
  rfl
/-- The report that lines seem to be. -/
def readR (ls : List ByteArray) : Rep := ⟨((ls.take (ls.length - 1)).drop 1).map fun l => (parseE l).1, decide (ls.getD 0 ⟨#[]⟩ = perhapsS)⟩
def goodR (ls : List ByteArray) : Bool := decide (2 ≤ ls.length - 1 ∧ ls.length - 1 ≤ 5) && decide (ls.getD (ls.length - 1) ⟨#[]⟩ = ⟨#[]⟩)
/-- The report of a text. -/
def parseR (s : ByteArray) : Rep × Int :=
  if 20000 < s.size then (noRep, 7) else if goodR (linesB s) = true then (if repOk (readR (linesB s)).opts = true ∧ textR (readR (linesB s)) = s then (readR (linesB s), 0) else (noRep, 8)) else (noRep, 8)
theorem rep_all {r : Rep} (h : repOk r.opts = true) : ∀ e ∈ r.opts, evOk e = true := by
  unfold repOk at h
  simp only [Bool.and_eq_true] at h
  exact List.all_eq_true.1 h.2.1
theorem read_text {r : Rep} (h : repOk r.opts = true) : readR (lineR r ++ [(⟨#[]⟩ : ByteArray)]) = r := by
  obtain ⟨l, d⟩ := r
  have hl : (lineR ⟨l, d⟩ ++ [(⟨#[]⟩ : ByteArray)]).length - 1 = (lineR ⟨l, d⟩).length := by simp
  unfold readR
  rw [hl, List.take_left]
  have e : lineR ⟨l, d⟩ = (if d then perhapsS else sureS) :: l.map textB := by
    unfold lineR lines; rw [List.take_length]
  rw [e]
  show (⟨(l.map textB).map fun l => (parseE l).1, decide ((if d then perhapsS else sureS) = perhapsS)⟩ : Rep) = _
  have e1 : (l.map textB).map (fun l => (parseE l).1) = l := by
    rw [List.map_map]
    conv => rhs; rw [← List.map_id l]
    refine List.map_congr_left fun e he => ?_
    show (parseE (textB e)).1 = e
    rw [parse_text (rep_all (r := ⟨l, d⟩) h e he)]
  have e2 : decide ((if d then perhapsS else sureS) = perhapsS) = d := by cases d <;> decide +kernel
  rw [e1, e2]
theorem nlL_len : ∀ (ls : List (List UInt8)) (b : Nat), (∀ l ∈ ls, l.length ≤ b) → (nlL ls).length ≤ ls.length * (b + 1)
  | [], _, _ => Nat.zero_le _
  | l :: r, b, h => by
    have e : nlL (l :: r) = l ++ 10 :: nlL r := by simp [nlL]
    rw [e, List.length_append, List.length_cons, List.length_cons, Nat.succ_mul]
    have := h l (List.mem_cons_self ..)
    have := nlL_len r b fun m hm => h m (List.mem_cons_of_mem _ hm)
    omega
theorem lineR_len (r : Rep) : (lineR r).length = 1 + r.opts.length := lines_len textB r.opts r.doubt _ (Nat.le_refl _)
theorem textR_size {r : Rep} (h : repOk r.opts = true) : (textR r).size ≤ 18140 := by
  rw [size_of (textR_data r)]
  have h4 := repOk_le h
  have := nlL_len ((lineR r).map (·.data.toList)) 3627 (fun l hl => by
    obtain ⟨b, hb, rfl⟩ := List.mem_map.1 hl
    unfold lineR lines at hb
    rcases List.mem_cons.1 hb with rfl | hb
    · cases r.doubt <;> decide
    · rw [List.take_length] at hb
      obtain ⟨e, he, rfl⟩ := List.mem_map.1 hb
      exact text_size (rep_all h e he))
  rw [List.length_map, lineR_len] at this
  have : (1 + r.opts.length) * (3627 + 1) ≤ 5 * 3628 := Nat.mul_le_mul_right _ (by omega)
  omega
/-- A report is parsed from its text. -/
theorem parse_textR {r : Rep} (h : repOk r.opts = true) : parseR (textR r) = (r, 0) := by
  have hs := textR_size h
  have h4 := repOk_le h
  have h1 : 1 ≤ r.opts.length := by
    unfold repOk at h
    simp only [Bool.and_eq_true, decide_eq_true_eq] at h
    exact h.1.1
  have hl := lineR_len r
  have hg : goodR (lineR r ++ [(⟨#[]⟩ : ByteArray)]) = true := by
    have hn : (lineR r ++ [(⟨#[]⟩ : ByteArray)]).length - 1 = (lineR r).length := by simp
    unfold goodR
    rw [hn, Bool.and_eq_true, decide_eq_true_eq, decide_eq_true_eq]
    refine ⟨by omega, ?_⟩
    rw [List.getD_eq_getElem?_getD, List.getElem?_append_right (Nat.le_refl _), Nat.sub_self]
    rfl
  unfold parseR
  rw [if_neg (by omega), linesB_text h, if_pos hg, read_text h, if_pos ⟨h, rfl⟩]
/-- Different reports have different texts. -/
theorem textR_inj {a b : Rep} (ha : repOk a.opts = true) (hb : repOk b.opts = true) (h : textR a = textR b) : a = b := by
  have h1 := parse_textR ha
  rw [h, parse_textR hb] at h1
  exact (Prod.mk.inj h1).1.symm
theorem parseR_only (s : ByteArray) : (parseR s).2 = 0 ∧ repOk (parseR s).1.opts = true ∧ textR (parseR s).1 = s ∨ parseR s = (noRep, 8) ∨ parseR s = (noRep, 7) ∧ 20000 < s.size := by
  unfold parseR
  split
  · rename_i h; exact .inr (.inr ⟨rfl, h⟩)
  · split
    · split
      · rename_i h; exact .inl ⟨rfl, h⟩
      · exact .inr (.inl rfl)
    · exact .inr (.inl rfl)
theorem parseE_short (s : ByteArray) : (parseE s).1.short := by
  have hz : zeroE.short := by unfold Ev.short maxLen; decide +kernel
  unfold parseE
  split
  · split
    · exact readE_short (lexL_kept s).2
    · exact hz
  · exact hz
end Go.Proofs.YtjlpllnhefafkaaGreatDoor
namespace Go.Proofs.YtjlpllnhefafkaaGreatDoor
open Go Go.RowKit
set_option maxRecDepth 100000 in
set_option maxHeartbeats 4000000 in
theorem repText_f (v : Value) (l : List Ev) (T : Ev → ByteArray) (w : World) (hv : Sl w v l.length 14 (evF l)) (hs : ∀ e ∈ l, e.short) (hok : repOk l = true)
    (hT : ∀ e ∈ l, ∀ W : World, Below w.heap.size w W → Calls Tryz.prog 26 #[.agg e.cells] W fun r w' => r = .returned (.tuple #[.string (T e), .int .i64 0]) ∧ Below W.heap.size W w')
    (hlen : (joined (lines T l false l.length) ⟨#[10]⟩).size ≤ 100000) :
    Calls Tryz.prog 12 #[.agg #[v, .bool false]] w fun r w' => r = .returned (.tuple #[.string (repTxt T l false), .int .i64 0]) ∧ Below w.heap.size w w' := by
  obtain ⟨i0, hi, hz0, hq1, hq2⟩ := info_parts info_str
  have hI := Lib.hid hi
  have hZ := Lib.hid hz0
  clear hi hz0
  have hl4 := repOk_le hok
  have HV := Lib.hid hv
  have HS := Lib.hid hs
  have HOK := Lib.hid hok
  have HT := Lib.hid hT
  obtain ⟨A, c, rfl, hn⟩ := sl_len hv
  clear hv hs hok hT
  go_enter Tryz.func12, Tryz.ntmps12
  go_wp2_with (go_at_call 14; refine (repValid_any _ l _ _ (HV.out.below ((Below.refl _ _).alloc (Nat.le_refl _) _)) HS.out (by omega)).mono ?_; rintro e w2 ⟨rfl, hb2⟩; rw [HOK.out]; obtain ⟨hE2, hB2, hz2⟩ := boxed hb2; obtain ⟨hc2, hf2⟩ := hE2.facts; have HB2 := Lib.hid hB2; clear hb2 hE2 hB2)
  go_loopw [4, 20] (fun v i wr => ∃ k : Nat, k ≤ l.length ∧ i = .int .i64 k ∧ wr.ownsRow w.heap.size 9 1 v (1 + k) ((lines T l false k).map .string) ∧ Below w.heap.size w wr) (fun _ i _ => l.length - (intOf i).toNat)
  case atStart =>
    refine ⟨0, Nat.zero_le _, rfl, ?_, HB2.out.alloc (by omega) _⟩
    exact own_of_has (n := 1) (sz := 1) (Has.new w2 9 _) (by omega) rfl (by simp [maxLen])
  case round =>
    obtain ⟨k, hk, rfl, hown, hB⟩ := hrel
    by_cases hlt : k < l.length
    · obtain ⟨A1, c1, he1, hn1, h0 | ⟨b, o, rfl, hc⟩⟩ := HV.out
      · omega
      obtain ⟨rfl, rfl⟩ : A = some ⟨b, o, none⟩ ∧ c = c1 := by injection he1; exact ⟨by assumption, by assumption⟩
      have hrg : wr.rangeAt b (o + k * 14) (l.getD k noEv).cells.toList := ev_range (fun j hj => cell_later hB (hc j hj)) hlt
      have hsucc := Lib.hid (lines_succ T l false k hlt)
      have hshort := HS.out _ (getD_mem l k noEv hlt)
      have htx := Lib.hid (HT.out _ (getD_mem l k noEv hlt))
      have HOWN := Lib.hid hown
      have HB := Lib.hid hB
      clear hc he1 hown hB
      generalize l.getD k noEv = ev at *
      obtain ⟨op, day, part, kind, into, slot, key, value, kl, kh, cl, ch, ll, lh⟩ := ev
      replace hrg : wr.rangeAt b (o + k * 14) [.int .i64 op, .int .i64 day, .string part, .string kind, .string into, .string slot, .string key, .string value, .int .i64 kl, .int .i64 kh, .int .i64 cl, .int .i64 ch, .int .i64 ll, .int .i64 lh] := hrg
      go_wp2_with (first | ((with_reducible show wpList _ _ _ (Oper.mk (some 23) _ _ _ _ _ :: _) _ _); refine wpList_load_mid rfl 49 _ rfl b (o + k * 14) rfl _ _ hrg Tryz.underlying49 rfl rfl ?_) | (go_at_call 26; refine (htx.out _ (HB.out.alloc HB.out.size _)).mono ?_; rintro e w5 ⟨rfl, hb5⟩; have hown5 := (HOWN.out.alloc _).kept (row := none) (World.grownBy_of_below hb5) (by cases Value.ownBlock _ <;> simp); have HOWN5 := Lib.hid hown5; have HB5 := Lib.hid hb5; clear hb5 hown5) | (at_builtin; refine wpList_append_own _ rfl (.tmp 29) (.tmp 31) 41 rfl w.heap.size 9 i0 (.string ⟨#[]⟩) 1 16 Tryz.underlying41 hI.out hZ.out hq1 hq2 rfl (by decide) _ _ _ rfl (HOWN5.out.alloc _) ⟨w5.heap.size, 0, none⟩ 1 1 [.string (T ⟨op, day, part, kind, into, slot, key, value, kl, kh, cl, ch, ll, lh⟩)] rfl rfl ?c1 ?c2 ?c3 ?c4 ?c5 ?_))
      case c1 => exact cell_one_new _ _ _
      case c2 => intro u hu; simp at hu; subst hu; rfl
      case c3 => unfold maxLen; omega
      case c4 => omega
      case c5 => have := HB.out.size; have := HB5.out.size; simp at this ⊢; omega
      · intro v' w6 hown6 hg6 _
        have h5 : wr.heap.size + 1 ≤ w5.heap.size := by have := HB5.out.size; simpa using this
        have h0 := HB.out.size
        have b5 : Below w.heap.size w w5 := (HB.out.alloc (by omega) _).trans (HB5.out.mono (by simp; omega))
        have b6 : Below w.heap.size w w6 := (b5.alloc (by omega) _).grown hg6 (by simp; omega) (fun j hj => (HOWN5.out.lt j hj).1)
        have B6 := Lib.hid b6
        have HOWN6 := Lib.hid hown6
        clear b5 b6 hown6 hg6
        go_wp2_with fail
        go_roundw
        case rel => exact ⟨k + 1, by omega, by go_num, by rw [hsucc.out, List.map_append]; exact HOWN6.out, B6.out⟩
        case measure => simp [intOf]; omega
    · obtain rfl : k = l.length := by omega
      have HOWN := Lib.hid (show wr.ownsRow w.heap.size 9 1 _ (lines T l false l.length).length ((lines T l false l.length).map .string) by rw [lines_len T l false l.length (Nat.le_refl _)]; exact hown)
      have HB := Lib.hid hB
      have hlen' : (lines T l false l.length).length ≤ 1000000 := by rw [lines_len T l false l.length (Nat.le_refl _)]; omega
      have hsz := hB.size
      clear hown hB
      go_wp2_with (go_at_call 27; refine (join_any _ (lines T l false l.length) _ _ (str_own HOWN.out) hlen' (by omega)).mono ?_; rintro e w9 ⟨rfl, hb9⟩)
      go_ret2
      exact ⟨rfl, HB.out.trans (hb9.mono hsz)⟩

set_option maxRecDepth 100000 in
set_option maxHeartbeats 4000000 in
theorem repText_t (v : Value) (l : List Ev) (T : Ev → ByteArray) (w : World) (hv : Sl w v l.length 14 (evF l)) (hs : ∀ e ∈ l, e.short) (hok : repOk l = true)
    (hT : ∀ e ∈ l, ∀ W : World, Below w.heap.size w W → Calls Tryz.prog 26 #[.agg e.cells] W fun r w' => r = .returned (.tuple #[.string (T e), .int .i64 0]) ∧ Below W.heap.size W w')
    (hlen : (joined (lines T l true l.length) ⟨#[10]⟩).size ≤ 100000) :
    Calls Tryz.prog 12 #[.agg #[v, .bool true]] w fun r w' => r = .returned (.tuple #[.string (repTxt T l true), .int .i64 0]) ∧ Below w.heap.size w w' := by
  obtain ⟨i0, hi, hz0, hq1, hq2⟩ := info_parts info_str
  have hI := Lib.hid hi
  have hZ := Lib.hid hz0
  clear hi hz0
  have hl4 := repOk_le hok
  have HV := Lib.hid hv
  have HS := Lib.hid hs
  have HOK := Lib.hid hok
  have HT := Lib.hid hT
  obtain ⟨A, c, rfl, hn⟩ := sl_len hv
  clear hv hs hok hT
  go_enter Tryz.func12, Tryz.ntmps12
  go_wp2_with (go_at_call 14; refine (repValid_any _ l _ _ (HV.out.below ((Below.refl _ _).alloc (Nat.le_refl _) _)) HS.out (by omega)).mono ?_; rintro e w2 ⟨rfl, hb2⟩; rw [HOK.out]; obtain ⟨hE2, hB2, hz2⟩ := boxed hb2; obtain ⟨hc2, hf2⟩ := hE2.facts; have HB2 := Lib.hid hB2; clear hb2 hE2 hB2)
  go_loopw [4, 20] (fun v i wr => ∃ k : Nat, k ≤ l.length ∧ i = .int .i64 k ∧ wr.ownsRow w.heap.size 9 1 v (1 + k) ((lines T l true k).map .string) ∧ Below w.heap.size w wr) (fun _ i _ => l.length - (intOf i).toNat)
  case atStart =>
    refine ⟨0, Nat.zero_le _, rfl, ?_, HB2.out.alloc (by omega) _⟩
    exact own_of_has (n := 1) (sz := 1) (Has.new w2 9 _) (by omega) rfl (by simp [maxLen])
  case round =>
    obtain ⟨k, hk, rfl, hown, hB⟩ := hrel
    by_cases hlt : k < l.length
    · obtain ⟨A1, c1, he1, hn1, h0 | ⟨b, o, rfl, hc⟩⟩ := HV.out
      · omega
      obtain ⟨rfl, rfl⟩ : A = some ⟨b, o, none⟩ ∧ c = c1 := by injection he1; exact ⟨by assumption, by assumption⟩
      have hrg : wr.rangeAt b (o + k * 14) (l.getD k noEv).cells.toList := ev_range (fun j hj => cell_later hB (hc j hj)) hlt
      have hsucc := Lib.hid (lines_succ T l true k hlt)
      have hshort := HS.out _ (getD_mem l k noEv hlt)
      have htx := Lib.hid (HT.out _ (getD_mem l k noEv hlt))
      have HOWN := Lib.hid hown
      have HB := Lib.hid hB
      clear hc he1 hown hB
      generalize l.getD k noEv = ev at *
      obtain ⟨op, day, part, kind, into, slot, key, value, kl, kh, cl, ch, ll, lh⟩ := ev
      replace hrg : wr.rangeAt b (o + k * 14) [.int .i64 op, .int .i64 day, .string part, .string kind, .string into, .string slot, .string key, .string value, .int .i64 kl, .int .i64 kh, .int .i64 cl, .int .i64 ch, .int .i64 ll, .int .i64 lh] := hrg
      go_wp2_with (first | ((with_reducible show wpList _ _ _ (Oper.mk (some 23) _ _ _ _ _ :: _) _ _); refine wpList_load_mid rfl 49 _ rfl b (o + k * 14) rfl _ _ hrg Tryz.underlying49 rfl rfl ?_) | (go_at_call 26; refine (htx.out _ (HB.out.alloc HB.out.size _)).mono ?_; rintro e w5 ⟨rfl, hb5⟩; have hown5 := (HOWN.out.alloc _).kept (row := none) (World.grownBy_of_below hb5) (by cases Value.ownBlock _ <;> simp); have HOWN5 := Lib.hid hown5; have HB5 := Lib.hid hb5; clear hb5 hown5) | (at_builtin; refine wpList_append_own _ rfl (.tmp 29) (.tmp 31) 41 rfl w.heap.size 9 i0 (.string ⟨#[]⟩) 1 16 Tryz.underlying41 hI.out hZ.out hq1 hq2 rfl (by decide) _ _ _ rfl (HOWN5.out.alloc _) ⟨w5.heap.size, 0, none⟩ 1 1 [.string (T ⟨op, day, part, kind, into, slot, key, value, kl, kh, cl, ch, ll, lh⟩)] rfl rfl ?c1 ?c2 ?c3 ?c4 ?c5 ?_))
      case c1 => exact cell_one_new _ _ _
      case c2 => intro u hu; simp at hu; subst hu; rfl
      case c3 => unfold maxLen; omega
      case c4 => omega
      case c5 => have := HB.out.size; have := HB5.out.size; simp at this ⊢; omega
      · intro v' w6 hown6 hg6 _
        have h5 : wr.heap.size + 1 ≤ w5.heap.size := by have := HB5.out.size; simpa using this
        have h0 := HB.out.size
        have b5 : Below w.heap.size w w5 := (HB.out.alloc (by omega) _).trans (HB5.out.mono (by simp; omega))
        have b6 : Below w.heap.size w w6 := (b5.alloc (by omega) _).grown hg6 (by simp; omega) (fun j hj => (HOWN5.out.lt j hj).1)
        have B6 := Lib.hid b6
        have HOWN6 := Lib.hid hown6
        clear b5 b6 hown6 hg6
        go_wp2_with fail
        go_roundw
        case rel => exact ⟨k + 1, by omega, by go_num, by rw [hsucc.out, List.map_append]; exact HOWN6.out, B6.out⟩
        case measure => simp [intOf]; omega
    · obtain rfl : k = l.length := by omega
      have HOWN := Lib.hid (show wr.ownsRow w.heap.size 9 1 _ (lines T l true l.length).length ((lines T l true l.length).map .string) by rw [lines_len T l true l.length (Nat.le_refl _)]; exact hown)
      have HB := Lib.hid hB
      have hlen' : (lines T l true l.length).length ≤ 1000000 := by rw [lines_len T l true l.length (Nat.le_refl _)]; omega
      have hsz := hB.size
      clear hown hB
      go_wp2_with (go_at_call 27; refine (join_any _ (lines T l true l.length) _ _ (str_own HOWN.out) hlen' (by omega)).mono ?_; rintro e w9 ⟨rfl, hb9⟩)
      go_ret2
      exact ⟨rfl, HB.out.trans (hb9.mono hsz)⟩


theorem lines_joined (T : Ev → ByteArray) (l : List Ev) (d : Bool) : (joined (lines T l d l.length) ⟨#[10]⟩).size + 1 = (repTxt T l d).size := by
  unfold repTxt
  rw [ByteArray.size_append]; rfl
set_option maxRecDepth 100000 in
set_option maxHeartbeats 4000000 in
theorem repText_no (v : Value) (l : List Ev) (d : Bool) (w : World) (hv : Sl w v l.length 14 (evF l)) (hs : ∀ e ∈ l, e.short) (hl : l.length ≤ 1000) (hok : repOk l = false) :
    Calls Tryz.prog 12 #[.agg #[v, .bool d]] w fun r w' => r = .returned (.tuple #[.string ⟨#[]⟩, .int .i64 1]) ∧ Below w.heap.size w w' := by
  have HV := Lib.hid hv
  have HS := Lib.hid hs
  have HOK := Lib.hid hok
  obtain ⟨A, c, rfl, hn⟩ := sl_len hv
  clear hv hs hok
  go_enter Tryz.func12, Tryz.ntmps12
  go_wp2_with (go_at_call 14; refine (repValid_any _ l _ _ (HV.out.below ((Below.refl _ _).alloc (Nat.le_refl _) _)) HS.out (by omega)).mono ?_; rintro e w2 ⟨rfl, hb2⟩; rw [HOK.out]; obtain ⟨hE2, hB2, hz2⟩ := boxed hb2; have HB2 := Lib.hid hB2; clear hb2 hE2 hB2)
  go_ret2
  exact ⟨rfl, HB2.out⟩
theorem repText_any (v : Value) (r : Rep) (w0 w : World) (ht : Tab w0) (hb0 : Below w0.heap.size w0 w) (hv : Sl w v r.opts.length 14 (evF r.opts)) (hs : ∀ e ∈ r.opts, e.short) (hl : r.opts.length ≤ 1000) :
    Calls Tryz.prog 12 #[.agg #[v, .bool r.doubt]] w fun e w' => e = .returned (.tuple #[.string (if repOk r.opts = true then textR r else ⟨#[]⟩), .int .i64 (if repOk r.opts = true then 0 else 1)]) ∧ Below w.heap.size w w' := by
  cases hok : repOk r.opts with
  | false => exact repText_no v r.opts r.doubt w hv hs hl hok
  | true =>
    have hz := textR_size hok
    have hj := lines_joined textB r.opts r.doubt
    obtain ⟨l, d⟩ := r
    have hT : ∀ e ∈ l, ∀ W : World, Below w.heap.size w W → Calls Tryz.prog 26 #[.agg e.cells] W fun r w' => r = .returned (.tuple #[.string (textB e), .int .i64 0]) ∧ Below W.heap.size W w' := fun e he W hb => by
      have h := text_any e w0 W ht (hb0.trans (hb.mono hb0.size)) (hs e he)
      rw [rep_all (r := ⟨l, d⟩) hok e he] at h
      exact h
    have hz : (repTxt textB l d).size ≤ 18140 := hz
    dsimp only at hj
    cases d with
    | false => exact repText_f v l textB w hv hs hok hT (by omega)
    | true => exact repText_t v l textB w hv hs hok hT (by omega)
end Go.Proofs.YtjlpllnhefafkaaGreatDoor
