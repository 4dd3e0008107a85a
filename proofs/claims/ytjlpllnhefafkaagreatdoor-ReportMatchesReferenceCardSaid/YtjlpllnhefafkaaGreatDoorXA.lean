/- strconv.Itoa, by the table of powers of ten. Condition: the table is laid. strings.Builder.WriteByte at this program. No condition but that the bytes fit a machine. lexer.unquoted: what the string at the beginning of a text stands for, and its length. Condition: the text is not too long. lexer.tokens' functions: the class at an offset; what tokens hands back. Condition: the text is a string that lies in memory. -/
import Derived.Laws.EntriesVeiled
import Derived.Lib.LaidTab
import Derived.Sort.Grow
import Derived.Test.YtjlpllnhefafkaaGreatDoorU01
import Derived.Test.YtjlpllnhefafkaaGreatDoorU07
namespace Go.Proofs.YtjlpllnhefafkaaGreatDoor
open Go Go.RowKit
/-- strconv's table of powers of ten. -/
def Tab (w : World) : Prop := Lib.TabIs Tryz.prog w "internal/strconv.uint64pow10" .u64 Lib.pow10Tab
theorem Tab.below {w w' : World} (h : Tab w) (hb : Below w.heap.size w w') : Tab w' := by
  unfold Tab Lib.TabIs World.var? at h ⊢
  cases hg : Program.globalNamed Tryz.prog "internal/strconv.uint64pow10" with
  | none => rw [hg] at h; cases h
  | some g =>
    rw [hg] at h
    simp only [Option.bind_some] at h ⊢
    have hlt : g < w.heap.size := by
      rcases Nat.lt_or_ge g w.heap.size with h' | h'
      · exact h'
      · rw [Array.getElem?_eq_none h'] at h; cases h
    rw [hb.block g hlt]
    exact h
theorem below_grow {B : Nat} {w w' : World} (h : Below B w w') (hB : B ≤ w'.heap.size) (os : Array Obj) : Below B w (Sort.grow w' os) :=
  ⟨h.os, h.tape, h.output, by show _ ≤ (w'.heap ++ os).size; rw [Array.size_append]; have := h.size; omega, fun k hk => by
    rw [Sort.heap_grow_old w' os (by omega)]; exact h.block k hk⟩
theorem drewN_below (w : World) (k : Nat) : Below w.heap.size w (w.drewN k) := below_drewN (Below.refl _ _) k
theorem itoa_any (w0 : World) (h : Tab w0) (n : Int) (h0 : -9223372036854775808 ≤ n) (h1 : n ≤ 9223372036854775807) (w : World) (hb : Below w0.heap.size w0 w) :
    Calls Tryz.prog 44 #[.int .i64 n] w fun e w' => e = .returned (.string (itoaB n)) ∧ Below w.heap.size w w' := by
  refine (Tryz.strconv_Itoa n h0 h1 w (h.below hb)).mono ?_
  rintro e w' ⟨rfl, k, os, rfl⟩
  exact ⟨rfl, below_grow (drewN_below w k) (Nat.le_refl _) os⟩
end Go.Proofs.YtjlpllnhefafkaaGreatDoor
namespace Go.Proofs.YtjlpllnhefafkaaGreatDoor
open Go Go.RowKit
theorem new_byte (w : World) (x : Value) (t : TypeId) : ∀ j u, ([x] : List Value)[j]? = some u → (w.alloc (.cells #[x] t)).cell? ((⟨w.heap.size, 0, none⟩ : Addr).add j) = some u := fun j u h => by
  have h1 := (Has.new w t #[x]).facts.1 j
  rw [Addr.add_mid, Nat.zero_add, h1]; simpa using h
set_option maxHeartbeats 2000000 in
set_option maxRecDepth 100000 in
theorem writeByte_any (B b : Nat) (bs : List Value) (c : Int) (w : World) (h : Lib.IsBuilder 80 5 B b bs w) (hlen : bs.length + 1 ≤ 140737488355328) (hBw : B ≤ w.heap.size) :
    Calls Tryz.prog 71 #[.pointer (some ⟨b, 0, none⟩), .int .u8 c] w fun e w' => e = .returned .nilIface ∧ Lib.IsBuilder 80 5 B b (bs ++ [.int .u8 c]) w' ∧ Below B w w' := by
  obtain ⟨i0, hi, hz0, hz1, hz2⟩ := info_parts infoB
  have HC := Lib.hid (check_any B b bs w h)
  have HI := Lib.hid hi
  have HZ := Lib.hid hz0
  clear h hi hz0
  go_enter Tryz.func71, Tryz.ntmps71
  go_wp2_with (first
    | (go_at_call 72; refine HC.out.mono ?_; rintro e w1 ⟨rfl, hb1, hbb1⟩; obtain ⟨hB1, v1, hk1, hown1, hne1⟩ := hb1; obtain ⟨A1, c1', hf1⟩ := own_slice hown1; subst hf1; have c1 : w1.cell? ⟨b, 1, none⟩ = some (.slice A1 bs.length c1') := (by rw [Lib.cell_of_heap hk1]; rfl); have HBB := Lib.hid hbb1; have HK := Lib.hid hk1; have HO := Lib.hid hown1; have HNE := Lib.hid hne1; have f1 := Lib.frozen_of_heap hk1 1; clear hbb1 hk1 hown1 hne1)
    | ((with_reducible show wpList _ _ _ (Oper.mk (some 14) _ _ _ _ _ :: _) _ _); refine wpList_app rfl (.tmp 11) (.tmp 13) 78 rfl B 5 i0 (.int .u8 0) 1 1 Tryz.underlying78 HI.out HZ.out hz1 hz2 rfl (by decide) _ bs.length bs rfl (HO.out.alloc _) (some ⟨w1.heap.size, 0, none⟩) 1 1 [.int .u8 c] rfl rfl (.inr ⟨_, rfl, new_byte w1 (.int .u8 c) _⟩) (fun u hu => by rw [List.mem_singleton] at hu; subst hu; rfl) (by unfold maxLen; omega) (by omega) (by have := HBB.out.size; simp; omega) ?_; intro v2 w2 hown2 hg2; obtain ⟨A2, c2', hf2⟩ := own_slice hown2; subst hf2; have hk2 := (hg2.block b (by have := HK.out; have := (Array.getElem?_eq_some_iff.1 this).1; simp; omega) (fun e => HNE.out e.symm)).trans ((Below.heap_alloc _ _ _ ((Array.getElem?_eq_some_iff.1 HK.out).1)).trans HK.out); have HO2 := Lib.hid hown2; have HG2 := Lib.hid hg2; have HK2 := Lib.hid hk2; have f2 := Lib.frozen_of_heap hk2 1; have c2 : w2.cell? ⟨b, 1, none⟩ = some (.slice A1 bs.length c1') := (by rw [Lib.cell_of_heap hk2]; rfl); clear hown2 hg2 hk2))
  go_ret
  refine ⟨rfl, .inr (Lib.BuilderAt.put hB1 HK2.out ?_ (by decide)), ?_⟩
  · rw [List.length_append]
    exact HO2.out
  · exact (((HBB.out.alloc (Nat.le_trans hBw HBB.out.size) (.cells #[.int .u8 c] 5)).grown HG2.out (by have := HBB.out.size; simp; omega) (fun j hj => (HO.out.lt j hj).1)).setCell (p := ⟨b, 1, none⟩) hB1 _)
end Go.Proofs.YtjlpllnhefafkaaGreatDoor
namespace Go.Proofs.YtjlpllnhefafkaaGreatDoor
open Go Go.RowKit
theorem unq_end {t : ByteArray} {n k : Nat} {acc : List UInt8} (h : t.size ≤ k) : unqGo t n k acc = none := by
  cases n with
  | zero => rfl
  | succ n => rw [unqGo_succ, if_pos h]
theorem ixb_esc {c : Nat} (h : c < 256) (h1 : c ≠ 92) (h2 : c ≠ 34) (h3 : c ≠ 110) : ixb [92, 34, 110] c = -1 := by
  have : ∀ c : Fin 256, c.val ≠ 92 → c.val ≠ 34 → c.val ≠ 110 → ixb [92, 34, 110] c.val = -1 := by decide +kernel
  exact this ⟨c, h⟩ h1 h2 h3
theorem cells_snoc (acc : List UInt8) (b : UInt8) : Lib.byteCells acc ++ [.int .u8 (b.toNat : Int)] = Lib.byteCells (acc ++ [b]) := by
  simp [Lib.byteCells]
/-- The string and its length; nothing and 0, if there is none. -/
def unqV (t : ByteArray) : ByteArray × Nat := match unqL t with
  | none => (⟨#[]⟩, 0)
  | some (l, m) => (⟨l.toArray⟩, m)
theorem unqV_none {t : ByteArray} (h : unqL t = none) : unqV t = (⟨#[]⟩, 0) := by unfold unqV; rw [h]
theorem unqV_some {t : ByteArray} {l : List UInt8} {m : Nat} (h : unqL t = some (l, m)) : unqV t = (⟨l.toArray⟩, m) := by unfold unqV; rw [h]
set_option maxRecDepth 100000 in
set_option maxHeartbeats 8000000 in
theorem unquoted_any (t : ByteArray) (w : World) (hs : t.size ≤ 1000000) :
    Calls Tryz.prog 88 #[.string t] w fun e w' => e = .returned (.tuple #[.string (unqV t).1, .int .i64 ((unqV t).2 : Nat)]) ∧ Below w.heap.size w w' := by
  have HB0 := Lib.hid (Lib.fresh_isBuilder 80 5 w)
  have HBw := Lib.hid ((Below.refl w.heap.size w).alloc (Nat.le_refl _) (.cells #[.pointer none, .slice none 0 0] 80))
  go_enter Tryz.func88, Tryz.ntmps88
  go_wp2_with fail
  go_loopw [5] (fun i wr => ∃ (k n : Nat) (acc : List UInt8), i = .int .i64 k ∧ Hid (unqL t = unqGo t n k acc) ∧ t.size < n + k ∧ acc.length ≤ k ∧ k ≤ t.size + 1 ∧ Hid (Lib.IsBuilder 80 5 w.heap.size w.heap.size (Lib.byteCells acc) wr) ∧ Hid (Below w.heap.size w wr)) (fun i _ => t.size + 1 - (intOf i).toNat)
  case atStart => exact ⟨1, t.size, [], rfl, rfl, by omega, by simp, by omega, HB0.out, HBw.out⟩
  case round =>
    clear HB0 HBw
    obtain ⟨k, n, acc, rfl, HU, hn, hacc, hk1, HI, HB⟩ := hrel
    have hzw := HB.out.size
    by_cases hlt : k < t.size
    · obtain ⟨m, rfl⟩ : ∃ m, n = m + 1 := ⟨n - 1, by omega⟩
      have hki : (k : Int) < (t.size : Int) := by omega
      have hb8 := UInt8.toNat_lt t[k]
      have hby := byteAt_eq t k hlt
      have HS := Lib.hid (HU.out.trans (unqGo_succ t m k acc))
      clear HU
      rw [hby, if_neg (show ¬ t.size ≤ k by omega)] at HS
      by_cases e1 : t[k].toNat = 34
      · have HE := Lib.hid (unqV_some (show unqL t = some (acc, k + 1) by rw [HS.out, if_pos e1]))
        clear HS hby
        go_wp2_with (go_at_call 49; refine (Tryz.Builder_String_any w.heap.size w.heap.size acc _ HI.out hzw).mono ?_; rintro e w2 ⟨rfl, hb2⟩; have HB2 := Lib.hid (HB.out.trans hb2); clear hb2)
        refine bodyPost_ret (v := .tuple #[.string ⟨acc.toArray⟩, .int .i64 ((k : Int) + 1)]) (by simp [results, Tryz.results88, go_sem]) rfl ?_
        exact ⟨by rw [HE.out]; rfl, HB2.out⟩
      · by_cases e2 : t[k].toNat = 10
        · have HE := Lib.hid (unqV_none (show unqL t = none by rw [HS.out, if_neg e1, if_pos e2]))
          clear HS hby
          go_wp2_with fail
          refine bodyPost_ret (v := .tuple #[.string ⟨#[]⟩, .int .i64 0]) (by simp [results, Tryz.results88, go_sem]) rfl ?_
          exact ⟨by rw [HE.out]; rfl, HB.out⟩
        · by_cases e3 : t[k].toNat = 92
          · rw [if_neg e1, if_neg e2, if_pos e3] at HS
            by_cases hl1 : k + 1 < t.size
            · have hki1 : (k : Int) + 1 < (t.size : Int) := by omega
              have hb81 := UInt8.toNat_lt t[k + 1]
              have hby1 := byteAt_eq t (k + 1) hl1
              rw [hby1, if_neg (show ¬ t.size ≤ k + 1 by omega)] at HS
              clear hby hby1
              by_cases f : t[k + 1].toNat = 92
              · have HIX := Lib.hid (show ixb (⟨#[92, 34, 110]⟩ : ByteArray).data.toList 92 = 0 by decide +kernel)
                have HS2 := Lib.hid (show unqL t = unqGo t m (k + 2) (acc ++ [92]) by rw [HS.out, f]; rfl)
                clear HS
                go_wp2_with (first | (go_at_call 97; refine (indexByte_n ⟨#[92, 34, 110]⟩ 92 _).mono ?_; rintro e w2 ⟨rfl, rfl⟩; rw [HIX.out]) | (go_at_call 71; refine (writeByte_any w.heap.size w.heap.size (Lib.byteCells acc) 92 _ HI.out (by rw [Lib.byteCells_length]; omega) hzw).mono ?_; rintro e w3 ⟨rfl, hi2, hb2⟩; have HB2 := Lib.hid (HB.out.trans hb2); rw [show Lib.byteCells acc ++ [.int .u8 92] = Lib.byteCells (acc ++ [92]) from cells_snoc acc 92] at hi2; have HI2 := Lib.hid hi2; clear hb2 hi2))
                go_roundw
                case rel => exact ⟨k + 2, m, acc ++ [92], by go_num, HS2.out, by omega, by simp; omega, by omega, HI2.out, HB2.out⟩
                case measure => simp [intOf]; omega
              · by_cases g : t[k + 1].toNat = 34
                · have f := g
                  have HIX := Lib.hid (show ixb (⟨#[92, 34, 110]⟩ : ByteArray).data.toList 34 = 1 by decide +kernel)
                  have HS2 := Lib.hid (show unqL t = unqGo t m (k + 2) (acc ++ [34]) by rw [HS.out, f]; rfl)
                  clear HS
                  go_wp2_with (first | (go_at_call 97; refine (indexByte_n ⟨#[92, 34, 110]⟩ 34 _).mono ?_; rintro e w2 ⟨rfl, rfl⟩; rw [HIX.out]) | (go_at_call 71; refine (writeByte_any w.heap.size w.heap.size (Lib.byteCells acc) 34 _ HI.out (by rw [Lib.byteCells_length]; omega) hzw).mono ?_; rintro e w3 ⟨rfl, hi2, hb2⟩; have HB2 := Lib.hid (HB.out.trans hb2); rw [show Lib.byteCells acc ++ [.int .u8 34] = Lib.byteCells (acc ++ [34]) from cells_snoc acc 34] at hi2; have HI2 := Lib.hid hi2; clear hb2 hi2))
                  go_roundw
                  case rel => exact ⟨k + 2, m, acc ++ [34], by go_num, HS2.out, by omega, by simp; omega, by omega, HI2.out, HB2.out⟩
                  case measure => simp [intOf]; omega
                · by_cases h : t[k + 1].toNat = 110
                  · have f := h
                    have HIX := Lib.hid (show ixb (⟨#[92, 34, 110]⟩ : ByteArray).data.toList 110 = 2 by decide +kernel)
                    have HS2 := Lib.hid (show unqL t = unqGo t m (k + 2) (acc ++ [10]) by rw [HS.out, f]; rfl)
                    clear HS
                    go_wp2_with (first | (go_at_call 97; refine (indexByte_n ⟨#[92, 34, 110]⟩ 110 _).mono ?_; rintro e w2 ⟨rfl, rfl⟩; rw [HIX.out]) | (go_at_call 71; refine (writeByte_any w.heap.size w.heap.size (Lib.byteCells acc) 10 _ HI.out (by rw [Lib.byteCells_length]; omega) hzw).mono ?_; rintro e w3 ⟨rfl, hi2, hb2⟩; have HB2 := Lib.hid (HB.out.trans hb2); rw [show Lib.byteCells acc ++ [.int .u8 10] = Lib.byteCells (acc ++ [10]) from cells_snoc acc 10] at hi2; have HI2 := Lib.hid hi2; clear hb2 hi2))
                    go_roundw
                    case rel => exact ⟨k + 2, m, acc ++ [10], by go_num, HS2.out, by omega, by simp; omega, by omega, HI2.out, HB2.out⟩
                    case measure => simp [intOf]; omega
                  · have HIX := Lib.hid (show ixb (⟨#[92, 34, 110]⟩ : ByteArray).data.toList t[k + 1].toNat = -1 from ixb_esc hb81 f g h)
                    have HE := Lib.hid (unqV_none (show unqL t = none by rw [HS.out]; unfold escB; rw [if_neg f, if_neg g, if_neg h]))
                    clear HS
                    go_wp2_with (go_at_call 97; refine (indexByte_n _ _ _).mono ?_; rintro e w2 ⟨rfl, rfl⟩; rw [HIX.out])
                    refine bodyPost_ret (v := .tuple #[.string ⟨#[]⟩, .int .i64 0]) (by simp [results, Tryz.results88, go_sem]) rfl ?_
                    exact ⟨by rw [HE.out]; rfl, HB.out⟩
            · have HE := Lib.hid (unqV_none (show unqL t = none by rw [HS.out, if_pos (show t.size ≤ k + 1 by omega)]))
              have hki1 : ¬ (k : Int) + 1 < (t.size : Int) := by omega
              clear HS hby
              go_wp2_with fail
              refine bodyPost_ret (v := .tuple #[.string ⟨#[]⟩, .int .i64 0]) (by simp [results, Tryz.results88, go_sem]) rfl ?_
              exact ⟨by rw [HE.out]; rfl, HB.out⟩
          · have HS2 := Lib.hid (show unqL t = unqGo t m (k + 1) (acc ++ [t[k]]) by rw [HS.out, if_neg e1, if_neg e2, if_neg e3, UInt8.ofNat_toNat])
            clear HS hby
            go_wp2_with (go_at_call 71; refine (writeByte_any w.heap.size w.heap.size (Lib.byteCells acc) _ _ HI.out (by rw [Lib.byteCells_length]; omega) hzw).mono ?_; rintro e w2 ⟨rfl, hi2, hb2⟩; have HB2 := Lib.hid (HB.out.trans hb2); rw [cells_snoc] at hi2; have HI2 := Lib.hid hi2; clear hb2 hi2)
            go_roundw
            case rel => exact ⟨k + 1, m, acc ++ [t[k]], by go_num, HS2.out, by omega, by simp; omega, by omega, HI2.out, HB2.out⟩
            case measure => simp [intOf]; omega
    · have HE := Lib.hid (unqV_none (HU.out.trans (unq_end (by omega))))
      have hki : ¬ (k : Int) < (t.size : Int) := by omega
      go_wp2_with fail
      refine bodyPost_ret (v := .tuple #[.string ⟨#[]⟩, .int .i64 0]) (by simp [results, Tryz.results88, go_sem]) rfl ?_
      exact ⟨by rw [HE.out]; rfl, HB.out⟩
end Go.Proofs.YtjlpllnhefafkaaGreatDoor
namespace Go.Proofs.YtjlpllnhefafkaaGreatDoor
open Go Go.RowKit
set_option maxHeartbeats 1000000 in
theorem at_any (s : ByteArray) (i bt bc : Nat) (w : World) (h1 : Has w bt 9 #[.string s]) (h2 : Has w bc 109 clsAll) (hi : i ≤ s.size) (_hs : s.size ≤ 1000000) :
    Calls Tryz.prog 86 #[.int .i64 i, .pointer (some ⟨bt, 0, none⟩), .pointer (some ⟨bc, 0, none⟩)] w fun e w' => e = .returned (.int .u8 (clsAt s i : Nat)) ∧ w' = w := by
  obtain ⟨x1, y1⟩ := h1.facts
  have hcell : ∀ n : Nat, n < 256 → w.cell? ⟨bc, n, none⟩ = some (.int .u8 (cls n)) := fun n hn => h2.rcell n hn
  have hf : ∀ o, w.frozen? ⟨bc, o, none⟩ = false := h2.facts.2
  clear h1 h2
  by_cases hlt : i < s.size
  · have hki : (i : Int) < (s.size : Int) := by omega
    have hb8 := UInt8.toNat_lt s[i]
    have HE := Lib.hid (show clsAt s i = cls s[i].toNat by unfold clsAt; rw [if_pos hlt, byteAt_eq s i hlt])
    have hc := hcell s[i].toNat (by omega)
    clear hcell
    go_enter Tryz.func86, Tryz.ntmps86
    go_wp2_with fail
    go_ret
    exact ⟨by rw [HE.out]; rfl, rfl⟩
  · have hki : ¬ (i : Int) < (s.size : Int) := by omega
    have HE := Lib.hid (show clsAt s i = 0 by unfold clsAt; rw [if_neg hlt])
    clear hcell
    go_enter Tryz.func86, Tryz.ntmps86
    go_wp2_with fail
    go_ret
    exact ⟨by rw [HE.out]; rfl, rfl⟩
/-- What tokens lays: the text, the classes, the function that reads them. -/
structure LexB (w : World) (s : ByteArray) (bt bc ba : Nat) (W : World) : Prop where
  t : Has W bt 9 #[.string s]
  c : Has W bc 109 clsAll
  a : Has W ba 122 #[.func (.func 86) #[] #[.pointer (some ⟨bt, 0, none⟩), .pointer (some ⟨bc, 0, none⟩)]]
  b : Below w.heap.size w W
theorem LexB.below {w W W' : World} {s : ByteArray} {bt bc ba : Nat} (h : LexB w s bt bc ba W) (hb : Below W.heap.size W W') : LexB w s bt bc ba W' := ⟨h.t.below hb h.t.lt, h.c.below hb h.c.lt, h.a.below hb h.a.lt, h.b.trans (hb.mono h.b.size)⟩
set_option maxRecDepth 100000 in
set_option maxHeartbeats 2000000 in
theorem tokens_any (s : ByteArray) (w : World) :
    Calls Tryz.prog 65 #[.string s] w fun e w' => ∃ bt bc ba, e = .returned (.func (.func 87) #[] #[.pointer (some ⟨bt, 0, none⟩), .pointer (some ⟨ba, 0, none⟩)]) ∧ LexB w s bt bc ba w' := by
  have HT := Lib.hid (Has.new w 9 #[.string s])
  have HB := Lib.hid ((Below.refl w.heap.size w).alloc (Nat.le_refl _) (.cells #[.string s] 9))
  go_enter Tryz.func65, Tryz.ntmps65
  go_upto_region 2 with (first
    | (go_at_call 74; refine (classes_any _).mono ?_; rintro e w1 ⟨rfl, hb1⟩)
    | ((with_reducible show wpList _ _ _ (Oper.mk none (Op.store 109 _ _) _ _ _ _ :: _) _ _); refine wpList_store_row rfl 109 _ _ rfl w1.heap.size clsAll rfl rfl 109 Tryz.zeroCells109 (Has.new w1 _ _) clsAll_info clsAll_zero clsAll_one ?_))
  have hg : Has ((w1.alloc (.cells Tryz.zeroCells109 109)).setRow w1.heap.size clsAll) w1.heap.size 109 clsAll := setRow_heap _ _ _ _ _ _ (Has.new w1 _ _)
  have hb : Below w1.heap.size w1 ((w1.alloc (.cells Tryz.zeroCells109 109)).setRow w1.heap.size clsAll) := below_setRow (((Below.refl w1.heap.size w1).alloc (Nat.le_refl _) _)) (Nat.le_refl _) _
  generalize (w1.alloc (.cells Tryz.zeroCells109 109)).setRow w1.heap.size clsAll = W at *
  have hT1 := HT.out.below hb1 HT.out.lt
  have HTW := Lib.hid (hT1.below hb hT1.lt)
  have HBW := Lib.hid ((HB.out.trans (hb1.mono HB.out.size)).trans (hb.mono (HB.out.trans (hb1.mono HB.out.size)).size))
  have HGW := Lib.hid hg
  clear hg hb hb1 hT1 HT HB
  go_wp2_with fail
  go_ret
  exact ⟨_, w1.heap.size, _, rfl, ⟨HTW.out.alloc _, HGW.out.alloc _, Has.new _ _ _, HBW.out.alloc HBW.out.size _⟩⟩
end Go.Proofs.YtjlpllnhefafkaaGreatDoor
