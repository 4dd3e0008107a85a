/- fleet.of, fleet.yard.get. fleet.ordered at parts: are the names strictly increasing? fleet.ordered at properties: are the keys strictly increasing? -/
import Derived.Deep.RegionHeld3
import Derived.Test.YtccnocgmikmonaaGreatDoorU03
namespace Go.Proofs.YtccnocgmikmonaaGreatDoor
open Go Go.RowKit
/-- Parts by their names: the first place of each. -/
def idxM (l : List Pa) : Nat → List (ByteArray × Value)
  | 0 => []
  | k + 1 => if (l.take k).any (fun p => decide (p.name = (l.getD k noPa).name)) then idxM l k else idxM l k ++ [((l.getD k noPa).name, .int .i64 k)]
theorem idxM_get (l : List Pa) (x : ByteArray) : ∀ k, k ≤ l.length → mget (idxM l k) x = ((l.take k).findIdx? fun p => decide (p.name = x)).map fun (i : Nat) => Value.int .i64 (i : Int)
  | 0, _ => rfl
  | k + 1, hk => by
    have ih := idxM_get l x k (by omega)
    rw [take_getD l k noPa (by omega), List.findIdx?_append]
    unfold idxM
    split
    · rename_i h
      rw [ih]
      cases hf : (l.take k).findIdx? (fun p => decide (p.name = x)) with
      | some i => rfl
      | none =>
        have hne : ¬ (l.getD k noPa).name = x := fun e => by
          rw [List.any_eq_true] at h
          obtain ⟨p, hp, he⟩ := h
          rw [List.findIdx?_eq_none_iff] at hf
          have h1 := hf p hp
          have h2 := of_decide_eq_true he
          rw [e] at h2
          rw [h2] at h1; simp at h1
        rw [List.findIdx?_cons]
        rw [List.getD_eq_getElem?_getD] at hne
        simp [hne]
    · unfold mget at ih ⊢
      rw [List.find?_append]
      cases hf : (l.take k).findIdx? (fun p => decide (p.name = x)) with
      | some i =>
        rw [hf] at ih
        cases hm : (idxM l k).find? (fun p => decide (p.1 = x)) with
        | none => rw [hm] at ih; cases ih
        | some q => rw [hm] at ih; simpa using ih
      | none =>
        rw [hf] at ih
        cases hm : (idxM l k).find? (fun p => decide (p.1 = x)) with
        | some q => rw [hm] at ih; cases ih
        | none =>
          by_cases e : (l.getD k noPa).name = x
          · have : min k l.length = k := by omega
            rw [List.getD_eq_getElem?_getD] at e
            simp [e, this]
          · rw [List.getD_eq_getElem?_getD] at e
            simp [e]
theorem idxM_has (l : List Pa) (k : Nat) (hk : k ≤ l.length) (x : ByteArray) : (mget (idxM l k) x).isSome = (l.take k).any fun p => decide (p.name = x) := by
  rw [idxM_get l x k hk, Option.isSome_map]
  cases hf : (l.take k).findIdx? (fun p => decide (p.name = x)) with
  | none =>
    rw [List.findIdx?_eq_none_iff] at hf
    symm
    simp only [Option.isSome_none, List.any_eq_false]
    intro p hp; rw [hf p hp]; decide
  | some i =>
    rw [List.findIdx?_eq_some_iff_getElem] at hf
    obtain ⟨hi, h1, _⟩ := hf
    symm
    simp only [Option.isSome_some, List.any_eq_true]
    exact ⟨_, List.getElem_mem hi, h1⟩
theorem mput_new {α : Type} [DecidableEq α] {m : List (α × Value)} {a : α} (h : (mget m a).isSome = false) (v : Value) : mput m a v = m ++ [(a, v)] := by
  unfold mput
  have : m.findIdx? (fun p => decide (p.1 = a)) = none := by
    cases hf : m.findIdx? (fun p => decide (p.1 = a)) with
    | none => rfl
    | some i => obtain ⟨v, _, hv⟩ := find_some hf; rw [hv] at h; cases h
  rw [this]
theorem pfind_idx (l : List Pa) (x : ByteArray) : (pfind l x = none ∧ mget (idxM l l.length) x = none) ∨ ∃ k : Nat, k < l.length ∧ pfind l x = some (l.getD k noPa) ∧ mget (idxM l l.length) x = some (.int .i64 k) := by
  rw [idxM_get l x l.length (Nat.le_refl _), List.take_length]
  cases hf : l.findIdx? (fun p => decide (p.name = x)) with
  | none =>
    left
    rw [List.findIdx?_eq_none_iff] at hf
    exact ⟨List.find?_eq_none.2 fun a ha => by have := hf a ha; simpa using this, rfl⟩
  | some k =>
    right
    rw [List.findIdx?_eq_some_iff_getElem] at hf
    obtain ⟨hk, h1, h2⟩ := hf
    refine ⟨k, hk, ?_, rfl⟩
    unfold pfind
    rw [List.find?_eq_some_iff_getElem]
    refine ⟨?_, k, hk, ?_, fun j hj => ?_⟩
    · rw [List.getD_eq_getElem?_getD, List.getElem?_eq_getElem hk]; simpa using h1
    · rw [List.getD_eq_getElem?_getD, List.getElem?_eq_getElem hk]; rfl
    · have := h2 j hj; simpa using this
theorem zero_intV (w : World) : (zeroValue 3).run Tryz.prog w = .ok (.int .i64 0) w := by kernel_rfl

set_option maxRecDepth 100000 in
set_option maxHeartbeats 2000000 in
theorem of_any (w0 : World) (v : Value) (l : List Pa) (w : World) (hb0 : Below w0.heap.size w0 w) (hv : Sta w0 v l) (hl : l.length ≤ 100000) :
    Calls Tryz.prog 30 #[.agg #[v]] w fun e w' => ∃ g, e = .returned (.agg #[v, .map (some g)]) ∧ Mp w' Value.string g (idxM l l.length) ∧ w.heap.size ≤ g ∧ Below w.heap.size w w' := by
  obtain ⟨A, cc, rfl, hn⟩ := hv.form
  have hmm := @run_makeMap Tryz.prog
  have HV := Lib.hid hv
  have HB0 := Lib.hid hb0
  clear hv hb0
  go_enter Tryz.func30, Tryz.ntmps30
  go_wp2_with fail
  go_loopw [15] (fun i wr => ∃ k : Nat, k ≤ l.length ∧ i = .int .i64 k ∧ Hid (Mp wr Value.string (w.heap.size + 1 + 1) (idxM l k)) ∧ Hid (Has wr (w.heap.size + 1) 69 #[.slice none 0 0, .map none]) ∧ Hid (Has wr (w.heap.size + 1 + 1 + 1) 69 #[.slice A l.length cc, .map (some (w.heap.size + 1 + 1))]) ∧ Hid (Below w.heap.size w wr) ∧ w.heap.size + 4 ≤ wr.heap.size) (fun i _ => l.length - (intOf i).toNat)
  case atStart =>
    have h1 := Has.new (w.alloc (.cells #[.slice A l.length cc] 24)) 69 #[.slice none 0 0, .map none]
    have h2 := Mp.new ((w.alloc (.cells #[.slice A l.length cc] 24)).alloc (.cells #[.slice none 0 0, .map none] 69)) Value.string
    have h3 := Has.new (((w.alloc (.cells #[.slice A l.length cc] 24)).alloc (.cells #[.slice none 0 0, .map none] 69)).alloc (.map #[] 0)) 69 #[.slice A l.length cc, .map (some (w.heap.size + 1 + 1))]
    simp only [World.size_alloc] at h1 h2 h3
    exact ⟨0, Nat.zero_le _, rfl, h2.alloc _, (h1.alloc _).alloc _, h3, ((((Below.refl _ _).alloc (Nat.le_refl _) _).alloc (by simp) _).alloc (by simp; omega) _).alloc (by simp; omega) _, by simp⟩
  case round =>
    obtain ⟨k, hk, rfl, HM, HY, HZ, HB, hz⟩ := hrel
    by_cases hlt : k < l.length
    · obtain ⟨b, o, c', cs, he, _, ⟨sv, rfl, hsv⟩, _, hrg⟩ := HV.out.get hlt noPa
      injection he with e1 e2 e3
      subst e1; subst e3
      obtain ⟨A2, c2, rfl, hn2⟩ := hsv.form
      have hrg' := range_later hrg (HB0.out.trans (HB.out.mono HB0.out.size))
      have hhas := idxM_has l k hk (l.getD k noPa).name
      have hst : idxM l (k + 1) = if (l.take k).any (fun p => decide (p.name = (l.getD k noPa).name)) then idxM l k else idxM l k ++ [((l.getD k noPa).name, .int .i64 k)] := rfl
      clear hrg hsv
      generalize l.getD k noPa = q at *
      generalize (l.take k).any (fun p => decide (p.name = q.name)) = tb at *
      have HST := Lib.hid hst
      have HHAS := Lib.hid hhas
      clear hst
      obtain ⟨name, kind, into, slot, made, since, gone, props, kl, kh, cl, ch, dl, dh⟩ := q
      replace hrg' : wr.rangeAt b (o + k * 14) [.string name, .string kind, .string into, .string slot, .int .i64 made, .int .i64 since, .bool gone, .slice A2 props.length c2, .int .i64 kl, .int .i64 kh, .int .i64 cl, .int .i64 ch, .int .i64 dl, .int .i64 dh] := hrg'
      have hM1 := HM.out.alloc (.cells #[.string name, .string kind, .string into, .string slot, .int .i64 made, .int .i64 since, .bool gone, .slice A2 props.length c2, .int .i64 kl, .int .i64 kh, .int .i64 cl, .int .i64 ch, .int .i64 dl, .int .i64 dh] 33)
      have hL := run_look str_keying Tryz.underlying67 hM1 name (zero_intV _) true
      rw [hhas] at hL
      clear hhas
      obtain ⟨p1, _⟩ := (HZ.out.alloc (.cells #[.string name, .string kind, .string into, .string slot, .int .i64 made, .int .i64 since, .bool gone, .slice A2 props.length c2, .int .i64 kl, .int .i64 kh, .int .i64 cl, .int .i64 ch, .int .i64 dl, .int .i64 dh] 33)).facts
      have HM1 := Lib.hid hM1
      clear hM1
      cases tb
      · obtain ⟨w6, hp6, hM6, hG6, hS6⟩ := run_put str_keying Tryz.underlying67 HM1.out name (.int .i64 k)
        rw [mput_new HHAS.out] at hM6
        have HM6 := Lib.hid hM6
        have HG6 := Lib.hid hG6
        have HS6 := Lib.hid hS6
        clear hM6 hG6 hS6
        go_wp2_with ((with_reducible show wpList _ _ _ (Oper.mk (some 19) _ _ _ _ _ :: _) _ _); refine wpList_load_mid rfl 33 _ rfl b (o + k * 14) rfl _ _ hrg' Tryz.underlying33 rfl rfl ?_)
        go_roundw
        case rel => exact ⟨k + 1, by omega, by go_num, by rw [HST.out]; exact HM6.out, (HY.out.alloc _).grown HG6.out (fun h => by have := Option.some.inj h; omega), (HZ.out.alloc _).grown HG6.out (fun h => by have := Option.some.inj h; omega), (HB.out.alloc (by omega) _).grown HG6.out (by simp; omega) (fun j hj => by cases hj; omega), by have := HS6.out; simp at this; omega⟩
        case measure => simp [intOf]; omega
      · go_wp2_with ((with_reducible show wpList _ _ _ (Oper.mk (some 19) _ _ _ _ _ :: _) _ _); refine wpList_load_mid rfl 33 _ rfl b (o + k * 14) rfl _ _ hrg' Tryz.underlying33 rfl rfl ?_)
        go_roundw
        case rel => exact ⟨k + 1, by omega, by go_num, by rw [HST.out]; exact HM1.out, HY.out.alloc _, HZ.out.alloc _, HB.out.alloc (by omega) _, by simp; omega⟩
        case measure => simp [intOf]; omega
    · obtain rfl : k = l.length := by omega
      obtain ⟨p1, p2⟩ := HY.out.facts
      obtain ⟨p3, p4⟩ := HZ.out.facts
      go_wp2_with fail
      refine bodyPost_ret (v := .agg #[.slice A l.length cc, .map (some (w.heap.size + 1 + 1))]) (by simp [results, Tryz.results30, go_sem, p1]) rfl ?_
      have hB := HB.out
      have hz := hB.size
      exact ⟨_, rfl, (HM.out.far _ (by simp) _).far _ (by simp) _, by omega, by go_grown⟩

set_option maxRecDepth 100000 in
set_option maxHeartbeats 2000000 in
theorem get_any (w0 : World) (v : Value) (l : List Pa) (g : Nat) (x : ByteArray) (w : World) (hb0 : Below w0.heap.size w0 w) (hv : Sta w0 v l) (hM : Mp w Value.string g (idxM l l.length)) :
    Calls Tryz.prog 31 #[.agg #[v, .map (some g)], .string x] w fun e w' => ∃ A m, e = .returned (.tuple #[.agg #[.string ((pfind l x).getD noPa).name, .string ((pfind l x).getD noPa).kind, .string ((pfind l x).getD noPa).into, .string ((pfind l x).getD noPa).slot, .int .i64 ((pfind l x).getD noPa).made, .int .i64 ((pfind l x).getD noPa).since, .bool ((pfind l x).getD noPa).gone, .slice A ((pfind l x).getD noPa).props.length m, .int .i64 ((pfind l x).getD noPa).kl, .int .i64 ((pfind l x).getD noPa).kh, .int .i64 ((pfind l x).getD noPa).cl, .int .i64 ((pfind l x).getD noPa).ch, .int .i64 ((pfind l x).getD noPa).dl, .int .i64 ((pfind l x).getD noPa).dh], .bool (pfind l x).isSome]) ∧ Rd 2 PrR w0 (.slice A ((pfind l x).getD noPa).props.length m) ((pfind l x).getD noPa).props ∧ Below w.heap.size w w' := by
  obtain ⟨A, cc, rfl, hn⟩ := hv.form
  have h2 := Has.new (w.alloc (.cells #[.slice A l.length cc, .map (some g)] 69)) 33 #[.string ⟨#[]⟩, .string ⟨#[]⟩, .string ⟨#[]⟩, .string ⟨#[]⟩, .int .i64 0, .int .i64 0, .bool false, .slice none 0 0, .int .i64 0, .int .i64 0, .int .i64 0, .int .i64 0, .int .i64 0, .int .i64 0]
  simp only [World.size_alloc] at h2
  have hb : Below w.heap.size w ((w.alloc (.cells #[.slice A l.length cc, .map (some g)] 69)).alloc (.cells #[.string ⟨#[]⟩, .string ⟨#[]⟩, .string ⟨#[]⟩, .string ⟨#[]⟩, .int .i64 0, .int .i64 0, .bool false, .slice none 0 0, .int .i64 0, .int .i64 0, .int .i64 0, .int .i64 0, .int .i64 0, .int .i64 0] 33)) := ((Below.refl _ _).alloc (Nat.le_refl _) _).alloc (by simp) _
  have hL := run_look str_keying Tryz.underlying67 ((hM.alloc (.cells #[.slice A l.length cc, .map (some g)] 69)).alloc (.cells #[.string ⟨#[]⟩, .string ⟨#[]⟩, .string ⟨#[]⟩, .string ⟨#[]⟩, .int .i64 0, .int .i64 0, .bool false, .slice none 0 0, .int .i64 0, .int .i64 0, .int .i64 0, .int .i64 0, .int .i64 0, .int .i64 0] 33)) x (zero_intV _) true
  have hf := pfind_idx l x
  obtain ⟨p2, p3⟩ := h2.facts
  have HB := Lib.hid hb
  clear hb h2
  rcases hf with ⟨hf, hg⟩ | ⟨k, hk, hf, hg⟩
  · rw [hf]
    rw [hg] at hL
    clear hf hg
    go_enter Tryz.func31, Tryz.ntmps31
    go_wp2_with fail
    refine bodyPost_ret (v := .tuple #[.agg #[.string ⟨#[]⟩, .string ⟨#[]⟩, .string ⟨#[]⟩, .string ⟨#[]⟩, .int .i64 0, .int .i64 0, .bool false, .slice none 0 0, .int .i64 0, .int .i64 0, .int .i64 0, .int .i64 0, .int .i64 0, .int .i64 0], .bool false]) (by simp [results, Tryz.results31, go_sem, p2]) rfl ?_
    have hB := HB.out
    exact ⟨none, 0, rfl, Rd.nil _ _, by go_grown⟩
  · obtain ⟨b, o, c', cs, he, _, ⟨sv, rfl, hsv⟩, _, hrg⟩ := hv.get hk noPa
    injection he with e1 e2 e3
    subst e1; subst e3
    obtain ⟨A2, c2, rfl, hn2⟩ := hsv.form
    have HSV := Lib.hid hsv
    have hrg' := range_later hrg (hb0.trans (HB.out.mono hb0.size))
    clear hsv hrg
    rw [hf]
    rw [hg] at hL
    clear hf hg
    show Calls _ _ _ _ fun e w' => ∃ A m, e = .returned (.tuple #[.agg #[.string (l.getD k noPa).name, .string (l.getD k noPa).kind, .string (l.getD k noPa).into, .string (l.getD k noPa).slot, .int .i64 (l.getD k noPa).made, .int .i64 (l.getD k noPa).since, .bool (l.getD k noPa).gone, .slice A (l.getD k noPa).props.length m, .int .i64 (l.getD k noPa).kl, .int .i64 (l.getD k noPa).kh, .int .i64 (l.getD k noPa).cl, .int .i64 (l.getD k noPa).ch, .int .i64 (l.getD k noPa).dl, .int .i64 (l.getD k noPa).dh], .bool true]) ∧ Rd 2 PrR w0 (.slice A (l.getD k noPa).props.length m) (l.getD k noPa).props ∧ Below w.heap.size w w'
    generalize l.getD k noPa = q at *
    obtain ⟨name, kind, into, slot, made, since, gone, props, kl, kh, cl, ch, dl, dh⟩ := q
    replace hrg' : ((w.alloc (.cells #[.slice (some ⟨b, o, none⟩) l.length cc, .map (some g)] 69)).alloc (.cells #[.string ⟨#[]⟩, .string ⟨#[]⟩, .string ⟨#[]⟩, .string ⟨#[]⟩, .int .i64 0, .int .i64 0, .bool false, .slice none 0 0, .int .i64 0, .int .i64 0, .int .i64 0, .int .i64 0, .int .i64 0, .int .i64 0] 33)).rangeAt b (o + k * 14) [.string name, .string kind, .string into, .string slot, .int .i64 made, .int .i64 since, .bool gone, .slice A2 props.length c2, .int .i64 kl, .int .i64 kh, .int .i64 cl, .int .i64 ch, .int .i64 dl, .int .i64 dh] := hrg'
    have HV := Lib.hid hv
    have HB0 := Lib.hid hb0
    have HM := Lib.hid hM
    clear hv hb0 hM
    go_enter Tryz.func31, Tryz.ntmps31
    go_wp2_with ((with_reducible show wpList _ _ _ (Oper.mk (some 22) _ _ _ _ _ :: _) _ _); refine wpList_load_mid rfl 33 _ rfl b (o + k * 14) rfl _ _ hrg' Tryz.underlying33 rfl rfl ?_)
    refine bodyPost_ret (v := .tuple #[.agg #[.string name, .string kind, .string into, .string slot, .int .i64 made, .int .i64 since, .bool gone, .slice A2 props.length c2, .int .i64 kl, .int .i64 kh, .int .i64 cl, .int .i64 ch, .int .i64 dl, .int .i64 dh], .bool true]) (by simp [results, Tryz.results31, go_sem]) rfl ?_
    have hB := HB.out
    exact ⟨A2, c2, rfl, HSV.out, by go_grown⟩
end Go.Proofs.YtccnocgmikmonaaGreatDoor
namespace Go.Proofs.YtccnocgmikmonaaGreatDoor
open Go Go.RowKit
theorem below_keep {a w w1 : World} {p : Prop} (h1 : Below w.heap.size w w1) (h : Below a.heap.size a w ∧ p) : Below a.heap.size a w1 := h.1.trans (h1.mono h.1.size)
theorem partName_any (name kind into slot : ByteArray) (made since : Int) (gone : Bool) (A : Option Addr) (n c : Nat) (kl kh cl ch dl dh : Int) (w : World) :
    Calls Tryz.prog 65 #[.agg #[.string name, .string kind, .string into, .string slot, .int .i64 made, .int .i64 since, .bool gone, .slice A n c, .int .i64 kl, .int .i64 kh, .int .i64 cl, .int .i64 ch, .int .i64 dl, .int .i64 dh]] w fun e w' => e = .returned (.string name) ∧ Below w.heap.size w w' := by
  go_enter Tryz.func65, Tryz.ntmps65
  go_wp2
  go_ret
  exact ⟨rfl, (Below.refl _ _).alloc (Nat.le_refl _) _⟩
theorem sortTo_bad {l : List ByteArray} {n : Nat} (h : n + 1 < l.length) (hb : ltS (l.getD n eS) (l.getD (n + 1) eS) = false) : sortedB l = false := by
  unfold sortedB sortTo
  rw [List.all_eq_false]
  exact ⟨n, List.mem_range.2 (by omega), by rw [hb]; decide⟩
theorem sortTo_step {l : List ByteArray} {n : Nat} (h : sortTo l n = true) (hb : ltS (l.getD n eS) (l.getD (n + 1) eS) = true) : sortTo l (n + 1) = true := by
  unfold sortTo at *
  rw [List.range_succ, List.all_append, h]
  simp only [List.all_cons, List.all_nil, hb, Bool.and_true]
theorem map_getD {α : Type} (f : α → ByteArray) (l : List α) (k : Nat) (d : α) (h : k < l.length) : (l.map f).getD k eS = f (l.getD k d) := by
  rw [List.getD_eq_getElem?_getD, List.getElem?_map, List.getD_eq_getElem?_getD, List.getElem?_eq_getElem h]; rfl
set_option maxRecDepth 100000 in
set_option maxHeartbeats 2000000 in
theorem orderedP_any (v : Value) (l : List Pa) (w : World) (hv : Sta w v l) (hl : l.length ≤ 100000) :
    Calls Tryz.prog 64 #[v, .func (.func 65) #[] #[]] w fun e w' => e = .returned (.bool (sortedB (l.map Pa.name))) ∧ Below w.heap.size w w' := by
  obtain ⟨A, cc, rfl, hn⟩ := hv.form
  have HV := Lib.hid hv
  clear hv
  go_enter Tryz.func64, Tryz.ntmps64
  go_wp2_with fail
  go_loopw [5] (fun i wr => ∃ k : Nat, (k ≤ l.length ∨ k = 1) ∧ 1 ≤ k ∧ i = .int .i64 k ∧ Hid (sortTo (l.map Pa.name) (k - 1) = true) ∧ Hid (Below w.heap.size w wr)) (fun i _ => l.length + 1 - (intOf i).toNat)
  case atStart => exact ⟨1, .inr rfl, Nat.le_refl _, rfl, rfl, Below.refl _ _⟩
  case round =>
    obtain ⟨k, hk, hk1, rfl, HT, HB⟩ := hrel
    by_cases hlt : k < l.length
    · obtain ⟨n, hkn⟩ : ∃ n, k = n + 1 := ⟨k - 1, by omega⟩
      obtain ⟨b, o, c', cs, he, _, ⟨sv, rfl, hsv⟩, _, hrg⟩ := HV.out.get hlt noPa
      injection he with e1 e2 e3
      subst e1; subst e3
      obtain ⟨A2, c2, rfl, hn2⟩ := hsv.form
      obtain ⟨b', o', c'', cs', he, _, ⟨sv', rfl, hsv'⟩, _, hrgp⟩ := HV.out.get (show n < l.length by omega) noPa
      injection he with e1 e2' e3
      injection e1 with e1
      injection e1 with e1 e1'
      subst e1; subst e1'; subst e3
      obtain ⟨A3, c3, rfl, hn3⟩ := hsv'.form
      have HR1 := Lib.hid (range_later hrg HB.out)
      have HR2 := Lib.hid (range_later hrgp HB.out)
      have hbad := Lib.hid (fun h => sortTo_bad (l := l.map Pa.name) (n := n) (by rw [← hkn]; simpa using hlt) h)
      have hstep := Lib.hid (fun h => sortTo_step (l := l.map Pa.name) (n := n) (by have := HT.out; rwa [show k - 1 = n by omega] at this) h)
      rw [← hkn, map_getD Pa.name l n noPa (by omega), map_getD Pa.name l k noPa hlt] at hbad hstep
      clear hrg hrgp hsv hsv'
      generalize l.getD n noPa = p at *
      generalize l.getD k noPa = q at *
      obtain ⟨name, kind, into, slot, made, since, gone, props, kl, kh, cl, ch, dl, dh⟩ := p
      obtain ⟨name2, kind2, into2, slot2, made2, since2, gone2, props2, kl2, kh2, cl2, ch2, dl2, dh2⟩ := q
      have hsub : IntKind.i64.wrap ((k : Int) - 1) = (n : Int) := by rw [IntKind.wrap_i64]; omega
      have hnl : n < l.length := by omega
      have HKN := Lib.hid hkn
      clear hkn
      have q0 : wr.cell? ⟨b, o + n * 14, none⟩ = some (.string name) := HR2.out 0 _ rfl
      have q1 : wr.cell? ⟨b, o + n * 14 + 1, none⟩ = some (.string kind) := HR2.out 1 _ rfl
      have q2 : wr.cell? ⟨b, o + n * 14 + 2, none⟩ = some (.string into) := HR2.out 2 _ rfl
      have q3 : wr.cell? ⟨b, o + n * 14 + 3, none⟩ = some (.string slot) := HR2.out 3 _ rfl
      have q4 : wr.cell? ⟨b, o + n * 14 + 4, none⟩ = some (.int .i64 made) := HR2.out 4 _ rfl
      have q5 : wr.cell? ⟨b, o + n * 14 + 5, none⟩ = some (.int .i64 since) := HR2.out 5 _ rfl
      have q6 : wr.cell? ⟨b, o + n * 14 + 6, none⟩ = some (.bool gone) := HR2.out 6 _ rfl
      have q7 : wr.cell? ⟨b, o + n * 14 + 7, none⟩ = some (.slice A3 props.length c3) := HR2.out 7 _ rfl
      have q8 : wr.cell? ⟨b, o + n * 14 + 8, none⟩ = some (.int .i64 kl) := HR2.out 8 _ rfl
      have q9 : wr.cell? ⟨b, o + n * 14 + 9, none⟩ = some (.int .i64 kh) := HR2.out 9 _ rfl
      have q10 : wr.cell? ⟨b, o + n * 14 + 10, none⟩ = some (.int .i64 cl) := HR2.out 10 _ rfl
      have q11 : wr.cell? ⟨b, o + n * 14 + 11, none⟩ = some (.int .i64 ch) := HR2.out 11 _ rfl
      have q12 : wr.cell? ⟨b, o + n * 14 + 12, none⟩ = some (.int .i64 dl) := HR2.out 12 _ rfl
      have q13 : wr.cell? ⟨b, o + n * 14 + 13, none⟩ = some (.int .i64 dh) := HR2.out 13 _ rfl
      have q14 : wr.cell? ⟨b, o + k * 14, none⟩ = some (.string name2) := HR1.out 0 _ rfl
      have q15 : wr.cell? ⟨b, o + k * 14 + 1, none⟩ = some (.string kind2) := HR1.out 1 _ rfl
      have q16 : wr.cell? ⟨b, o + k * 14 + 2, none⟩ = some (.string into2) := HR1.out 2 _ rfl
      have q17 : wr.cell? ⟨b, o + k * 14 + 3, none⟩ = some (.string slot2) := HR1.out 3 _ rfl
      have q18 : wr.cell? ⟨b, o + k * 14 + 4, none⟩ = some (.int .i64 made2) := HR1.out 4 _ rfl
      have q19 : wr.cell? ⟨b, o + k * 14 + 5, none⟩ = some (.int .i64 since2) := HR1.out 5 _ rfl
      have q20 : wr.cell? ⟨b, o + k * 14 + 6, none⟩ = some (.bool gone2) := HR1.out 6 _ rfl
      have q21 : wr.cell? ⟨b, o + k * 14 + 7, none⟩ = some (.slice A2 props2.length c2) := HR1.out 7 _ rfl
      have q22 : wr.cell? ⟨b, o + k * 14 + 8, none⟩ = some (.int .i64 kl2) := HR1.out 8 _ rfl
      have q23 : wr.cell? ⟨b, o + k * 14 + 9, none⟩ = some (.int .i64 kh2) := HR1.out 9 _ rfl
      have q24 : wr.cell? ⟨b, o + k * 14 + 10, none⟩ = some (.int .i64 cl2) := HR1.out 10 _ rfl
      have q25 : wr.cell? ⟨b, o + k * 14 + 11, none⟩ = some (.int .i64 ch2) := HR1.out 11 _ rfl
      have q26 : wr.cell? ⟨b, o + k * 14 + 12, none⟩ = some (.int .i64 dl2) := HR1.out 12 _ rfl
      have q27 : wr.cell? ⟨b, o + k * 14 + 13, none⟩ = some (.int .i64 dh2) := HR1.out 13 _ rfl
      have hS0 : Below wr.heap.size wr wr := Below.refl _ _
      go_wp2_with fail
      go_region_held3 (fun w' => Below wr.heap.size wr w' ∧ w'.cell? ⟨b, o + n * 14, none⟩ = some (.string name) ∧ w'.cell? ⟨b, o + n * 14 + 1, none⟩ = some (.string kind) ∧ w'.cell? ⟨b, o + n * 14 + 2, none⟩ = some (.string into) ∧ w'.cell? ⟨b, o + n * 14 + 3, none⟩ = some (.string slot) ∧ w'.cell? ⟨b, o + n * 14 + 4, none⟩ = some (.int .i64 made) ∧ w'.cell? ⟨b, o + n * 14 + 5, none⟩ = some (.int .i64 since) ∧ w'.cell? ⟨b, o + n * 14 + 6, none⟩ = some (.bool gone) ∧ w'.cell? ⟨b, o + n * 14 + 7, none⟩ = some (.slice A3 props.length c3) ∧ w'.cell? ⟨b, o + n * 14 + 8, none⟩ = some (.int .i64 kl) ∧ w'.cell? ⟨b, o + n * 14 + 9, none⟩ = some (.int .i64 kh) ∧ w'.cell? ⟨b, o + n * 14 + 10, none⟩ = some (.int .i64 cl) ∧ w'.cell? ⟨b, o + n * 14 + 11, none⟩ = some (.int .i64 ch) ∧ w'.cell? ⟨b, o + n * 14 + 12, none⟩ = some (.int .i64 dl) ∧ w'.cell? ⟨b, o + n * 14 + 13, none⟩ = some (.int .i64 dh) ∧ w'.cell? ⟨b, o + k * 14, none⟩ = some (.string name2) ∧ w'.cell? ⟨b, o + k * 14 + 1, none⟩ = some (.string kind2) ∧ w'.cell? ⟨b, o + k * 14 + 2, none⟩ = some (.string into2) ∧ w'.cell? ⟨b, o + k * 14 + 3, none⟩ = some (.string slot2) ∧ w'.cell? ⟨b, o + k * 14 + 4, none⟩ = some (.int .i64 made2) ∧ w'.cell? ⟨b, o + k * 14 + 5, none⟩ = some (.int .i64 since2) ∧ w'.cell? ⟨b, o + k * 14 + 6, none⟩ = some (.bool gone2) ∧ w'.cell? ⟨b, o + k * 14 + 7, none⟩ = some (.slice A2 props2.length c2) ∧ w'.cell? ⟨b, o + k * 14 + 8, none⟩ = some (.int .i64 kl2) ∧ w'.cell? ⟨b, o + k * 14 + 9, none⟩ = some (.int .i64 kh2) ∧ w'.cell? ⟨b, o + k * 14 + 10, none⟩ = some (.int .i64 cl2) ∧ w'.cell? ⟨b, o + k * 14 + 11, none⟩ = some (.int .i64 ch2) ∧ w'.cell? ⟨b, o + k * 14 + 12, none⟩ = some (.int .i64 dl2) ∧ w'.cell? ⟨b, o + k * 14 + 13, none⟩ = some (.int .i64 dh2)) (refine ⟨?_, ?_, ?_, ?_, ?_, ?_, ?_, ?_, ?_, ?_, ?_, ?_, ?_, ?_, ?_, ?_, ?_, ?_, ?_, ?_, ?_, ?_, ?_, ?_, ?_, ?_, ?_, ?_, ?_⟩ <;> first | assumption | exact Below.drew (by assumption) | exact below_keep (by assumption) (by assumption) | exact cell_later (below_keep (by assumption) (by assumption)) (by assumption)) ((first | (go_at_call 65; refine (partName_any _ _ _ _ _ _ _ _ _ _ _ _ _ _ _ _ _).mono ?_; rintro e w1 ⟨rfl, hb1⟩)))
      rename_i hHeld
      obtain ⟨hHB, _⟩ := hHeld
      have HF := Lib.hid (HB.out.trans (hHB.mono HB.out.size))
      cases hlt2 : Op.bytesLess name.toList name2.toList
      · have hlt3 := Lib.hid hlt2
        go_wp2_with fail
        go_ret
        exact ⟨ret_bool (hbad.out hlt3.out).symm, HF.out⟩
      · have hlt3 := Lib.hid hlt2
        go_wp2_with fail
        go_roundw
        case rel => exact ⟨k + 1, .inl (by omega), by omega, by go_num, by rw [show k + 1 - 1 = k by omega]; exact hstep.out hlt3.out, HF.out⟩
        case measure => simp [intOf]; omega
    · go_wp2_with fail
      go_ret
      refine ⟨ret_bool ?_, HB.out⟩
      unfold sortedB
      have := HT.out
      rw [List.length_map, show l.length - 1 = k - 1 by omega, this]
end Go.Proofs.YtccnocgmikmonaaGreatDoor
namespace Go.Proofs.YtccnocgmikmonaaGreatDoor
open Go Go.RowKit
theorem propKey_any (key val : ByteArray) (w : World) :
    Calls Tryz.prog 104 #[.agg #[.string key, .string val]] w fun e w' => e = .returned (.string key) ∧ Below w.heap.size w w' := by
  go_enter Tryz.func104, Tryz.ntmps104
  go_wp2
  go_ret
  exact ⟨rfl, (Below.refl _ _).alloc (Nat.le_refl _) _⟩
set_option maxRecDepth 100000 in
set_option maxHeartbeats 2000000 in
theorem orderedX_any (v : Value) (l : List Pr) (w : World) (hv : Rd 2 PrR w v l) (hl : l.length ≤ 100000) :
    Calls Tryz.prog 103 #[v, .func (.func 104) #[] #[]] w fun e w' => e = .returned (.bool (sortedB (l.map Pr.key))) ∧ Below w.heap.size w w' := by
  obtain ⟨A, cc, rfl, hn⟩ := hv.form
  have HV := Lib.hid hv
  clear hv
  go_enter Tryz.func103, Tryz.ntmps103
  go_wp2_with fail
  go_loopw [5] (fun i wr => ∃ k : Nat, (k ≤ l.length ∨ k = 1) ∧ 1 ≤ k ∧ i = .int .i64 k ∧ Hid (sortTo (l.map Pr.key) (k - 1) = true) ∧ Hid (Below w.heap.size w wr)) (fun i _ => l.length + 1 - (intOf i).toNat)
  case atStart => exact ⟨1, .inr rfl, Nat.le_refl _, rfl, rfl, Below.refl _ _⟩
  case round =>
    obtain ⟨k, hk, hk1, rfl, HT, HB⟩ := hrel
    by_cases hlt : k < l.length
    · obtain ⟨n, hkn⟩ : ∃ n, k = n + 1 := ⟨k - 1, by omega⟩
      obtain ⟨b, o, c', cs, he, _, hcs, _, hrg⟩ := HV.out.get hlt noPr
      injection he with e1 e2 e3
      subst e1; subst e3
      obtain ⟨b', o', c'', cs', he, _, hcs', _, hrgp⟩ := HV.out.get (show n < l.length by omega) noPr
      injection he with e1 e2' e3
      injection e1 with e1
      injection e1 with e1 e1'
      subst e1; subst e1'; subst e3
      have hbad := Lib.hid (fun h => sortTo_bad (l := l.map Pr.key) (n := n) (by rw [← hkn]; simpa using hlt) h)
      have hstep := Lib.hid (fun h => sortTo_step (l := l.map Pr.key) (n := n) (by have := HT.out; rwa [show k - 1 = n by omega] at this) h)
      rw [← hkn, map_getD Pr.key l n noPr (by omega), map_getD Pr.key l k noPr hlt] at hbad hstep
      unfold PrR at hcs hcs'
      subst hcs; subst hcs'
      have HR1 := Lib.hid (range_later hrg HB.out)
      have HR2 := Lib.hid (range_later hrgp HB.out)
      clear hrg hrgp
      generalize l.getD n noPr = p at *
      generalize l.getD k noPr = q at *
      obtain ⟨key, val⟩ := p
      obtain ⟨key2, val2⟩ := q
      have hsub : IntKind.i64.wrap ((k : Int) - 1) = (n : Int) := by rw [IntKind.wrap_i64]; omega
      have hnl : n < l.length := by omega
      have HKN := Lib.hid hkn
      clear hkn
      have q0 : wr.cell? ⟨b, o + n * 2, none⟩ = some (.string key) := HR2.out 0 _ rfl
      have q1 : wr.cell? ⟨b, o + n * 2 + 1, none⟩ = some (.string val) := HR2.out 1 _ rfl
      have q2 : wr.cell? ⟨b, o + k * 2, none⟩ = some (.string key2) := HR1.out 0 _ rfl
      have q3 : wr.cell? ⟨b, o + k * 2 + 1, none⟩ = some (.string val2) := HR1.out 1 _ rfl
      have hS0 : Below wr.heap.size wr wr := Below.refl _ _
      go_wp2_with fail
      go_region_held3 (fun w' => Below wr.heap.size wr w' ∧ w'.cell? ⟨b, o + n * 2, none⟩ = some (.string key) ∧ w'.cell? ⟨b, o + n * 2 + 1, none⟩ = some (.string val) ∧ w'.cell? ⟨b, o + k * 2, none⟩ = some (.string key2) ∧ w'.cell? ⟨b, o + k * 2 + 1, none⟩ = some (.string val2)) (refine ⟨?_, ?_, ?_, ?_, ?_⟩ <;> first | assumption | exact Below.drew (by assumption) | exact below_keep (by assumption) (by assumption) | exact cell_later (below_keep (by assumption) (by assumption)) (by assumption)) ((first | (go_at_call 104; refine (propKey_any _ _ _).mono ?_; rintro e w1 ⟨rfl, hb1⟩)))
      rename_i hHeld
      obtain ⟨hHB, _⟩ := hHeld
      have HF := Lib.hid (HB.out.trans (hHB.mono HB.out.size))
      cases hlt2 : Op.bytesLess key.toList key2.toList
      · have hlt3 := Lib.hid hlt2
        go_wp2_with fail
        go_ret
        exact ⟨ret_bool (hbad.out hlt3.out).symm, HF.out⟩
      · have hlt3 := Lib.hid hlt2
        go_wp2_with fail
        go_roundw
        case rel => exact ⟨k + 1, .inl (by omega), by omega, by go_num, by rw [show k + 1 - 1 = k by omega]; exact hstep.out hlt3.out, HF.out⟩
        case measure => simp [intOf]; omega
    · go_wp2_with fail
      go_ret
      refine ⟨ret_bool ?_, HB.out⟩
      unfold sortedB
      have := HT.out
      rw [List.length_map, show l.length - 1 = k - 1 by omega, this]
end Go.Proofs.YtccnocgmikmonaaGreatDoor
