/- fleet.Find: the state of a part. Plain facts of what an event makes of a valid state: it is valid again. Plain laws of the fleet: changes, means, there and back. event.Names: the parts that an event mentions. Two events of which none mentions a part of the other one, in either order. What an event makes of short parts is short; one event as a slice. The cells of a part; what the test of sizes gives. bogieref10.SamePart: are two parts equal? bogieref10.Same: are two states equal? -/
import Derived.BigQuiet
import Derived.Deep.QuietTactic
import Derived.Deep.RegionHeld3
import Derived.Lib.MinMaxS
import Derived.Test.YtpikcofbhkbifaaGreatU01
import Derived.Test.YtpikcofbhkbifaaGreatU04
import Derived.Test.YtpikcofbhkbifaaGreatU07
import Derived.Test.YtpikcofbhkbifaaGreatU13
import Derived.Test.YtpikcofbhkbifaaGreatU24
import Derived.Test.YtpikcofbhkbifaaGreatU25
import Derived.Test.YtpikcofbhkbifaaGreatU26
namespace Go.Proofs.YtpikcofbhkbifaaGreat
open Go Go.RowKit
theorem pfind_at {l : List Pa} {x : ByteArray} {k : Nat} (hk : k < l.length) (h : ∀ q ∈ l.take k, q.name ≠ x) (he : (l.getD k noPa).name = x) : pfind l x = some (l.getD k noPa) := by
  have hg : l.getD k noPa = l[k] := by rw [List.getD_eq_getElem?_getD, List.getElem?_eq_getElem hk]; rfl
  rw [hg] at he ⊢
  unfold pfind
  rw [List.find?_eq_some_iff_getElem]
  refine ⟨by simpa using he, k, hk, rfl, fun j hj => ?_⟩
  have := h l[j] (List.mem_take_iff_getElem.2 ⟨j, by omega, rfl⟩)
  simpa using this
theorem pfind_all {l : List Pa} {x : ByteArray} (h : ∀ q ∈ l.take l.length, q.name ≠ x) : pfind l x = none := by
  rw [List.take_length] at h
  unfold pfind; rw [List.find?_eq_none]
  intro q hq; simpa using h q hq
theorem take_next {l : List Pa} {x : ByteArray} {k : Nat} (hk : k < l.length) (h : ∀ q ∈ l.take k, q.name ≠ x) (he : (l.getD k noPa).name ≠ x) : ∀ q ∈ l.take (k + 1), q.name ≠ x := by
  intro q hq
  rw [List.take_succ_eq_append_getElem hk, List.mem_append, List.mem_singleton] at hq
  rcases hq with hq | rfl
  · exact h q hq
  · rwa [List.getD_eq_getElem?_getD, List.getElem?_eq_getElem hk] at he
theorem new_range (w : World) (t : TypeId) (cs : List Value) : (w.alloc (.cells cs.toArray t)).rangeAt w.heap.size 0 cs := by
  intro j v hv
  have h1 := (Has.new w t cs.toArray).facts.1 j
  rw [Nat.zero_add, h1]
  simpa using hv
theorem thereH {w : World} {g t n : Nat} {cs : Array Value} (h : Has w g t cs) (hn : n ≤ cs.size) : w.there g 0 n := fun j hj => ⟨by rw [Nat.zero_add, h.cell, Array.getElem?_eq_getElem (by omega)]; rfl, h.free _⟩
theorem setAllH {w : World} {g t : Nat} {cs : Array Value} (h : Has w g t cs) (ds : List Value) (hl : ds.length = cs.size) : Has (w.setCells g 0 ds) g t ds.toArray := by
  have := setCells_block g t ds 0 cs.toList w (by have := h; unfold Has at this; simpa using this) (by simp; omega)
  unfold Has; rw [this]; unfold splice; simp; omega
theorem sizePt : (Tryz.prog.info? 47).map (·.size) = some 14 := by kernel_rfl
theorem onePt (a b c d : ByteArray) (e f : Int) (g : Bool) (A : Option Addr) (n m : Nat) (h i j k l o : Int) : (#[.string a, .string b, .string c, .string d, .int .i64 e, .int .i64 f, .bool g, .slice A n m, .int .i64 h, .int .i64 i, .int .i64 j, .int .i64 k, .int .i64 l, .int .i64 o] : Array Value).all (·.oneCell') = true := by
  simp [Value.oneCell']
/-- A row stored into a block: what is known of the world behind it. -/
theorem stored {w0 w : World} {g t B : Nat} {cs : Array Value} (h : Has w g t cs) (hb : Below B w0 w) (hg : B ≤ g) (ds : Array Value) (hl : ds.size = cs.size) : ∃ W, w.setCells g 0 ds.toList = W ∧ Has W g t ds ∧ Below B w0 W :=
  ⟨_, rfl, by have := setAllH h ds.toList (by simpa using hl); simpa using this, below_setCells hg ds.toList 0 w hb⟩
set_option maxRecDepth 100000 in
set_option maxHeartbeats 2000000 in
theorem fpart_any (w0 : World) (v : Value) (l : List Pa) (x : ByteArray) (w : World) (hb0 : Below w0.heap.size w0 w) (hv : Sta w0 v l) (hl : l.length ≤ 1000000) :
    Calls Tryz.prog 16 #[.agg #[v], .string x] w fun e w' => ∃ A m, e = .returned (.tuple #[.agg #[.string ((pfind l x).getD noPa).name, .string ((pfind l x).getD noPa).kind, .string ((pfind l x).getD noPa).into, .string ((pfind l x).getD noPa).slot, .int .i64 ((pfind l x).getD noPa).made, .int .i64 ((pfind l x).getD noPa).since, .bool ((pfind l x).getD noPa).gone, .slice A ((pfind l x).getD noPa).props.length m, .int .i64 ((pfind l x).getD noPa).kl, .int .i64 ((pfind l x).getD noPa).kh, .int .i64 ((pfind l x).getD noPa).cl, .int .i64 ((pfind l x).getD noPa).ch, .int .i64 ((pfind l x).getD noPa).dl, .int .i64 ((pfind l x).getD noPa).dh], .bool (pfind l x).isSome]) ∧ Rd 2 PrR w0 (.slice A ((pfind l x).getD noPa).props.length m) ((pfind l x).getD noPa).props ∧ Below w.heap.size w w' := by
  obtain ⟨A, cc, rfl, hn⟩ := hv.form
  have h2 := Has.new (w.alloc (.cells #[.slice A l.length cc] 27)) 47 #[.string ⟨#[]⟩, .string ⟨#[]⟩, .string ⟨#[]⟩, .string ⟨#[]⟩, .int .i64 0, .int .i64 0, .bool false, .slice none 0 0, .int .i64 0, .int .i64 0, .int .i64 0, .int .i64 0, .int .i64 0, .int .i64 0]
  simp only [World.size_alloc] at h2
  have hb : Below w.heap.size w ((w.alloc (.cells #[.slice A l.length cc] 27)).alloc (.cells #[.string ⟨#[]⟩, .string ⟨#[]⟩, .string ⟨#[]⟩, .string ⟨#[]⟩, .int .i64 0, .int .i64 0, .bool false, .slice none 0 0, .int .i64 0, .int .i64 0, .int .i64 0, .int .i64 0, .int .i64 0, .int .i64 0] 47)) := ((Below.refl _ _).alloc (Nat.le_refl _) _).alloc (by simp) _
  have HV := Lib.hid hv
  have HB0 := Lib.hid hb0
  have HP1 := Lib.hid h2
  have HB1 := Lib.hid hb
  clear hv hb0 h2 hb
  go_enter Tryz.func16, Tryz.ntmps16
  go_wp2_with fail
  go_loopw [11] (fun i wr => ∃ k : Nat, k ≤ l.length ∧ i = .int .i64 k ∧ Hid (∀ q ∈ l.take k, q.name ≠ x) ∧ Hid (Has wr (w.heap.size + 1) 47 #[.string ⟨#[]⟩, .string ⟨#[]⟩, .string ⟨#[]⟩, .string ⟨#[]⟩, .int .i64 0, .int .i64 0, .bool false, .slice none 0 0, .int .i64 0, .int .i64 0, .int .i64 0, .int .i64 0, .int .i64 0, .int .i64 0]) ∧ Hid (Below w.heap.size w wr)) (fun i _ => l.length - (intOf i).toNat)
  case atStart => exact ⟨0, Nat.zero_le _, rfl, fun q hq => by simp at hq, HP1.out, HB1.out⟩
  case round =>
    obtain ⟨k, hk, rfl, HT, HP, HB⟩ := hrel
    clear HP1 HB1
    have hwr : w.heap.size + 1 < wr.heap.size := HP.out.lt
    by_cases hlt : k < l.length
    · obtain ⟨b, o, c', cs, he, _, ⟨sv, rfl, hsv⟩, _, hrg⟩ := HV.out.get hlt noPa
      injection he with e1 e2 e3
      subst e1; subst e3
      obtain ⟨A2, c2, rfl, hn2⟩ := hsv.form
      have HSV := Lib.hid hsv
      have hrg' := range_later hrg (HB0.out.trans (HB.out.mono HB0.out.size))
      have HAT := Lib.hid (fun he => pfind_at hlt HT.out he)
      have HNX := Lib.hid (fun he => take_next hlt HT.out he)
      have hki : (k : Int) < (l.length : Int) := by omega
      clear hrg hsv
      generalize l.getD k noPa = q at *
      obtain ⟨name, kind, into, slot, made, since, gone, props, kl, kh, cl, ch, dl, dh⟩ := q
      replace hrg' : wr.rangeAt b (o + k * 14) [.string name, .string kind, .string into, .string slot, .int .i64 made, .int .i64 since, .bool gone, .slice A2 props.length c2, .int .i64 kl, .int .i64 kh, .int .i64 cl, .int .i64 ch, .int .i64 dl, .int .i64 dh] := hrg'
      have hp1 := HP.out.alloc (.cells #[.string name, .string kind, .string into, .string slot, .int .i64 made, .int .i64 since, .bool gone, .slice A2 props.length c2, .int .i64 kl, .int .i64 kh, .int .i64 cl, .int .i64 ch, .int .i64 dl, .int .i64 dh] 47)
      have HP2 := Lib.hid hp1
      clear hp1
      cases he : (name.toList == x.toList)
      · have hne : name ≠ x := by rw [beq_bytes] at he; exact of_decide_eq_false he
        have HN := Lib.hid (HNX.out hne)
        clear hne
        go_wp2_with ((with_reducible show wpList _ _ _ (Oper.mk (some 14) _ _ _ _ _ :: _) _ _); refine wpList_load_mid rfl 47 _ rfl b (o + k * 14) rfl _ _ hrg' Tryz.underlying47 rfl rfl ?_)
        go_roundw
        case rel => exact ⟨k + 1, by omega, by go_num, HN.out, HP2.out, HB.out.alloc (by omega) _⟩
        case measure => simp [intOf]; omega
      · have heq : name = x := by rw [beq_bytes] at he; exact of_decide_eq_true he
        have HE := Lib.hid (HAT.out heq)
        clear heq
        have HT7 := Lib.hid (thereH (n := 14) HP2.out (by simp))
        obtain ⟨W, hWe, hW, hB⟩ := stored HP2.out (HB.out.alloc HB.out.size (.cells #[.string name, .string kind, .string into, .string slot, .int .i64 made, .int .i64 since, .bool gone, .slice A2 props.length c2, .int .i64 kl, .int .i64 kh, .int .i64 cl, .int .i64 ch, .int .i64 dl, .int .i64 dh] 47)) (by omega : w.heap.size ≤ w.heap.size + 1) #[.string name, .string kind, .string into, .string slot, .int .i64 made, .int .i64 since, .bool gone, .slice A2 props.length c2, .int .i64 kl, .int .i64 kh, .int .i64 cl, .int .i64 ch, .int .i64 dl, .int .i64 dh] rfl
        obtain ⟨n4, n5⟩ := hW.facts
        have HB9 := Lib.hid hB
        clear hB hW
        have hr2 : (wr.alloc (.cells #[.string name, .string kind, .string into, .string slot, .int .i64 made, .int .i64 since, .bool gone, .slice A2 props.length c2, .int .i64 kl, .int .i64 kh, .int .i64 cl, .int .i64 ch, .int .i64 dl, .int .i64 dh] 47)).rangeAt wr.heap.size 0 [.string name, .string kind, .string into, .string slot, .int .i64 made, .int .i64 since, .bool gone, .slice A2 props.length c2, .int .i64 kl, .int .i64 kh, .int .i64 cl, .int .i64 ch, .int .i64 dl, .int .i64 dh] := new_range wr _ _
        go_wp2_with (first | ((with_reducible show wpList _ _ _ (Oper.mk (some 14) _ _ _ _ _ :: _) _ _); refine wpList_load_mid rfl 47 _ rfl b (o + k * 14) rfl _ _ hrg' Tryz.underlying47 rfl rfl ?_) | ((with_reducible show wpList _ _ _ (Oper.mk (some 19) _ _ _ _ _ :: _) _ _); refine wpList_load_mid rfl 47 _ rfl wr.heap.size 0 rfl _ _ hr2 Tryz.underlying47 rfl rfl ?_) | ((with_reducible show wpList _ _ _ (Oper.mk none (Op.store 47 (Operand.tmp 4) _) _ _ _ _ :: _) _ _); refine wpList_store_mid rfl 47 _ _ rfl (w.heap.size + 1) 0 #[.string name, .string kind, .string into, .string slot, .int .i64 made, .int .i64 since, .bool gone, .slice A2 props.length c2, .int .i64 kl, .int .i64 kh, .int .i64 cl, .int .i64 ch, .int .i64 dl, .int .i64 dh] rfl rfl HT7.out sizePt (onePt ..) ?_; rw [hWe]))
        refine bodyPost_ret (v := .tuple #[.agg #[.string name, .string kind, .string into, .string slot, .int .i64 made, .int .i64 since, .bool gone, .slice A2 props.length c2, .int .i64 kl, .int .i64 kh, .int .i64 cl, .int .i64 ch, .int .i64 dl, .int .i64 dh], .bool true]) (by simp [results, Tryz.results16, go_sem, n4]) rfl ?_
        exact ⟨A2, c2, by rw [HE.out]; rfl, by rw [HE.out]; exact HSV.out, HB9.out⟩
    · obtain rfl : k = l.length := by omega
      have HE := Lib.hid (pfind_all HT.out)
      have HT7 := Lib.hid (thereH (n := 14) HP.out (by simp))
      obtain ⟨W, hWe, hW, hB⟩ := stored HP.out HB.out (by omega : w.heap.size ≤ w.heap.size + 1) #[.string ⟨#[]⟩, .string ⟨#[]⟩, .string ⟨#[]⟩, .string ⟨#[]⟩, .int .i64 0, .int .i64 0, .bool false, .slice none 0 0, .int .i64 0, .int .i64 0, .int .i64 0, .int .i64 0, .int .i64 0, .int .i64 0] rfl
      obtain ⟨n4, n5⟩ := hW.facts
      have HB9 := Lib.hid hB
      clear hB hW
      go_wp2_with ((with_reducible show wpList _ _ _ (Oper.mk none (Op.store 47 (Operand.tmp 4) _) _ _ _ _ :: _) _ _); refine wpList_store_mid rfl 47 _ _ rfl (w.heap.size + 1) 0 #[.string ⟨#[]⟩, .string ⟨#[]⟩, .string ⟨#[]⟩, .string ⟨#[]⟩, .int .i64 0, .int .i64 0, .bool false, .slice none 0 0, .int .i64 0, .int .i64 0, .int .i64 0, .int .i64 0, .int .i64 0, .int .i64 0] rfl rfl HT7.out sizePt (onePt ..) ?_; rw [hWe])
      refine bodyPost_ret (v := .tuple #[.agg #[.string ⟨#[]⟩, .string ⟨#[]⟩, .string ⟨#[]⟩, .string ⟨#[]⟩, .int .i64 0, .int .i64 0, .bool false, .slice none 0 0, .int .i64 0, .int .i64 0, .int .i64 0, .int .i64 0, .int .i64 0, .int .i64 0], .bool false]) (by simp [results, Tryz.results16, go_sem, n4]) rfl ?_
      exact ⟨none, 0, by rw [HE.out]; rfl, by rw [HE.out]; exact Rd.nil _ _, HB9.out⟩
end Go.Proofs.YtpikcofbhkbifaaGreat
namespace Go.Proofs.YtpikcofbhkbifaaGreat
open Go Go.RowKit
theorem seats_app (A B : List Pa) : seats (A ++ B) = seats A ++ seats B := by unfold seats; rw [List.filter_append, List.map_append]
theorem seats_cons (p : Pa) (B : List Pa) : seats (p :: B) = (if p.into = eS then [] else [seatOf p]) ++ seats B := by
  unfold seats
  rw [List.filter_cons]
  by_cases h : p.into = eS
  · simp [h]
  · simp [h]
theorem seats_not {l : List Pa} {into slot : ByteArray} (h : heldAt l into slot = false) : ¬ (into, slot) ∈ seats l := by
  intro hm
  unfold seats at hm
  obtain ⟨q, hq, he⟩ := List.mem_map.1 hm
  rw [List.mem_filter] at hq
  unfold heldAt at h
  rw [List.any_eq_false] at h
  refine h q hq.1 ?_
  unfold seatOf at he
  simp only [Prod.mk.injEq] at he
  simp [he.1, he.2]
theorem place_keep {c : List Kd} {l t : List Pa} {q : Pa} (h : placeOk c l q = true) (hh : ∀ a, pfind l q.into = some a → ∃ b, pfind t q.into = some b ∧ b.kind = a.kind ∧ b.gone = a.gone) : placeOk c t q = true := by
  rw [placeOk_eq] at h ⊢
  cases hf : pfind l q.into with
  | none => rw [hf] at h; cases h
  | some a =>
    obtain ⟨b, h1, h2, h3⟩ := hh a hf
    rw [hf, Option.getD_some, Option.isSome_some] at h
    rw [h1, Option.getD_some, Option.isSome_some, h2, h3]
    exact h
theorem part_iff {c : List Kd} {l : List Pa} {p : Pa} : partOk c l p = true ↔ rightB c p = true ∧ (p.into = eS ↔ p.slot = eS) ∧ (p.into = eS ∨ placeOk c l p = true) := by
  unfold partOk
  rw [Bool.and_eq_true, Bool.and_eq_true, Bool.or_eq_true, decide_eq_true_iff, beq_iff_eq, decide_eq_decide]
/-- A valid state with a part in place of the one with its name. -/
theorem vld_old {c : List Kd} {l : List Pa} (V : Vld c l) {p x : Pa} (hp : p ∈ l) (hn : x.name = p.name) (hk : x.kind = p.kind) (hr : rightB c x = true) (hs : x.into = eS ↔ x.slot = eS)
    (hpl : x.into = eS ∨ placeOk c (putP l x) x = true) (hg : x.gone = p.gone ∨ heldIn l p.name = false)
    (hse : (x.into = p.into ∧ x.slot = p.slot) ∨ x.into = eS ∨ heldAt l x.into x.slot = false) : Vld c (putP l x) := by
  obtain ⟨A, B, h1, h2⟩ := putG_old Pa.name V.ord hp hn.symm
  change putP l x = _ at h2
  refine ⟨V.cat, ?_, putP_ord V.ord x, fun q hq => ?_, ?_⟩
  · have := putG_len_old Pa.name V.ord hp hn.symm
    change (putP l x).length = _ at this
    rw [this]; exact V.len
  · rcases (putP_mem V.ord x q).1 hq with rfl | ⟨hq, hqn⟩
    · exact part_iff.2 ⟨hr, hs, hpl⟩
    · obtain ⟨r1, r2, r3⟩ := part_iff.1 (V.right q hq)
      refine part_iff.2 ⟨r1, r2, ?_⟩
      by_cases hi : q.into = eS
      · exact .inl hi
      · have r4 := r3.resolve_left hi
        refine .inr (place_keep r4 fun a ha => ?_)
        by_cases hx : q.into = x.name
        · have ea : a = p := by
            obtain ⟨a1, a2⟩ := pfind_mem ha
            exact ord_inj V.ord a1 hp (by rw [a2, hx, hn])
          subst ea
          refine ⟨x, by rw [hx]; exact pfind_put_same V.ord x, hk, ?_⟩
          rcases hg with hg | hg
          · exact hg
          · unfold heldIn at hg
            rw [List.any_eq_false] at hg
            exact absurd (by simp [hx, hn]) (hg q hq)
        · exact ⟨a, by rw [pfind_put_other V.ord hx]; exact ha, rfl, rfl⟩
  · have hN := V.seat
    rw [h1, seats_app, seats_cons] at hN
    rw [h2, seats_app, seats_cons]
    rcases hse with ⟨e1, e2⟩ | e | e
    · unfold seatOf at hN ⊢
      rw [e1, e2]; exact hN
    · rw [if_pos e, List.nil_append]
      exact hN.sublist (List.Sublist.append_left (List.sublist_append_right _ _) _)
    · have hno := seats_not e
      rw [h1, seats_app, seats_cons] at hno
      by_cases hi : x.into = eS
      · rw [if_pos hi, List.nil_append]
        exact hN.sublist (List.Sublist.append_left (List.sublist_append_right _ _) _)
      · rw [if_neg hi]
        show (seats A ++ (x.into, x.slot) :: seats B).Nodup
        rw [List.perm_middle.nodup_iff, List.nodup_cons]
        refine ⟨fun hm => hno ?_, hN.sublist (List.Sublist.append_left (List.sublist_append_right _ _) _)⟩
        rw [List.mem_append] at hm ⊢
        rcases hm with hm | hm
        · exact .inl hm
        · exact .inr (List.mem_append.2 (.inr hm))
theorem vld_new {c : List Kd} {l : List Pa} (V : Vld c l) {x : Pa} (hn : ∀ q ∈ l, q.name ≠ x.name) (hlen : l.length < 20000) (hr : rightB c x = true) (hi : x.into = eS) (hs : x.slot = eS) : Vld c (putP l x) := by
  obtain ⟨A, B, h1, h2⟩ := putG_new Pa.name V.ord hn
  change putP l x = _ at h2
  refine ⟨V.cat, ?_, putP_ord V.ord x, fun q hq => ?_, ?_⟩
  · have := putG_len_new Pa.name V.ord hn
    change (putP l x).length = _ at this
    omega
  · rcases (putP_mem V.ord x q).1 hq with rfl | ⟨hq, hqn⟩
    · exact part_iff.2 ⟨hr, by rw [hi, hs], .inl hi⟩
    · obtain ⟨r1, r2, r3⟩ := part_iff.1 (V.right q hq)
      refine part_iff.2 ⟨r1, r2, r3.imp id fun r4 => place_keep r4 fun a ha => ?_⟩
      obtain ⟨a1, a2⟩ := pfind_mem ha
      exact ⟨a, by rw [pfind_put_other V.ord (by rw [← a2]; exact hn a a1)]; exact ha, rfl, rfl⟩
  · have hN := V.seat
    rw [h1, seats_app] at hN
    rw [h2, seats_app, seats_cons, if_pos hi, List.nil_append]
    exact hN
/-- The part that an event makes of one that is there, where it is possible. -/
def TurnR (c : List Kd) (l : List Pa) (e : Ev) (p h r : Pa) : Prop :=
  (e.op = 2 ∧ ((kfind c p.kind).getD noKd).veh = false ∧ takesB c h.kind e.slot p.kind = true ∧ p.into = eS ∧ heldAt l e.into e.slot = false ∧ r = { p with into := e.into, slot := e.slot }) ∨
  (e.op = 3 ∧ p.into ≠ eS ∧ r = { p with into := eS, slot := eS }) ∨
  (e.op = 4 ∧ ((kfind c p.kind).getD noKd).veh = true ∧ r = p) ∨
  (e.op = 5 ∧ r = { p with since := max p.since e.day, kl := 0, kh := 0, cl := 0, ch := 0, dl := 0, dh := 0 }) ∨
  (e.op = 6 ∧ (putX p.props ⟨e.key, e.value⟩).length ≤ 60 ∧ r = { p with props := putX p.props ⟨e.key, e.value⟩ }) ∨
  (e.op = 7 ∧ p.into = eS ∧ heldIn l p.name = false ∧ r = { p with gone := true })
theorem turn_ok {c : List Kd} {l : List Pa} {e : Ev} {p h : Pa} (ho : 2 ≤ e.op ∧ e.op ≤ 7) : (turnL c l e p h).2 = 0 ↔ p.gone = false ∧ h.gone = false ∧ TurnR c l e p h (turnL c l e p h).1 := by
  have hc : e.op = 2 ∨ e.op = 3 ∨ e.op = 4 ∨ e.op = 5 ∨ e.op = 6 ∨ e.op = 7 := by omega
  unfold turnL TurnR
  cases p.gone <;> cases h.gone <;> simp only [Bool.or_false, Bool.or_true, Bool.false_eq_true, if_false, if_true, Bool.true_eq_false, false_and, and_false, true_and, iff_false]
  any_goals decide
  rcases hc with hc | hc | hc | hc | hc | hc
  · rw [hc]
    cases ((kfind c p.kind).getD noKd).veh <;> cases takesB c h.kind e.slot p.kind <;> cases heldAt l e.into e.slot <;> by_cases hi : p.into = eS <;> simp [hi]
  · rw [hc]
    by_cases hi : p.into = eS <;> simp [hi]
  · rw [hc]
    cases ((kfind c p.kind).getD noKd).veh <;> simp
  · rw [hc]; simp
  · rw [hc]
    by_cases hl : (putX p.props ⟨e.key, e.value⟩).length > 60
    · simp [hl]; intro; omega
    · simp [hl]; omega
  · rw [hc]
    cases heldIn l p.name <;> by_cases hi : p.into = eS <;> simp [hi]
theorem turn_eq {c : List Kd} {l : List Pa} {e : Ev} {p h r : Pa} (h1 : p.gone = false) (h2 : h.gone = false) (hr : TurnR c l e p h r) : turnL c l e p h = (r, 0) := by
  unfold turnL
  rw [h1, h2]
  rcases hr with ⟨ho, a1, a2, a3, a4, rfl⟩ | ⟨ho, a1, rfl⟩ | ⟨ho, a1, rfl⟩ | ⟨ho, rfl⟩ | ⟨ho, a1, rfl⟩ | ⟨ho, a1, a2, rfl⟩
  · simp [ho, a1, a2, a3, a4, h1]
  · simp [ho, a1, h1]
  · simp [ho, a1]
  · simp [ho, h1]
  · have hl : ¬ 60 < (putX p.props ⟨e.key, e.value⟩).length := by omega
    simp [ho, h1, hl]
  · simp [ho, a1, a2]
/-- When an event is possible, and what it then makes. -/
def StepR (c : List Kd) (l : List Pa) (e : Ev) (r : Pa) : Prop :=
  (e.op = 1 ∧ (∀ q ∈ l, q.name ≠ e.part) ∧ (kfind c e.kind).isSome = true ∧ l.length ≠ 20000 ∧ r = newPa e) ∨
  (2 ≤ e.op ∧ e.op ≤ 7 ∧ ∃ p h, p ∈ l ∧ p.name = e.part ∧ pfind l (if e.op = 2 then e.into else e.part) = some h ∧ p.gone = false ∧ h.gone = false ∧ TurnR c l e p h r)
theorem step_iff {c : List Kd} {l t : List Pa} {e : Ev} (O : Ord l) (ho : 1 ≤ e.op ∧ e.op ≤ 7) : stepL c l e = (t, 0) ↔ ∃ r, StepR c l e r ∧ t = putP l r := by
  unfold stepL StepR
  by_cases h1 : e.op = 1
  · rw [if_pos h1]
    cases hf : pfind l e.part with
    | some p =>
      obtain ⟨a1, a2⟩ := pfind_mem hf
      rw [if_pos (by simp)]
      constructor
      · intro h; simp at h
      · rintro ⟨r, h | h, _⟩
        · exact absurd a2 (h.2.1 p a1)
        · omega
    | none =>
      have hn := pfind_none.1 hf
      rw [if_neg (by simp)]
      cases hk : kfind c e.kind with
      | none =>
        rw [if_pos (by simp)]
        constructor
        · intro h; simp at h
        · rintro ⟨r, h | h, _⟩
          · exact absurd h.2.2.1 (by simp)
          · omega
      | some k =>
        rw [if_neg (by simp)]
        by_cases hl : l.length = 20000
        · rw [if_pos hl]
          constructor
          · intro h; simp at h
          · rintro ⟨r, h | h, _⟩
            · exact absurd hl h.2.2.2.1
            · omega
        · rw [if_neg hl]
          constructor
          · intro h
            simp only [Prod.mk.injEq, and_true] at h
            exact ⟨_, .inl ⟨h1, hn, rfl, hl, rfl⟩, h.symm⟩
          · rintro ⟨r, h | h, rfl⟩
            · rw [h.2.2.2.2]
            · omega
  · rw [if_neg h1]
    have hh : (if e.op = 2 then pfind l e.into else pfind l e.part) = pfind l (if e.op = 2 then e.into else e.part) := by split <;> rfl
    rw [hh]
    constructor
    · intro h
      cases hf : pfind l e.part with
      | none => rw [hf] at h; simp at h
      | some p =>
        cases hg : pfind l (if e.op = 2 then e.into else e.part) with
        | none => rw [hf, hg] at h; simp at h
        | some q =>
          rw [hf, hg] at h
          simp only at h
          by_cases ht : (turnL c l e p q).2 = 0
          · rw [if_pos ht] at h
            simp only [Prod.mk.injEq, and_true] at h
            obtain ⟨a1, a2⟩ := pfind_mem hf
            obtain ⟨b1, b2, b3⟩ := (turn_ok (by omega)).1 ht
            exact ⟨_, .inr ⟨by omega, by omega, p, q, a1, a2, rfl, b1, b2, b3⟩, h.symm⟩
          · rw [if_neg ht] at h
            simp only [Prod.mk.injEq] at h
            exact absurd h.2 ht
    · rintro ⟨r, h | ⟨_, _, p, q, a1, a2, hg, b1, b2, b3⟩, rfl⟩
      · exact absurd h.1 h1
      · have hf : pfind l e.part = some p := by rw [← a2]; exact pfind_self O a1
        rw [hf, hg]
        simp only [turn_eq b1 b2 b3]
        rfl
theorem apply_iff {c : List Kd} {l t : List Pa} {e : Ev} : applyL c l e = (t, 0) ↔ validB c l = true ∧ evOk e = true ∧ ∃ r, StepR c l e r ∧ t = putP l r := by
  unfold applyL
  by_cases h : (validB c l && evOk e) = true
  · rw [if_pos h]
    rw [Bool.and_eq_true] at h
    rw [step_iff (vld_iff.1 h.1).ord (evOk_iff.1 h.2).1]
    exact ⟨fun h2 => ⟨h.1, h.2, h2⟩, fun h2 => h2.2.2⟩
  · rw [if_neg h]
    constructor
    · intro h2; simp at h2
    · rintro ⟨h1, h2, _⟩
      exact absurd (by rw [h1, h2]; rfl) h
theorem apply_err {c : List Kd} {l : List Pa} {e : Ev} (h : (applyL c l e).2 ≠ 0) : (applyL c l e).1 = [] := by
  revert h
  unfold applyL stepL
  split
  · split
    · split
      · intro _; rfl
      · split
        · intro _; rfl
        · split
          · intro _; rfl
          · intro h; exact absurd rfl h
    · split
      · split
        · intro h; exact absurd rfl h
        · intro _; rfl
      · intro _; rfl
  · intro _; rfl
theorem step_name {c : List Kd} {l : List Pa} {e : Ev} {r : Pa} (h : StepR c l e r) : r.name = e.part := by
  rcases h with ⟨_, _, _, _, rfl⟩ | ⟨_, _, p, q, _, h2, _, _, _, h3⟩
  · rfl
  · rcases h3 with ⟨_, _, _, _, _, rfl⟩ | ⟨_, _, rfl⟩ | ⟨_, _, rfl⟩ | ⟨_, rfl⟩ | ⟨_, _, rfl⟩ | ⟨_, _, _, rfl⟩ <;> exact h2
/-- The words of rightB. -/
theorem right_iff {c : List Kd} {p : Pa} : rightB c p = true ↔ ((kfind c p.kind).isSome = true ∧ nameB p.name = true ∧ 0 ≤ p.made ∧ p.made ≤ p.since ∧ p.since ≤ 40000 ∧ p.props.length ≤ 60) ∧
    ((∀ x ∈ p.props, propOk x = true) ∧ OrdK Pr.key p.props ∧ amountB p.kl p.kh = true ∧ amountB p.cl p.ch = true ∧ amountB p.dl p.dh = true) := by
  unfold rightB
  simp only [Bool.and_eq_true, decide_eq_true_eq, List.all_eq_true, sorted_iff, List.pairwise_map]
  constructor
  · rintro ⟨⟨⟨⟨a1, a2⟩, a3, a4, a5⟩, a6⟩, b1, b2, b3, b4, b5⟩
    exact ⟨⟨a1, a2, a3, a4, a5, a6⟩, b1, b2, b3, b4, b5⟩
  · rintro ⟨⟨a1, a2, a3, a4, a5, a6⟩, b1, b2, b3, b4, b5⟩
    exact ⟨⟨⟨⟨a1, a2⟩, a3, a4, a5⟩, a6⟩, b1, b2, b3, b4, b5⟩
theorem ev_prop {e : Ev} (h : evOk e = true) (ho : e.op = 6) : propOk ⟨e.key, e.value⟩ = true := by
  have h2 := (evOk_iff.1 h).2.2.2
  unfold evRest at h2
  rw [if_neg (by omega), if_neg (by omega), if_pos ho] at h2
  simp only [Bool.and_eq_true, List.all_cons, List.all_nil, Bool.and_true] at h2
  unfold propOk
  rw [Bool.and_eq_true, Bool.and_eq_true]
  exact ⟨h2.2.2, h2.1⟩
theorem eS_not_name : nameB eS = false := by decide +kernel
theorem name_ne {x : ByteArray} (h : nameB x = true) : x ≠ eS := by
  rintro rfl; rw [eS_not_name] at h; cases h
theorem ev_fit {e : Ev} (h : evOk e = true) (ho : e.op = 2) : e.into ≠ e.part ∧ nameB e.into = true ∧ nameB e.slot = true := by
  have h2 := (evOk_iff.1 h).2.2.2
  unfold evRest at h2
  rw [if_neg (by omega), if_pos ho] at h2
  simp only [Bool.and_eq_true, List.all_cons, List.all_nil, Bool.and_true] at h2
  refine ⟨fun e1 => ?_, h2.2.2.1, h2.2.2.2⟩
  rw [e1] at h2
  simp at h2
theorem step_valid {c : List Kd} {l : List Pa} {e : Ev} {r : Pa} (V : Vld c l) (he : evOk e = true) (h : StepR c l e r) : Vld c (putP l r) := by
  have hE := evOk_iff.1 he
  rcases h with ⟨ho, hn, hk, hlen, rfl⟩ | ⟨ho1, ho2, p, q, hp, hpn, hq, g1, g2, hr⟩
  · refine vld_new V hn (by have := V.len; omega) ?_ rfl rfl
    refine right_iff.2 ⟨⟨hk, hE.2.2.1, hE.2.1.1, Int.le_refl _, hE.2.1.2, by simp [newPa]⟩, by simp [newPa], by simp [newPa, OrdK], by simp [newPa, amountB], by simp [newPa, amountB], by simp [newPa, amountB]⟩
  · obtain ⟨r1, r2, r3⟩ := part_iff.1 (V.right p hp)
    have R := right_iff.1 r1
    have keep : ∀ x : Pa, x.name = p.name → x.into = p.into → x.slot = p.slot → x.gone = false → x.kind = p.kind → p.into = eS ∨ placeOk c (putP l x) x = true := by
      intro x e1 e2 e3 e4 e5
      by_cases hi : p.into = eS
      · exact .inl hi
      · refine .inr ?_
        have r4 := r3.resolve_left hi
        have r5 : placeOk c l x = true := by
          rw [placeOk_eq] at r4 ⊢
          rw [e2, e3, e4, e5, ← g1]; exact r4
        refine place_keep r5 fun a ha => ?_
        by_cases hx : x.into = x.name
        · refine ⟨x, by rw [hx]; exact pfind_put_same V.ord x, ?_⟩
          rw [hx, e1, pfind_self V.ord hp] at ha
          cases ha
          exact ⟨e5, by rw [e4, g1]⟩
        · exact ⟨a, by rw [pfind_put_other V.ord hx]; exact ha, rfl, rfl⟩
    rcases hr with ⟨ho, a1, a2, a3, a4, rfl⟩ | ⟨ho, a1, rfl⟩ | ⟨ho, a1, rfl⟩ | ⟨ho, rfl⟩ | ⟨ho, a1, rfl⟩ | ⟨ho, a1, a2, rfl⟩
    · obtain ⟨f1, f2, f3⟩ := ev_fit he ho
      rw [if_pos ho] at hq
      refine vld_old V hp rfl rfl r1 (by constructor <;> intro h; exact absurd h (name_ne f2); exact absurd h (name_ne f3)) (.inr ?_) (.inl rfl) (.inr (.inr a4))
      rw [placeOk_eq]
      show ((pfind _ e.into).isSome && (!p.gone && (!((pfind _ e.into).getD noPa).gone && takesB c ((pfind _ e.into).getD noPa).kind e.slot p.kind))) = true
      rw [pfind_put_other V.ord (by show e.into ≠ p.name; rw [hpn]; exact f1), hq, g1]
      simp [g2, a2]
    · exact vld_old V hp rfl rfl r1 (by simp) (.inl rfl) (.inl rfl) (.inr (.inl rfl))
    · exact vld_old V hp rfl rfl r1 r2 (keep r rfl rfl rfl g1 rfl) (.inl rfl) (.inl ⟨rfl, rfl⟩)
    · refine vld_old V hp rfl rfl ?_ r2 (keep _ rfl rfl rfl g1 rfl) (.inl rfl) (.inl ⟨rfl, rfl⟩)
      refine right_iff.2 ⟨⟨R.1.1, R.1.2.1, R.1.2.2.1, ?_, ?_, R.1.2.2.2.2.2⟩, R.2.1, R.2.2.1, by simp [amountB], by simp [amountB], by simp [amountB]⟩
      · have := R.1.2.2.2.1; show p.made ≤ max p.since e.day; omega
      · have := R.1.2.2.2.2.1; have := hE.2.1.2; show max p.since e.day ≤ 40000; omega
    · refine vld_old V hp rfl rfl ?_ r2 (keep _ rfl rfl rfl g1 rfl) (.inl rfl) (.inl ⟨rfl, rfl⟩)
      refine right_iff.2 ⟨⟨R.1.1, R.1.2.1, R.1.2.2.1, R.1.2.2.2.1, R.1.2.2.2.2.1, a1⟩, fun x hx => ?_, putG_ord Pr.key R.2.2.1 _, R.2.2.2⟩
      rcases (putG_mem Pr.key R.2.2.1 _ x).1 hx with rfl | ⟨h1, _⟩
      · exact ev_prop he ho
      · exact R.2.1 x h1
    · exact vld_old V hp rfl rfl r1 r2 (.inl a1) (.inr a2) (.inl ⟨rfl, rfl⟩)
theorem apply_valid {c : List Kd} {l t : List Pa} {e : Ev} (h : applyL c l e = (t, 0)) : validB c t = true := by
  obtain ⟨h1, h2, r, h3, rfl⟩ := apply_iff.1 h
  exact vld_iff.2 (step_valid (vld_iff.1 h1) h2 h3)
theorem valid_nil {c : List Kd} (h : catB c = true) : validB c [] = true :=
  vld_iff.2 ⟨h, by simp, List.Pairwise.nil, by simp, by simp [seats]⟩
end Go.Proofs.YtpikcofbhkbifaaGreat
namespace Go.Proofs.YtpikcofbhkbifaaGreat
open Go Go.RowKit
theorem changes_parts {c : List Kd} {l t : List Pa} {e : Ev} (h : applyL c l e = (t, 0)) {p : Pa} (hp : p ∈ l) : ∃ q, pfind t p.name = some q ∧ (p.name ≠ e.part → q = p) := by
  obtain ⟨h1, h2, r, h3, rfl⟩ := apply_iff.1 h
  have V := vld_iff.1 h1
  have hn := step_name h3
  by_cases hx : p.name = r.name
  · exact ⟨r, by rw [hx]; exact pfind_put_same V.ord r, fun h => absurd (hx.trans hn) h⟩
  · exact ⟨p, by rw [pfind_put_other V.ord hx]; exact pfind_self V.ord hp, fun _ => rfl⟩
theorem changes_make {c : List Kd} {l t : List Pa} {e : Ev} (h : applyL c l e = (t, 0)) (ho : e.op = 1) : t.length = l.length + 1 ∧ pfind t e.part = some (newPa e) := by
  obtain ⟨h1, h2, r, h3, rfl⟩ := apply_iff.1 h
  have V := vld_iff.1 h1
  rcases h3 with ⟨_, hn, _, _, rfl⟩ | ⟨_, _, h3⟩
  · exact ⟨putG_len_new Pa.name V.ord hn, pfind_put_same V.ord (newPa e)⟩
  · omega
/-- The part as it was, and what it has become. -/
theorem turn_parts {c : List Kd} {l t : List Pa} {e : Ev} (h : applyL c l e = (t, 0)) (ho : e.op ≠ 1) : ∃ p q r, p ∈ l ∧ pfind l e.part = some p ∧ pfind t e.part = some r ∧ TurnR c l e p q r ∧ t = putP l r ∧ t.length = l.length ∧ r.name = p.name := by
  obtain ⟨h1, h2, r, h3, rfl⟩ := apply_iff.1 h
  have V := vld_iff.1 h1
  have hn := step_name h3
  rcases h3 with ⟨h4, _⟩ | ⟨_, _, p, q, hp, hpn, hq, g1, g2, h3⟩
  · omega
  · exact ⟨p, q, r, hp, by rw [← hpn]; exact pfind_self V.ord hp, by rw [← hn]; exact pfind_put_same V.ord r, h3, rfl, putG_len_old Pa.name V.ord hp (hpn.trans hn.symm), hn.trans hpn.symm⟩
theorem changes_old {c : List Kd} {l t : List Pa} {e : Ev} (h : applyL c l e = (t, 0)) (ho : e.op ≠ 1) : t.length = l.length ∧ (e.op = 4 → t = l) := by
  obtain ⟨p, q, r, hp, _, _, h3, h4, h5, _⟩ := turn_parts h ho
  refine ⟨h5, fun h6 => ?_⟩
  have V := vld_iff.1 (apply_iff.1 h).1
  rcases h3 with ⟨a, _⟩ | ⟨a, _⟩ | ⟨_, _, rfl⟩ | ⟨a, _⟩ | ⟨a, _⟩ | ⟨a, _⟩
  any_goals omega
  rw [h4]
  exact putG_self Pa.name V.ord hp
/-- The value that the last property with a key has. -/
def lastV (ps : List Pr) (k : ByteArray) : ByteArray := ps.foldl (fun a x => if x.key = k then x.val else a) eS
theorem last_none (k : ByteArray) : ∀ (ps : List Pr) (a : ByteArray), (∀ x ∈ ps, x.key ≠ k) → ps.foldl (fun a x => if x.key = k then x.val else a) a = a
  | [], _, _ => rfl
  | y :: ps, a, h => by
    rw [List.foldl_cons, if_neg (h y (List.mem_cons_self ..))]
    exact last_none k ps a fun x hx => h x (List.mem_cons_of_mem _ hx)
theorem last_val : ∀ (ps : List Pr) (a : ByteArray) (x : Pr), OrdK Pr.key ps → x ∈ ps → ps.foldl (fun a y => if y.key = x.key then y.val else a) a = x.val
  | y :: ps, a, x, h, hx => by
    unfold OrdK at h
    rw [List.pairwise_cons] at h
    rw [List.foldl_cons]
    rcases List.mem_cons.1 hx with rfl | hx
    · rw [if_pos rfl]
      exact last_none _ ps _ fun z hz => (lt_ne (h.1 z hz)).symm
    · exact last_val ps _ x h.2 hx
theorem note_vals {ps : List Pr} {k v : ByteArray} (h : OrdK Pr.key ps) : (∀ x ∈ putX ps ⟨k, v⟩, (if x.key = k then v else lastV ps x.key) = x.val) ∧ ((putX ps ⟨k, v⟩).filter fun x => decide (x.key = k)).length = 1 ∧
    ps.length ≤ (putX ps ⟨k, v⟩).length ∧ (putX ps ⟨k, v⟩).length ≤ ps.length + 1 := by
  refine ⟨fun x hx => ?_, ?_, putG_len Pr.key h _⟩
  · rcases (putG_mem Pr.key h _ x).1 hx with rfl | ⟨h1, h2⟩
    · exact if_pos rfl
    · rw [if_neg h2]
      exact last_val ps _ x h h1
  · obtain ⟨A, B, h1, _, h2, h3, _⟩ := putG_forms Pr.key h (⟨k, v⟩ : Pr)
    change putX ps _ = _ at h1
    rw [h1, List.filter_append, List.filter_cons]
    rw [List.filter_eq_nil_iff.2 fun a ha => by simpa using lt_ne (h2 a ha), List.filter_eq_nil_iff.2 fun b hb => by simpa using (lt_ne (h3 b hb)).symm]
    simp
def removeE (day : Int) (part : ByteArray) : Ev := ⟨3, day, part, eS, eS, eS, eS, eS, 0, 0, 0, 0, 0, 0⟩
def fitD (day : Int) (part into slot : ByteArray) : Ev := ⟨2, day, part, eS, into, slot, eS, eS, 0, 0, 0, 0, 0, 0⟩
theorem removeE_ok {day : Int} {part : ByteArray} (h : nameB part = true) (h0 : 0 ≤ day) (h1 : day ≤ 40000) : evOk (removeE day part) = true :=
  evOk_iff.2 ⟨by simp [removeE], ⟨h0, h1⟩, h, by
    show rest0 (removeE day part) = true
    have hr : rest0 (removeE day part) = rest0 zeroEv := rfl
    rw [hr]; decide +kernel⟩
theorem bytes_ne {a b : ByteArray} (h : a ≠ b) : (a.toList == b.toList) = false := by
  rw [beq_eq_false_iff_ne]
  intro e
  apply h
  have h2 : a.data.toList = b.data.toList := by rwa [ByteArray.toList_eq, ByteArray.toList_eq] at e
  cases a; cases b
  simpa using h2
theorem fitD_ok {day : Int} {part into slot : ByteArray} (h : nameB part = true) (h0 : 0 ≤ day) (h1 : day ≤ 40000) (h2 : into ≠ part) (h3 : nameB into = true) (h4 : nameB slot = true) : evOk (fitD day part into slot) = true := by
  refine evOk_iff.2 ⟨by simp [fitD], ⟨h0, h1⟩, h, ?_⟩
  show (!(into.toList == part.toList) && (rest2 (fitD day part into slot) && [into, slot].all nameB)) = true
  have hr : rest2 (fitD day part into slot) = true := by
    have hr : rest2 (fitD day part into slot) = rest2 zeroEv := rfl
    rw [hr]; decide +kernel
  rw [bytes_ne h2, hr]
  simp [h3, h4]
theorem apply_turn {c : List Kd} {l : List Pa} {e : Ev} {p h r : Pa} (hv : validB c l = true) (he : evOk e = true) (ho : 2 ≤ e.op) (hp : p ∈ l) (hn : p.name = e.part) (hh : pfind l (if e.op = 2 then e.into else e.part) = some h) (h1 : p.gone = false) (h2 : h.gone = false) (hr : TurnR c l e p h r) : applyL c l e = (putP l r, 0) :=
  apply_iff.2 ⟨hv, he, r, .inr ⟨ho, (evOk_iff.1 he).1.2, p, h, hp, hn, hh, h1, h2, hr⟩, rfl⟩
theorem back_remove {c : List Kd} {l t : List Pa} {e : Ev} (h : applyL c l e = (t, 0)) (ho : e.op = 2) {day : Int} (h0 : 0 ≤ day) (h1 : day ≤ 40000) : applyL c t (removeE day e.part) = (l, 0) := by
  have hv := apply_valid h
  obtain ⟨g1, g2, r, g3, rfl⟩ := apply_iff.1 h
  have V := vld_iff.1 g1
  have hE := evOk_iff.1 g2
  rcases g3 with ⟨a, _⟩ | ⟨_, _, p, q, hp, hpn, hq, k1, k2, h3⟩
  · omega
  rcases h3 with ⟨_, a1, a2, a3, a4, rfl⟩ | ⟨a, _⟩ | ⟨a, _⟩ | ⟨a, _⟩ | ⟨a, _⟩ | ⟨a, _⟩
  any_goals omega
  have hs : p.slot = eS := ((part_iff.1 (V.right p hp)).2.1).1 a3
  have hmem : { p with into := e.into, slot := e.slot } ∈ putP l { p with into := e.into, slot := e.slot } := (putP_mem V.ord _ _).2 (.inl rfl)
  have hb : applyL c (putP l { p with into := e.into, slot := e.slot }) (removeE day e.part) = (putP (putP l { p with into := e.into, slot := e.slot }) p, 0) := by
    refine apply_turn (h := { p with into := e.into, slot := e.slot }) hv (removeE_ok hE.2.2.1 h0 h1) (by simp [removeE]) hmem hpn ?_ k1 k1 (.inr (.inl ⟨rfl, name_ne (ev_fit g2 ho).2.1, ?_⟩))
    · show pfind _ e.part = _
      rw [← hpn]
      exact pfind_put_same V.ord { p with into := e.into, slot := e.slot }
    · obtain ⟨x1, x2, x3, x4, x5, x6, x7, x8, x9, x10, x11, x12, x13, x14⟩ := p
      change x3 = eS at a3
      change x4 = eS at hs
      subst a3; subst hs; rfl
  rw [hb]
  congr 1
  exact putG_back Pa.name V.ord _ hp rfl
/-- What a slot takes is no vehicle; its name is a name. -/
theorem takes_more {c : List Kd} {hk slot pk : ByteArray} (hc : catB c = true) (h : takesB c hk slot pk = true) : ((kfind c pk).getD noKd).veh = false ∧ nameB slot = true := by
  unfold takesB at h
  cases hf : kfind c hk with
  | none => rw [hf] at h; simp [sfind, noKd] at h
  | some k =>
    rw [hf, Option.getD_some] at h
    unfold kfind at hf
    obtain ⟨hk1, i, hi, hik, hlt⟩ := List.find?_eq_some_iff_getElem.1 hf
    unfold catB catTo at hc
    rw [Bool.and_eq_true, List.all_eq_true] at hc
    have h1 := hc.1 i (by rw [List.mem_range]; exact hi)
    rw [getD_get _ _ _ hi, hik] at h1
    unfold kindOk at h1
    simp only [Bool.and_eq_true, List.all_eq_true] at h1
    cases hs : sfind k.slots slot with
    | none => rw [hs] at h; cases h
    | some s =>
      rw [hs] at h
      have h2 := h1.2.1 s (List.mem_of_find?_eq_some hs)
      have hsn : s.name = slot := by simpa using List.find?_some hs
      unfold slotOk at h2
      simp only [Bool.and_eq_true, List.all_eq_true] at h2
      obtain ⟨x, hx, hxe⟩ := List.any_eq_true.1 h
      have h3 := h2.2.2 x hx
      obtain rfl : x = pk := by simpa using hxe
      obtain ⟨q, hq, hqe⟩ := List.any_eq_true.1 h3
      simp only [Bool.and_eq_true, decide_eq_true_eq, Bool.not_eq_true'] at hqe
      obtain ⟨j, hj, hjq⟩ := List.mem_take_iff_getElem.1 hq
      refine ⟨?_, by rw [← hsn]; exact h2.1.1⟩
      have hkf : kfind c x = some q := by
        unfold kfind
        rw [List.find?_eq_some_iff_getElem]
        refine ⟨by simpa using hqe.1, j, by omega, hjq, fun m hm => ?_⟩
        have h4 := hc.1 j (by rw [List.mem_range]; omega)
        rw [getD_get _ _ _ (by omega), hjq] at h4
        unfold kindOk at h4
        simp only [Bool.and_eq_true, Bool.not_eq_true', List.any_eq_false] at h4
        have h5 := h4.1.1.1 c[m] (List.mem_take_iff_getElem.2 ⟨m, by omega, rfl⟩)
        rw [hqe.1] at h5
        simpa using h5
      rw [hkf]; exact hqe.2
theorem held_once {c : List Kd} {l : List Pa} (V : Vld c l) {p : Pa} (hp : p ∈ l) (hi : p.into ≠ eS) : heldAt (putP l { p with into := eS, slot := eS }) p.into p.slot = false := by
  unfold heldAt
  rw [List.any_eq_false]
  intro q hq he
  simp only [Bool.and_eq_true, decide_eq_true_eq] at he
  rcases (putP_mem V.ord _ q).1 hq with rfl | ⟨h1, h2⟩
  · exact hi he.1.symm
  · change q.name ≠ p.name at h2
    obtain ⟨A, B, rfl⟩ := List.append_of_mem hp
    have hN := V.seat
    rw [seats_app, seats_cons, if_neg hi] at hN
    change (seats A ++ seatOf p :: seats B).Nodup at hN
    rw [List.perm_middle.nodup_iff, List.nodup_cons] at hN
    apply hN.1
    rw [List.mem_append]
    have hsq : seatOf q = seatOf p := by unfold seatOf; rw [he.1, he.2]
    have hqi : q.into ≠ eS := by rw [he.1]; exact hi
    rcases List.mem_append.1 h1 with h3 | h3
    · exact .inl (by rw [← hsq]; exact List.mem_map.2 ⟨q, List.mem_filter.2 ⟨h3, by simpa using hqi⟩, rfl⟩)
    · rcases List.mem_cons.1 h3 with rfl | h3
      · exact absurd rfl h2
      · exact .inr (by rw [← hsq]; exact List.mem_map.2 ⟨q, List.mem_filter.2 ⟨h3, by simpa using hqi⟩, rfl⟩)
theorem back_fit {c : List Kd} {l : List Pa} {p : Pa} (hv : validB c l = true) (hp : p ∈ l) (hi : p.into ≠ eS) {day : Int} (h0 : 0 ≤ day) (h1 : day ≤ 40000) :
    applyL c l (removeE day p.name) = (putP l { p with into := eS, slot := eS }, 0) ∧ applyL c (putP l { p with into := eS, slot := eS }) (fitD day p.name p.into p.slot) = (l, 0) := by
  have V := vld_iff.1 hv
  obtain ⟨h, hh, g1, g2, g3⟩ := fit_host (V.right p hp) hi
  obtain ⟨hm, hn⟩ := pfind_mem hh
  obtain ⟨v1, v2⟩ := takes_more V.cat g3
  have hr := takes_rank V.cat g3
  have hne : h.name ≠ p.name := fun e => by
    have := ord_inj V.ord hm hp e
    rw [this] at hr; omega
  have e1 : applyL c l (removeE day p.name) = (putP l { p with into := eS, slot := eS }, 0) :=
    apply_turn (h := p) hv (removeE_ok (part_name (V.right p hp)) h0 h1) (by simp [removeE]) hp rfl (pfind_self V.ord hp) g1 g1 (.inr (.inl ⟨rfl, hi, rfl⟩))
  refine ⟨e1, ?_⟩
  have e2 : applyL c (putP l { p with into := eS, slot := eS }) (fitD day p.name p.into p.slot) = (putP (putP l { p with into := eS, slot := eS }) p, 0) := by
    refine apply_turn (h := h) (p := { p with into := eS, slot := eS }) (apply_valid e1) (fitD_ok (part_name (V.right p hp)) h0 h1 (by rw [← hn]; exact hne) (by rw [← hn]; exact part_name (V.right h hm)) v2) (by simp [fitD]) ((putP_mem V.ord _ _).2 (.inl rfl)) rfl ?_ g1 g2
      (.inl ⟨rfl, v1, g3, rfl, held_once V hp hi, rfl⟩)
    show pfind _ p.into = _
    rw [pfind_put_other V.ord (by show p.into ≠ p.name; rw [← hn]; exact hne)]
    exact hh
  rw [e2]
  congr 1
  exact putG_back Pa.name V.ord _ hp rfl
end Go.Proofs.YtpikcofbhkbifaaGreat
namespace Go.Proofs.YtpikcofbhkbifaaGreat
open Go Go.RowKit
def evNames (e : Ev) : List ByteArray := if evOk e then (if e.op = 2 then [Lib.minS e.part e.into, Lib.maxS e.part e.into] else [e.part]) else []
theorem own_lit {w : World} {g t : Nat} {cs : Array Value} {base n sz : Nat} (h : Has w g t cs) (hb : base ≤ g) (hs : cs.size = n * sz) (hn : n ≤ maxLen) :
    w.ownsRow base t sz (.slice (some ⟨g, 0, none⟩) n n) n cs.toList :=
  ⟨by simpa using hs, .inr ⟨g, n, cs, rfl, hb, h, Nat.le_refl _, hn, hs, by rw [List.take_of_length_le (by simp [hs])]⟩⟩
set_option maxRecDepth 100000 in
set_option maxHeartbeats 2000000 in
theorem names_any (e : Ev) (w : World) (hs : e.short) :
    Calls Tryz.prog 19 #[.agg e.cells] w fun r w' => ∃ v', r = .returned v' ∧ w'.ownsRow w.heap.size 9 1 v' (evNames e).length ((evNames e).map .string) ∧ Below w.heap.size w w' := by
  have hv := Lib.hid (fun W => valid_any e W hs)
  clear hs
  cases hok : evOk e
  · have hr := Lib.hid (show evNames e = [] by simp [evNames, hok])
    have HOK := Lib.hid hok
    clear hok
    obtain ⟨op, day, part, kind, into, slot, key, value, kl, kh, cl, ch, ll, lh⟩ := e
    show Calls Tryz.prog 19 #[.agg #[.int .i64 op, .int .i64 day, .string part, .string kind, .string into, .string slot, .string key, .string value, .int .i64 kl, .int .i64 kh, .int .i64 cl, .int .i64 ch, .int .i64 ll, .int .i64 lh]] w _
    go_enter Tryz.func19, Tryz.ntmps19
    go_wp2_with (go_at_call 15; refine (hv.out _).mono ?_; rintro r w2 ⟨rfl, hb2⟩; rw [HOK.out]; obtain ⟨hE2, hB2, hz2⟩ := boxed hb2; obtain ⟨hc2, hf2⟩ := hE2.facts; have HB2 := Lib.hid hB2; clear hb2 hE2 hB2)
    go_ret
    exact ⟨_, rfl, by rw [hr.out]; exact World.ownsRow_nil _ _ _ _, HB2.out⟩
  · by_cases h2 : e.op = 2
    · have hr := Lib.hid (show evNames e = [Lib.minS e.part e.into, Lib.maxS e.part e.into] by simp [evNames, hok, h2])
      have HOK := Lib.hid hok
      clear hok
      obtain ⟨op, day, part, kind, into, slot, key, value, kl, kh, cl, ch, ll, lh⟩ := e
      dsimp only at h2 hr
      subst h2
      have hmn := fun w => Lib.run_min_strs (P := Tryz.prog) w #[9, 9] 9 part into
      have hmx := fun w => Lib.run_max_strs (P := Tryz.prog) w #[9, 9] 9 part into
      show Calls Tryz.prog 19 #[.agg #[.int .i64 2, .int .i64 day, .string part, .string kind, .string into, .string slot, .string key, .string value, .int .i64 kl, .int .i64 kh, .int .i64 cl, .int .i64 ch, .int .i64 ll, .int .i64 lh]] w _
      go_enter Tryz.func19, Tryz.ntmps19
      go_wp2_with (go_at_call 15; refine (hv.out _).mono ?_; rintro r w2 ⟨rfl, hb2⟩; rw [HOK.out]; obtain ⟨hE2, hB2, hz2⟩ := boxed hb2; obtain ⟨hc2, hf2⟩ := hE2.facts; have HB2 := Lib.hid hB2; clear hb2 hE2 hB2)
      go_ret
      refine ⟨_, rfl, ?_, HB2.out.alloc HB2.out.size _⟩
      rw [hr.out]
      exact own_lit (n := 2) (Has.new w2 _ #[.string (Lib.minS part into), .string (Lib.maxS part into)]) HB2.out.size rfl (by simp [maxLen])
    · have hr := Lib.hid (show evNames e = [e.part] by simp [evNames, hok, h2])
      have HOK := Lib.hid hok
      clear hok
      obtain ⟨op, day, part, kind, into, slot, key, value, kl, kh, cl, ch, ll, lh⟩ := e
      dsimp only at h2 hr
      have hb2' : (op == 2) = false := by simpa using h2
      clear h2
      show Calls Tryz.prog 19 #[.agg #[.int .i64 op, .int .i64 day, .string part, .string kind, .string into, .string slot, .string key, .string value, .int .i64 kl, .int .i64 kh, .int .i64 cl, .int .i64 ch, .int .i64 ll, .int .i64 lh]] w _
      go_enter Tryz.func19, Tryz.ntmps19
      go_wp2_with (go_at_call 15; refine (hv.out _).mono ?_; rintro r w2 ⟨rfl, hb2⟩; rw [HOK.out]; obtain ⟨hE2, hB2, hz2⟩ := boxed hb2; obtain ⟨hc2, hf2⟩ := hE2.facts; have HB2 := Lib.hid hB2; clear hb2 hE2 hB2)
      go_ret
      refine ⟨_, rfl, ?_, HB2.out.alloc HB2.out.size _⟩
      rw [hr.out]
      exact own_lit (n := 1) (Has.new w2 _ #[.string part]) HB2.out.size rfl (by simp [maxLen])
end Go.Proofs.YtpikcofbhkbifaaGreat
namespace Go.Proofs.YtpikcofbhkbifaaGreat
open Go Go.RowKit
theorem names_part {e : Ev} (h : evOk e = true) : e.part ∈ evNames e := by
  unfold evNames
  rw [if_pos h]
  split
  · by_cases h2 : e.part.data.toList < e.into.data.toList
    · have h3 : Lib.minS e.part e.into = e.part := by unfold Lib.minS; rw [if_pos (.inl h2)]
      rw [h3]; simp
    · have h3 : Lib.maxS e.part e.into = e.part := by unfold Lib.maxS; rw [if_neg h2]
      rw [h3]; simp
  · simp
theorem names_into {e : Ev} (h : evOk e = true) (ho : e.op = 2) : e.into ∈ evNames e := by
  unfold evNames
  rw [if_pos h, if_pos ho]
  by_cases h2 : e.part.data.toList < e.into.data.toList
  · have h3 : Lib.maxS e.part e.into = e.into := by unfold Lib.maxS; rw [if_pos h2]
    rw [h3]; simp
  · by_cases h4 : e.part.data.toList = e.into.data.toList
    · have h3 : Lib.minS e.part e.into = e.part := by unfold Lib.minS; rw [if_pos (.inr h4)]
      rw [h3, data_inj h4]; simp
    · have h3 : Lib.minS e.part e.into = e.into := by unfold Lib.minS; rw [if_neg (by rintro (h5 | h5); exact h2 h5; exact h4 h5)]
      rw [h3]; simp
/-- An event that does not mention a part fits nothing into it. -/
theorem step_held {c : List Kd} {l : List Pa} {e : Ev} {r : Pa} (V : Vld c l) (he : evOk e = true) (h : StepR c l e r) {x : ByteArray} (hx : x ≠ eS) (hn : ¬ x ∈ evNames e) :
    (∀ s, heldAt l x s = false → heldAt (putP l r) x s = false) ∧ (heldIn l x = false → heldIn (putP l r) x = false) := by
  have main : r.into ≠ x ∨ ∃ p ∈ l, r.into = p.into ∧ r.slot = p.slot := by
    rcases h with ⟨_, _, _, _, rfl⟩ | ⟨_, _, p, q, hp, hpn, _, _, _, h3⟩
    · exact .inl hx.symm
    · rcases h3 with ⟨ho, _, _, _, _, rfl⟩ | ⟨_, _, rfl⟩ | ⟨_, _, rfl⟩ | ⟨_, rfl⟩ | ⟨_, _, rfl⟩ | ⟨_, _, _, rfl⟩
      · exact .inl fun e1 => hn (by rw [← e1]; exact names_into he ho)
      · exact .inl hx.symm
      · exact .inr ⟨_, hp, rfl, rfl⟩
      · exact .inr ⟨_, hp, rfl, rfl⟩
      · exact .inr ⟨_, hp, rfl, rfl⟩
      · exact .inr ⟨_, hp, rfl, rfl⟩
  constructor
  · intro s hs
    unfold heldAt at hs ⊢
    rw [List.any_eq_false] at hs ⊢
    intro q hq hb
    simp only [Bool.and_eq_true, decide_eq_true_eq] at hb
    rcases (putP_mem V.ord r q).1 hq with rfl | ⟨h1, _⟩
    · rcases main with m | ⟨p, hp, m1, m2⟩
      · exact m hb.1
      · exact hs p hp (by simp [← m1, ← m2, hb.1, hb.2])
    · exact hs q h1 (by simp [hb.1, hb.2])
  · intro hs
    unfold heldIn at hs ⊢
    rw [List.any_eq_false] at hs ⊢
    intro q hq hb
    simp only [decide_eq_true_eq] at hb
    rcases (putP_mem V.ord r q).1 hq with rfl | ⟨h1, _⟩
    · rcases main with m | ⟨p, hp, m1, _⟩
      · exact m hb
      · exact hs p hp (by simp [← m1, hb])
    · exact hs q h1 (by simp [hb])
theorem step_other {c : List Kd} {l : List Pa} {e f : Ev} {r s : Pa} (V : Vld c l) (hl : l.length ≤ 20) (he : evOk e = true) (hf : evOk f = true) (h : StepR c l e r) (hs : StepR c l f s) (hn : ∀ x ∈ evNames f, ¬ x ∈ evNames e) : StepR c (putP l r) f s := by
  have hrn := step_name h
  have hne : f.part ≠ r.name := fun e1 => hn _ (names_part hf) (by rw [e1, hrn]; exact names_part he)
  rcases hs with ⟨ho, a1, a2, a3, rfl⟩ | ⟨o1, o2, p, q, hp, hpn, hq, k1, k2, h3⟩
  · refine .inl ⟨ho, fun q hq => ?_, a2, ?_, rfl⟩
    · rcases (putP_mem V.ord r q).1 hq with rfl | ⟨h1, _⟩
      · exact hne.symm
      · exact a1 q h1
    · have := (putG_len Pa.name V.ord r).2
      change (putP l r).length ≤ _ at this
      omega
  · refine .inr ⟨o1, o2, p, q, (putP_mem V.ord r p).2 (.inr ⟨hp, by rw [hpn]; exact hne⟩), hpn, ?_, k1, k2, ?_⟩
    · rw [pfind_put_other V.ord]
      · exact hq
      · split
        · rename_i ho
          exact fun e1 => hn _ (names_into hf ho) (by rw [e1, hrn]; exact names_part he)
        · exact hne
    · rcases h3 with ⟨ho, b1, b2, b3, b4, rfl⟩ | h3 | h3 | h3 | h3 | ⟨ho, b1, b2, rfl⟩
      · exact .inl ⟨ho, b1, b2, b3, (step_held V he h (name_ne (ev_fit hf ho).2.1) (hn _ (names_into hf ho))).1 _ b4, rfl⟩
      · exact .inr (.inl h3)
      · exact .inr (.inr (.inl h3))
      · exact .inr (.inr (.inr (.inl h3)))
      · exact .inr (.inr (.inr (.inr (.inl h3))))
      · refine .inr (.inr (.inr (.inr (.inr ⟨ho, b1, ?_, rfl⟩))))
        have hpx : p.name ≠ eS := name_ne (part_name (V.right p hp))
        exact (step_held V he h hpx (by rw [hpn]; exact hn _ (names_part hf))).2 b2
theorem commutes {c : List Kd} {l a b : List Pa} {e f : Ev} (hl : l.length ≤ 20) (h1 : applyL c l e = (a, 0)) (h2 : applyL c l f = (b, 0)) (hn : ∀ x ∈ evNames e, ¬ x ∈ evNames f) :
    ∃ t, applyL c a f = (t, 0) ∧ applyL c b e = (t, 0) := by
  have va := apply_valid h1
  have vb := apply_valid h2
  obtain ⟨g1, g2, r, g3, rfl⟩ := apply_iff.1 h1
  obtain ⟨_, k2, s, k3, rfl⟩ := apply_iff.1 h2
  have V := vld_iff.1 g1
  refine ⟨putP (putP l r) s, apply_iff.2 ⟨va, k2, s, step_other V hl g2 k2 g3 k3 (fun x hx hy => hn x hy hx), rfl⟩, apply_iff.2 ⟨vb, g2, r, step_other V hl k2 g2 k3 g3 hn, ?_⟩⟩
  refine putG_comm Pa.name V.ord ?_
  rw [step_name g3, step_name k3]
  exact fun e1 => hn _ (names_part g2) (by rw [e1]; exact names_part k2)
end Go.Proofs.YtpikcofbhkbifaaGreat
namespace Go.Proofs.YtpikcofbhkbifaaGreat
open Go Go.RowKit
theorem eS_max : eS.size ≤ maxLen := by decide
theorem step_short {c : List Kd} {l : List Pa} {e : Ev} {r : Pa} (V : Vld c l) (hl : ∀ p ∈ l, p.short) (he : e.short) (h : StepR c l e r) : r.short := by
  rcases h with ⟨_, _, _, _, rfl⟩ | ⟨_, _, p, q, hp, _, _, _, _, h3⟩
  · exact ⟨he.1, he.2.1, eS_max, eS_max, by simp [newPa], by simp [newPa]⟩
  · obtain ⟨s1, s2, s3, s4, s5, s6⟩ := hl p hp
    rcases h3 with ⟨_, _, _, _, _, rfl⟩ | ⟨_, _, rfl⟩ | ⟨_, _, rfl⟩ | ⟨_, rfl⟩ | ⟨_, h60, rfl⟩ | ⟨_, _, _, rfl⟩
    · exact ⟨s1, s2, he.2.2.1, he.2.2.2.1, s5, s6⟩
    · exact ⟨s1, s2, eS_max, eS_max, s5, s6⟩
    · exact ⟨s1, s2, s3, s4, s5, s6⟩
    · exact ⟨s1, s2, s3, s4, s5, s6⟩
    · refine ⟨s1, s2, s3, s4, by show (putX p.props _).length ≤ 100000; omega, fun x hx => ?_⟩
      have R := right_iff.1 (part_iff.1 (V.right p hp)).1
      rcases (putG_mem Pr.key R.2.2.1 _ x).1 hx with rfl | ⟨h1, _⟩
      · exact ⟨he.2.2.2.2.1, he.2.2.2.2.2⟩
      · exact s6 x h1
    · exact ⟨s1, s2, s3, s4, s5, s6⟩
theorem apply_short {c : List Kd} {l t : List Pa} {e : Ev} (hl : ∀ p ∈ l, p.short) (he : e.short) (h : applyL c l e = (t, 0)) : t.length ≤ 20000 ∧ ∀ p ∈ t, p.short := by
  have hv := apply_valid h
  obtain ⟨g1, g2, r, g3, rfl⟩ := apply_iff.1 h
  have V := vld_iff.1 g1
  refine ⟨(vld_iff.1 hv).len, fun p hp => ?_⟩
  rcases (putP_mem V.ord r p).1 hp with rfl | ⟨h1, _⟩
  · exact step_short V hl he g3
  · exact hl p h1
theorem evF_one (e : Ev) : ∀ j, j < 1 * 14 → e.cells[j]? = some (evF [e] j) := by
  intro j hj
  match j, hj with
  | 0, _ | 1, _ | 2, _ | 3, _ | 4, _ | 5, _ | 6, _ | 7, _ | 8, _ | 9, _ | 10, _ | 11, _ | 12, _ | 13, _ => rfl
theorem ev_sl {w : World} {g t : Nat} {e : Ev} (h : Has w g t e.cells) : Sl w (.slice (some ⟨g, 0, none⟩) 1 1) 1 14 (evF [e]) := Sl.has h (Nat.le_refl _) (evF_one e)
theorem apply_err0 {c : List Kd} {l : List Pa} {e : Ev} (h : (applyL c l e).2 = 0) : applyL c l e = ((applyL c l e).1, 0) := by rw [← h]
/-- fleet.Apply where it is possible, and where it is not. -/
theorem apply_ok (w0 : World) (cv sv : Value) (c : List Kd) (l : List Pa) (ev : Ev) (t : List Pa) (w : World) (h : applyL c l ev = (t, 0)) (hb0 : Below w0.heap.size w0 w) (hcat : Cat w0 cv c) (hcl : c.length ≤ 100000) (hks : ∀ k ∈ c, k.short) (hsta : Sta w0 sv l) (hl : l.length ≤ 99999) (hps : ∀ p ∈ l, p.short) (hev : ev.short) :
    Calls Tryz.prog 10 #[.agg #[cv], .agg #[sv], .agg ev.cells] w fun r w' => ∃ A k, r = .returned (.tuple #[.agg #[.slice A t.length k], .int .i64 0]) ∧ Sta w' (.slice A t.length k) t ∧ Below w.heap.size w w' :=
  (apply_any w0 cv sv c l ev w hb0 hcat hcl hks hsta hl hps hev).mono fun e w' ⟨v, h1, h2, h3⟩ => by
    rw [h] at h1 h2
    obtain ⟨A, k, rfl, _⟩ := Rd.form h2
    exact ⟨A, k, h1, h2, h3⟩
theorem apply_no (w0 : World) (cv sv : Value) (c : List Kd) (l : List Pa) (ev : Ev) (w : World) (h : (applyL c l ev).2 ≠ 0) (hb0 : Below w0.heap.size w0 w) (hcat : Cat w0 cv c) (hcl : c.length ≤ 100000) (hks : ∀ k ∈ c, k.short) (hsta : Sta w0 sv l) (hl : l.length ≤ 99999) (hps : ∀ p ∈ l, p.short) (hev : ev.short) :
    Calls Tryz.prog 10 #[.agg #[cv], .agg #[sv], .agg ev.cells] w fun r w' => ∃ A k, r = .returned (.tuple #[.agg #[.slice A 0 k], .int .i64 (applyL c l ev).2]) ∧ Below w.heap.size w w' :=
  (apply_any w0 cv sv c l ev w hb0 hcat hcl hks hsta hl hps hev).mono fun e w' ⟨v, h1, h2, h3⟩ => by
    rw [apply_err h] at h2
    obtain ⟨A, k, rfl, _⟩ := Rd.form h2
    exact ⟨A, k, h1, h3⟩
end Go.Proofs.YtpikcofbhkbifaaGreat
namespace Go.Proofs.YtpikcofbhkbifaaGreat
open Go Go.RowKit
theorem fewB_take {c : List Kd} {l : List Pa} {es : List Ev} (h : fewB c l es = true) : (c.length ≤ 65 ∧ ∀ k ∈ c, k.short) ∧ (l.length ≤ 20 ∧ ∀ p ∈ l, p.short) := by
  unfold fewB at h
  simp only [Bool.and_eq_true] at h
  exact ⟨fewCa_short h.1, fewSt_short h.2.1⟩
theorem big_max {n : Nat} (h : n ≤ big) : n ≤ maxLen := by unfold big at h; unfold maxLen; omega
theorem part_facts {w : World} {b o : Nat} {x0 x1 x2 x3 x4 x5 x6 x7 x8 x9 x10 x11 x12 x13 : Value} (h : w.rangeAt b o [x0, x1, x2, x3, x4, x5, x6, x7, x8, x9, x10, x11, x12, x13]) :
    w.cell? ⟨b, o, none⟩ = some x0 ∧ w.cell? ⟨b, o + 1, none⟩ = some x1 ∧ w.cell? ⟨b, o + 2, none⟩ = some x2 ∧ w.cell? ⟨b, o + 3, none⟩ = some x3 ∧ w.cell? ⟨b, o + 4, none⟩ = some x4 ∧ w.cell? ⟨b, o + 5, none⟩ = some x5 ∧ w.cell? ⟨b, o + 6, none⟩ = some x6 ∧ w.cell? ⟨b, o + 7, none⟩ = some x7 ∧ w.cell? ⟨b, o + 8, none⟩ = some x8 ∧ w.cell? ⟨b, o + 9, none⟩ = some x9 ∧ w.cell? ⟨b, o + 10, none⟩ = some x10 ∧ w.cell? ⟨b, o + 11, none⟩ = some x11 ∧ w.cell? ⟨b, o + 12, none⟩ = some x12 ∧ w.cell? ⟨b, o + 13, none⟩ = some x13 :=
  ⟨h 0 _ rfl, h 1 _ rfl, h 2 _ rfl, h 3 _ rfl, h 4 _ rfl, h 5 _ rfl, h 6 _ rfl, h 7 _ rfl, h 8 _ rfl, h 9 _ rfl, h 10 _ rfl, h 11 _ rfl, h 12 _ rfl, h 13 _ rfl⟩
end Go.Proofs.YtpikcofbhkbifaaGreat
namespace Go.Proofs.YtpikcofbhkbifaaGreat
open Go Go.RowKit
theorem Pr_ext {l m : List Pr} (hl : l.length = m.length) (h : ∀ j, j < l.length → l.getD j noPr = m.getD j noPr) : l = m := by
  apply List.ext_getElem?
  intro j
  by_cases hj : j < l.length
  · have := h j hj
    rw [List.getD_eq_getElem?_getD, List.getD_eq_getElem?_getD, List.getElem?_eq_getElem hj, List.getElem?_eq_getElem (by omega)] at this
    rw [List.getElem?_eq_getElem hj, List.getElem?_eq_getElem (by omega)]
    simpa using this
  · rw [List.getElem?_eq_none (by omega), List.getElem?_eq_none (by omega)]
theorem neS {a b : ByteArray} (h : a ≠ b) : (a.toList != b.toList) = true := by
  rw [bne, beq_bytes, decide_eq_false h]; rfl
theorem beS {a b : ByteArray} (h : ¬ a = b) : (a.toList == b.toList) = false := by rw [beq_bytes, decide_eq_false h]
theorem beB {a b : Bool} (h : ¬ a = b) : (a == b) = false := by simpa using h
theorem eqS (a : ByteArray) : (a.toList != a.toList) = false := by simp
theorem neI {a b : Int} (h : a ≠ b) : (a != b) = true := by simpa using h
theorem neB {a b : Bool} (h : a ≠ b) : (a != b) = true := by simpa using h
set_option maxRecDepth 100000 in
set_option maxHeartbeats 4000000 in
theorem samePart_any (pname pkind pinto pslot : ByteArray) (pmade psince : Int) (pgone : Bool) (pprops : List Pr) (pkl pkh pcl pch pdl pdh : Int) (qname qkind qinto qslot : ByteArray) (qmade qsince : Int) (qgone : Bool) (qprops : List Pr) (qkl qkh qcl qch qdl qdh : Int)
    (A1 A2 : Option Addr) (c1 c2 : Nat) (w : World) (h1 : Rd 2 PrR w (.slice A1 pprops.length c1) pprops) (h2 : Rd 2 PrR w (.slice A2 qprops.length c2) qprops) (hl1 : pprops.length ≤ 100000) (_hl2 : qprops.length ≤ 100000) :
    Calls Tryz.prog 17 #[.agg #[.string pname, .string pkind, .string pinto, .string pslot, .int .i64 pmade, .int .i64 psince, .bool pgone, .slice A1 pprops.length c1, .int .i64 pkl, .int .i64 pkh, .int .i64 pcl, .int .i64 pch, .int .i64 pdl, .int .i64 pdh], .agg #[.string qname, .string qkind, .string qinto, .string qslot, .int .i64 qmade, .int .i64 qsince, .bool qgone, .slice A2 qprops.length c2, .int .i64 qkl, .int .i64 qkh, .int .i64 qcl, .int .i64 qch, .int .i64 qdl, .int .i64 qdh]] w fun e w' => e = .returned (.bool (decide ((⟨pname, pkind, pinto, pslot, pmade, psince, pgone, pprops, pkl, pkh, pcl, pch, pdl, pdh⟩ : Pa) = ⟨qname, qkind, qinto, qslot, qmade, qsince, qgone, qprops, qkl, qkh, qcl, qch, qdl, qdh⟩))) ∧ Below w.heap.size w w' := by
  have HB := Lib.hid (((Below.refl w.heap.size w).alloc (Nat.le_refl _) (.cells #[.string pname, .string pkind, .string pinto, .string pslot, .int .i64 pmade, .int .i64 psince, .bool pgone, .slice A1 pprops.length c1, .int .i64 pkl, .int .i64 pkh, .int .i64 pcl, .int .i64 pch, .int .i64 pdl, .int .i64 pdh] 47)).alloc (by simp) (.cells #[.string qname, .string qkind, .string qinto, .string qslot, .int .i64 qmade, .int .i64 qsince, .bool qgone, .slice A2 qprops.length c2, .int .i64 qkl, .int .i64 qkh, .int .i64 qcl, .int .i64 qch, .int .i64 qdl, .int .i64 qdh] 47))
  have H1 := Lib.hid h1
  have H2 := Lib.hid h2
  clear h1 h2
  by_cases ename : ¬ pname = qname
  · have hb := neS ename
    have hb2 := beS ename
    have hd := Lib.hid (show decide ((⟨pname, pkind, pinto, pslot, pmade, psince, pgone, pprops, pkl, pkh, pcl, pch, pdl, pdh⟩ : Pa) = ⟨qname, qkind, qinto, qslot, qmade, qsince, qgone, qprops, qkl, qkh, qcl, qch, qdl, qdh⟩) = false from decide_eq_false fun e => ename (by injection e))
    clear ename
    rw [hd.out]
    go_enter Tryz.func17, Tryz.ntmps17
    go_wp2_with fail
    all_goals
      go_ret
      exact ⟨rfl, ((Below.refl _ _).alloc (Nat.le_refl _) _).alloc (by simp) _⟩
  obtain rfl := Classical.not_not.1 ename
  have rname := eqS pname
  by_cases ekind : ¬ pkind = qkind
  · have hb := neS ekind
    have hb2 := beS ekind
    have hd := Lib.hid (show decide ((⟨pname, pkind, pinto, pslot, pmade, psince, pgone, pprops, pkl, pkh, pcl, pch, pdl, pdh⟩ : Pa) = ⟨pname, qkind, qinto, qslot, qmade, qsince, qgone, qprops, qkl, qkh, qcl, qch, qdl, qdh⟩) = false from decide_eq_false fun e => ekind (by injection e))
    clear ekind
    rw [hd.out]
    go_enter Tryz.func17, Tryz.ntmps17
    go_wp2_with fail
    all_goals
      go_ret
      exact ⟨rfl, ((Below.refl _ _).alloc (Nat.le_refl _) _).alloc (by simp) _⟩
  obtain rfl := Classical.not_not.1 ekind
  have rkind := eqS pkind
  by_cases einto : ¬ pinto = qinto
  · have hb := neS einto
    have hb2 := beS einto
    have hd := Lib.hid (show decide ((⟨pname, pkind, pinto, pslot, pmade, psince, pgone, pprops, pkl, pkh, pcl, pch, pdl, pdh⟩ : Pa) = ⟨pname, pkind, qinto, qslot, qmade, qsince, qgone, qprops, qkl, qkh, qcl, qch, qdl, qdh⟩) = false from decide_eq_false fun e => einto (by injection e))
    clear einto
    rw [hd.out]
    go_enter Tryz.func17, Tryz.ntmps17
    go_wp2_with fail
    all_goals
      go_ret
      exact ⟨rfl, ((Below.refl _ _).alloc (Nat.le_refl _) _).alloc (by simp) _⟩
  obtain rfl := Classical.not_not.1 einto
  have rinto := eqS pinto
  by_cases eslot : ¬ pslot = qslot
  · have hb := neS eslot
    have hb2 := beS eslot
    have hd := Lib.hid (show decide ((⟨pname, pkind, pinto, pslot, pmade, psince, pgone, pprops, pkl, pkh, pcl, pch, pdl, pdh⟩ : Pa) = ⟨pname, pkind, pinto, qslot, qmade, qsince, qgone, qprops, qkl, qkh, qcl, qch, qdl, qdh⟩) = false from decide_eq_false fun e => eslot (by injection e))
    clear eslot
    rw [hd.out]
    go_enter Tryz.func17, Tryz.ntmps17
    go_wp2_with fail
    all_goals
      go_ret
      exact ⟨rfl, ((Below.refl _ _).alloc (Nat.le_refl _) _).alloc (by simp) _⟩
  obtain rfl := Classical.not_not.1 eslot
  have rslot := eqS pslot
  by_cases emade : ¬ pmade = qmade
  · have hb := neI emade
    have hb2 := neI emade
    have hd := Lib.hid (show decide ((⟨pname, pkind, pinto, pslot, pmade, psince, pgone, pprops, pkl, pkh, pcl, pch, pdl, pdh⟩ : Pa) = ⟨pname, pkind, pinto, pslot, qmade, qsince, qgone, qprops, qkl, qkh, qcl, qch, qdl, qdh⟩) = false from decide_eq_false fun e => emade (by injection e))
    clear emade
    rw [hd.out]
    go_enter Tryz.func17, Tryz.ntmps17
    go_wp2_with fail
    all_goals
      go_ret
      exact ⟨rfl, ((Below.refl _ _).alloc (Nat.le_refl _) _).alloc (by simp) _⟩
  obtain rfl := Classical.not_not.1 emade
  by_cases esince : ¬ psince = qsince
  · have hb := neI esince
    have hb2 := neI esince
    have hd := Lib.hid (show decide ((⟨pname, pkind, pinto, pslot, pmade, psince, pgone, pprops, pkl, pkh, pcl, pch, pdl, pdh⟩ : Pa) = ⟨pname, pkind, pinto, pslot, pmade, qsince, qgone, qprops, qkl, qkh, qcl, qch, qdl, qdh⟩) = false from decide_eq_false fun e => esince (by injection e))
    clear esince
    rw [hd.out]
    go_enter Tryz.func17, Tryz.ntmps17
    go_wp2_with fail
    all_goals
      go_ret
      exact ⟨rfl, ((Below.refl _ _).alloc (Nat.le_refl _) _).alloc (by simp) _⟩
  obtain rfl := Classical.not_not.1 esince
  by_cases egone : ¬ pgone = qgone
  · have hb := neB egone
    have hb2 := beB egone
    have hd := Lib.hid (show decide ((⟨pname, pkind, pinto, pslot, pmade, psince, pgone, pprops, pkl, pkh, pcl, pch, pdl, pdh⟩ : Pa) = ⟨pname, pkind, pinto, pslot, pmade, psince, qgone, qprops, qkl, qkh, qcl, qch, qdl, qdh⟩) = false from decide_eq_false fun e => egone (by injection e))
    clear egone
    rw [hd.out]
    go_enter Tryz.func17, Tryz.ntmps17
    go_wp2_with fail
    all_goals
      go_ret
      exact ⟨rfl, ((Below.refl _ _).alloc (Nat.le_refl _) _).alloc (by simp) _⟩
  obtain rfl := Classical.not_not.1 egone
  by_cases elife : ¬ (pkl = qkl ∧ pkh = qkh ∧ pcl = qcl ∧ pch = qch ∧ pdl = qdl ∧ pdh = qdh)
  · have hd := Lib.hid (show decide ((⟨pname, pkind, pinto, pslot, pmade, psince, pgone, pprops, pkl, pkh, pcl, pch, pdl, pdh⟩ : Pa) = ⟨pname, pkind, pinto, pslot, pmade, psince, pgone, qprops, qkl, qkh, qcl, qch, qdl, qdh⟩) = false from decide_eq_false fun e => elife (by injection e; exact ⟨by assumption, by assumption, by assumption, by assumption, by assumption, by assumption⟩))
    rw [hd.out]
    have HL := Lib.hid elife
    clear elife
    go_enter Tryz.func17, Tryz.ntmps17
    go_wp2_with fail
    all_goals first | (go_ret; exact ⟨rfl, ((Below.refl _ _).alloc (Nat.le_refl _) _).alloc (by simp) _⟩) | (exfalso; exact HL.out ⟨by assumption, by assumption, by assumption, by assumption, by assumption, by assumption⟩)
  obtain ⟨rfl, rfl, rfl, rfl, rfl, rfl⟩ := Classical.not_not.1 elife
  have hpp : decide ((⟨pname, pkind, pinto, pslot, pmade, psince, pgone, pprops, pkl, pkh, pcl, pch, pdl, pdh⟩ : Pa) = ⟨pname, pkind, pinto, pslot, pmade, psince, pgone, qprops, pkl, pkh, pcl, pch, pdl, pdh⟩) = decide (pprops = qprops) := by
    rw [decide_eq_decide]; exact ⟨fun e => by injection e, fun e => by rw [e]⟩
  rw [hpp]
  clear hpp
  by_cases hlen : ¬ pprops.length = qprops.length
  · have hb : ((pprops.length : Int) != (qprops.length : Int)) = true := by rw [bne_iff_ne]; omega
    have hd := Lib.hid (show decide (pprops = qprops) = false from decide_eq_false fun e => hlen (by rw [e]))
    rw [hd.out]
    clear hlen
    go_enter Tryz.func17, Tryz.ntmps17
    go_wp2_with fail
    go_ret
    exact ⟨rfl, HB.out⟩
  have HLN := Lib.hid (Classical.not_not.1 hlen)
  have hb : ((pprops.length : Int) != (qprops.length : Int)) = false := by rw [bne_eq_false_iff_eq]; have := Classical.not_not.1 hlen; omega
  clear hlen
  have k1 := (Has.new w 47 #[.string pname, .string pkind, .string pinto, .string pslot, .int .i64 pmade, .int .i64 psince, .bool pgone, .slice A1 pprops.length c1, .int .i64 pkl, .int .i64 pkh, .int .i64 pcl, .int .i64 pch, .int .i64 pdl, .int .i64 pdh]).alloc (.cells #[.string pname, .string pkind, .string pinto, .string pslot, .int .i64 pmade, .int .i64 psince, .bool pgone, .slice A2 qprops.length c2, .int .i64 pkl, .int .i64 pkh, .int .i64 pcl, .int .i64 pch, .int .i64 pdl, .int .i64 pdh] 47)
  have k2 := Has.new (w.alloc (.cells #[.string pname, .string pkind, .string pinto, .string pslot, .int .i64 pmade, .int .i64 psince, .bool pgone, .slice A1 pprops.length c1, .int .i64 pkl, .int .i64 pkh, .int .i64 pcl, .int .i64 pch, .int .i64 pdl, .int .i64 pdh] 47)) 47 #[.string pname, .string pkind, .string pinto, .string pslot, .int .i64 pmade, .int .i64 psince, .bool pgone, .slice A2 qprops.length c2, .int .i64 pkl, .int .i64 pkh, .int .i64 pcl, .int .i64 pch, .int .i64 pdl, .int .i64 pdh]
  simp only [World.size_alloc] at k2
  have K1 := Lib.hid k1
  have K2 := Lib.hid k2
  clear k1 k2
  go_enter Tryz.func17, Tryz.ntmps17
  go_wp2_with fail
  go_loopw [5] (fun i wr => ∃ k : Nat, k ≤ pprops.length ∧ i = .int .i64 k ∧ Hid (∀ j, j < k → pprops.getD j noPr = qprops.getD j noPr) ∧ Hid (Has wr w.heap.size 47 #[.string pname, .string pkind, .string pinto, .string pslot, .int .i64 pmade, .int .i64 psince, .bool pgone, .slice A1 pprops.length c1, .int .i64 pkl, .int .i64 pkh, .int .i64 pcl, .int .i64 pch, .int .i64 pdl, .int .i64 pdh]) ∧ Hid (Has wr (w.heap.size + 1) 47 #[.string pname, .string pkind, .string pinto, .string pslot, .int .i64 pmade, .int .i64 psince, .bool pgone, .slice A2 qprops.length c2, .int .i64 pkl, .int .i64 pkh, .int .i64 pcl, .int .i64 pch, .int .i64 pdl, .int .i64 pdh]) ∧ Hid (Below w.heap.size w wr)) (fun i _ => pprops.length - (intOf i).toNat)
  case atStart => exact ⟨0, Nat.zero_le _, rfl, fun j hj => absurd hj (by omega), K1.out, K2.out, HB.out⟩
  case round =>
    obtain ⟨k, hk, rfl, HT, HK1, HK2, HBB⟩ := hrel
    obtain ⟨x1, x2⟩ := HK1.out.facts
    obtain ⟨x3, x4⟩ := HK2.out.facts
    by_cases hlt : k < pprops.length
    · have hlq : k < qprops.length := by rw [← HLN.out]; exact hlt
      obtain ⟨b1, o1, c', cs', he, _, rfl, _, hr1⟩ := H1.out.get hlt noPr
      injection he with e1 e2 e3
      subst e1; subst e3
      obtain ⟨b2, o2, c'', cs'', he, _, rfl, _, hr2⟩ := H2.out.get hlq noPr
      injection he with e1 e2 e3
      subst e1; subst e3
      have hki : (k : Int) < (pprops.length : Int) := by omega
      have hkq : (k : Int) < (qprops.length : Int) := by omega
      have hd := Lib.hid (fun h : pprops.getD k noPr ≠ qprops.getD k noPr => (decide_eq_false fun e => h (by rw [e]) : decide (pprops = qprops) = false))
      have hs := Lib.hid (fun h : pprops.getD k noPr = qprops.getD k noPr => fun j (hj : j < k + 1) => (by
        rcases Nat.lt_or_ge j k with h1 | h1
        · exact HT.out j h1
        · obtain rfl : j = k := by omega
          exact h : pprops.getD j noPr = qprops.getD j noPr))
      have g1 := range_later hr1 HBB.out
      have g2 := range_later hr2 HBB.out
      clear hr1 hr2
      generalize pprops.getD k noPr = x at *
      generalize qprops.getD k noPr = y at *
      obtain ⟨xk, xv⟩ := x
      obtain ⟨yk, yv⟩ := y
      have y0 : wr.cell? ⟨b1, o1 + k * 2, none⟩ = some (.string xk) := g1 0 _ rfl
      have y1 : wr.cell? ⟨b1, o1 + k * 2 + 1, none⟩ = some (.string xv) := g1 1 _ rfl
      have y2 : wr.cell? ⟨b2, o2 + k * 2, none⟩ = some (.string yk) := g2 0 _ rfl
      have y3 : wr.cell? ⟨b2, o2 + k * 2 + 1, none⟩ = some (.string yv) := g2 1 _ rfl
      clear g1 g2
      cases ek : (xk.toList == yk.toList)
      · have hne := Lib.hid (hd.out (by rw [beq_bytes] at ek; have := of_decide_eq_false ek; simp [this]))
        go_wp2_with fail
        go_quiet (fail)
        go_wp2_with fail
        go_ret
        exact ⟨ret_bool (by rw [hne.out]), below_drewN HBB.out _⟩
      · cases ev : (xv.toList == yv.toList)
        · have hne := Lib.hid (hd.out (by rw [beq_bytes] at ev; have := of_decide_eq_false ev; simp [this]))
          go_wp2_with fail
          go_quiet (fail)
          go_wp2_with fail
          go_ret
          exact ⟨ret_bool (by rw [hne.out]), below_drewN HBB.out _⟩
        · have hst := Lib.hid (hs.out (by rw [beq_bytes] at ek ev; rw [of_decide_eq_true ek, of_decide_eq_true ev]))
          go_wp2_with fail
          go_quiet (fail)
          go_wp2_with fail
          go_roundw
          case rel => exact ⟨k + 1, by omega, by go_num, hst.out, HK1.out.drewN _, HK2.out.drewN _, below_drewN HBB.out _⟩
          case measure => simp [intOf]; omega
    · obtain rfl : k = pprops.length := by omega
      have hfin := Lib.hid (decide_eq_true (Pr_ext HLN.out HT.out) : decide (pprops = qprops) = true)
      go_wp2_with fail
      go_ret
      exact ⟨ret_bool (by rw [hfin.out]), HBB.out⟩
end Go.Proofs.YtpikcofbhkbifaaGreat
namespace Go.Proofs.YtpikcofbhkbifaaGreat
open Go Go.RowKit
theorem Pa_ext {l m : List Pa} (hl : l.length = m.length) (h : ∀ j, j < l.length → l.getD j noPa = m.getD j noPa) : l = m := by
  apply List.ext_getElem?
  intro j
  by_cases hj : j < l.length
  · have := h j hj
    rw [List.getD_eq_getElem?_getD, List.getD_eq_getElem?_getD, List.getElem?_eq_getElem hj, List.getElem?_eq_getElem (by omega)] at this
    rw [List.getElem?_eq_getElem hj, List.getElem?_eq_getElem (by omega)]
    simpa using this
  · rw [List.getElem?_eq_none (by omega), List.getElem?_eq_none (by omega)]
set_option maxRecDepth 100000 in
set_option maxHeartbeats 4000000 in
theorem same10_any (w0 : World) (v1 v2 : Value) (l m : List Pa) (w : World) (hb0 : Below w0.heap.size w0 w) (h1 : Sta w0 v1 l) (h2 : Sta w0 v2 m) (hl1 : l.length ≤ 1000000) (_hl2 : m.length ≤ 1000000) (hs1 : ∀ p ∈ l, p.props.length ≤ 100000) (hs2 : ∀ p ∈ m, p.props.length ≤ 100000) :
    Calls Tryz.prog 12 #[.agg #[v1], .agg #[v2]] w fun e w' => e = .returned (.bool (decide (l = m))) ∧ Below w.heap.size w w' := by
  obtain ⟨A1, c1, rfl, hn1⟩ := Rd.form h1
  obtain ⟨A2, c2, rfl, hn2⟩ := Rd.form h2
  have H1 := Lib.hid h1
  have H2 := Lib.hid h2
  have HB0 := Lib.hid hb0
  have HS1 := Lib.hid hs1
  have HS2 := Lib.hid hs2
  have k1 := (Has.new w 27 #[.slice A1 l.length c1]).alloc (.cells #[.slice A2 m.length c2] 27)
  have k2 := Has.new (w.alloc (.cells #[.slice A1 l.length c1] 27)) 27 #[.slice A2 m.length c2]
  simp only [World.size_alloc] at k2
  have K1 := Lib.hid k1
  have K2 := Lib.hid k2
  have HB := Lib.hid (((Below.refl w.heap.size w).alloc (Nat.le_refl _) (.cells #[.slice A1 l.length c1] 27)).alloc (by simp) (.cells #[.slice A2 m.length c2] 27))
  clear h1 h2 hb0 hs1 hs2 k1 k2
  by_cases hlen : ¬ l.length = m.length
  · have hb : ((l.length : Int) != (m.length : Int)) = true := by rw [bne_iff_ne]; omega
    have hd := Lib.hid (show decide (l = m) = false from decide_eq_false fun e => hlen (by rw [e]))
    rw [hd.out]
    clear hlen
    go_enter Tryz.func12, Tryz.ntmps12
    go_wp2_with fail
    go_ret
    exact ⟨rfl, HB.out⟩
  have HLN := Lib.hid (Classical.not_not.1 hlen)
  have hb : ((l.length : Int) != (m.length : Int)) = false := by rw [bne_eq_false_iff_eq]; have := Classical.not_not.1 hlen; omega
  clear hlen
  go_enter Tryz.func12, Tryz.ntmps12
  go_wp2_with fail
  go_loopw [5] (fun i wr => ∃ k : Nat, k ≤ l.length ∧ i = .int .i64 k ∧ Hid (∀ j, j < k → l.getD j noPa = m.getD j noPa) ∧ Hid (Has wr w.heap.size 27 #[.slice A1 l.length c1]) ∧ Hid (Has wr (w.heap.size + 1) 27 #[.slice A2 m.length c2]) ∧ Hid (Below w.heap.size w wr)) (fun i _ => l.length - (intOf i).toNat)
  case atStart => exact ⟨0, Nat.zero_le _, rfl, fun j hj => absurd hj (by omega), K1.out, K2.out, HB.out⟩
  case round =>
    obtain ⟨k, hk, rfl, HT, HK1, HK2, HBB⟩ := hrel
    by_cases hlt : k < l.length
    · have hlq : k < m.length := by rw [← HLN.out]; exact hlt
      obtain ⟨b1, o1, c', cs', he, _, ⟨sv1, rfl, hp1⟩, _, hr1⟩ := H1.out.get hlt noPa
      injection he with e1 e2 e3
      subst e1; subst e3
      obtain ⟨b2, o2, c'', cs'', he, _, ⟨sv2, rfl, hp2⟩, _, hr2⟩ := H2.out.get hlq noPa
      injection he with e1 e2 e3
      subst e1; subst e3
      obtain ⟨A3, c3, rfl, hn3⟩ := hp1.form
      obtain ⟨A4, c4, rfl, hn4⟩ := hp2.form
      have hki : (k : Int) < (l.length : Int) := by omega
      have hkq : (k : Int) < (m.length : Int) := by omega
      have hd := Lib.hid (fun h : l.getD k noPa ≠ m.getD k noPa => (decide_eq_false fun e => h (by rw [e]) : decide (l = m) = false))
      have hs := Lib.hid (fun h : l.getD k noPa = m.getD k noPa => fun j (hj : j < k + 1) => (by
        rcases Nat.lt_or_ge j k with h1 | h1
        · exact HT.out j h1
        · obtain rfl : j = k := by omega
          exact h : l.getD j noPa = m.getD j noPa))
      have hB0 := HB0.out.trans (HBB.out.mono HB0.out.size)
      have g1 := range_later hr1 hB0
      have g2 := range_later hr2 hB0
      have HP1 := Lib.hid (hp1.below PrR.stays hB0)
      have HP2 := Lib.hid (hp2.below PrR.stays hB0)
      have hl3 := HS1.out _ (getD_mem l k noPa hlt)
      have hl4 := HS2.out _ (getD_mem m k noPa hlq)
      have x1 : wr.cell? ⟨w.heap.size, 0, none⟩ = some (.slice (some ⟨b1, o1, none⟩) l.length c1) := HK1.out.facts.1 0
      have x2 : wr.cell? ⟨w.heap.size + 1, 0, none⟩ = some (.slice (some ⟨b2, o2, none⟩) m.length c2) := HK2.out.facts.1 0
      clear hr1 hr2 hp1 hp2 hB0
      generalize l.getD k noPa = x at *
      generalize m.getD k noPa = y at *
      obtain ⟨pname, pkind, pinto, pslot, pmade, psince, pgone, pprops, pkl, pkh, pcl, pch, pdl, pdh⟩ := x
      obtain ⟨qname, qkind, qinto, qslot, qmade, qsince, qgone, qprops, qkl, qkh, qcl, qch, qdl, qdh⟩ := y
      unfold Pa.cells at g1 g2
      dsimp only at g1 g2 hn3 hn4 HP1 HP2 hl3 hl4
      obtain ⟨y0, y1, y2, y3, y4, y5, y6, y7, y8, y9, y10, y11, y12, y13⟩ := part_facts g1
      obtain ⟨z0, z1, z2, z3, z4, z5, z6, z7, z8, z9, z10, z11, z12, z13⟩ := part_facts g2
      clear g1 g2 hn3 hn4
      have hbb : Below wr.heap.size wr wr := Below.refl _ _
      have HSP := Lib.hid (fun W (h : Below wr.heap.size wr W) => samePart_any pname pkind pinto pslot pmade psince pgone pprops pkl pkh pcl pch pdl pdh qname qkind qinto qslot qmade qsince qgone qprops qkl qkh qcl qch qdl qdh A3 A4 c3 c4 W (HP1.out.below PrR.stays h) (HP2.out.below PrR.stays h) hl3 hl4)
      cases hE : decide ((⟨pname, pkind, pinto, pslot, pmade, psince, pgone, pprops, pkl, pkh, pcl, pch, pdl, pdh⟩ : Pa) = ⟨qname, qkind, qinto, qslot, qmade, qsince, qgone, qprops, qkl, qkh, qcl, qch, qdl, qdh⟩)
      all_goals
        have hE2 := Lib.hid hE
        clear hE
        go_wp2_with fail
        go_region_held3 (fun w' => Below wr.heap.size wr w' ∧ w'.cell? ⟨w.heap.size, 0, none⟩ = some (.slice (some ⟨b1, o1, none⟩) l.length c1) ∧ w'.cell? ⟨w.heap.size + 1, 0, none⟩ = some (.slice (some ⟨b2, o2, none⟩) m.length c2) ∧ w'.cell? ⟨b1, o1 + k * 14, none⟩ = some (.string pname) ∧ w'.cell? ⟨b1, o1 + k * 14 + 1, none⟩ = some (.string pkind) ∧ w'.cell? ⟨b1, o1 + k * 14 + 2, none⟩ = some (.string pinto) ∧ w'.cell? ⟨b1, o1 + k * 14 + 3, none⟩ = some (.string pslot) ∧ w'.cell? ⟨b1, o1 + k * 14 + 4, none⟩ = some (.int .i64 pmade) ∧ w'.cell? ⟨b1, o1 + k * 14 + 5, none⟩ = some (.int .i64 psince) ∧ w'.cell? ⟨b1, o1 + k * 14 + 6, none⟩ = some (.bool pgone) ∧ w'.cell? ⟨b1, o1 + k * 14 + 7, none⟩ = some (.slice A3 pprops.length c3) ∧ w'.cell? ⟨b1, o1 + k * 14 + 8, none⟩ = some (.int .i64 pkl) ∧ w'.cell? ⟨b1, o1 + k * 14 + 9, none⟩ = some (.int .i64 pkh) ∧ w'.cell? ⟨b1, o1 + k * 14 + 10, none⟩ = some (.int .i64 pcl) ∧ w'.cell? ⟨b1, o1 + k * 14 + 11, none⟩ = some (.int .i64 pch) ∧ w'.cell? ⟨b1, o1 + k * 14 + 12, none⟩ = some (.int .i64 pdl) ∧ w'.cell? ⟨b1, o1 + k * 14 + 13, none⟩ = some (.int .i64 pdh) ∧ w'.cell? ⟨b2, o2 + k * 14, none⟩ = some (.string qname) ∧ w'.cell? ⟨b2, o2 + k * 14 + 1, none⟩ = some (.string qkind) ∧ w'.cell? ⟨b2, o2 + k * 14 + 2, none⟩ = some (.string qinto) ∧ w'.cell? ⟨b2, o2 + k * 14 + 3, none⟩ = some (.string qslot) ∧ w'.cell? ⟨b2, o2 + k * 14 + 4, none⟩ = some (.int .i64 qmade) ∧ w'.cell? ⟨b2, o2 + k * 14 + 5, none⟩ = some (.int .i64 qsince) ∧ w'.cell? ⟨b2, o2 + k * 14 + 6, none⟩ = some (.bool qgone) ∧ w'.cell? ⟨b2, o2 + k * 14 + 7, none⟩ = some (.slice A4 qprops.length c4) ∧ w'.cell? ⟨b2, o2 + k * 14 + 8, none⟩ = some (.int .i64 qkl) ∧ w'.cell? ⟨b2, o2 + k * 14 + 9, none⟩ = some (.int .i64 qkh) ∧ w'.cell? ⟨b2, o2 + k * 14 + 10, none⟩ = some (.int .i64 qcl) ∧ w'.cell? ⟨b2, o2 + k * 14 + 11, none⟩ = some (.int .i64 qch) ∧ w'.cell? ⟨b2, o2 + k * 14 + 12, none⟩ = some (.int .i64 qdl) ∧ w'.cell? ⟨b2, o2 + k * 14 + 13, none⟩ = some (.int .i64 qdh))
          (refine ⟨?_, ?_, ?_, ?_, ?_, ?_, ?_, ?_, ?_, ?_, ?_, ?_, ?_, ?_, ?_, ?_, ?_, ?_, ?_, ?_, ?_, ?_, ?_, ?_, ?_, ?_, ?_, ?_, ?_, ?_, ?_⟩ <;> first | assumption | exact hbb.drew | exact hbw | exact hbw.drew | exact cell_later hbb.drew (by assumption) | exact cell_later hbw (by assumption) | exact cell_later hbw.drew (by assumption))
          ((go_at_call 17; refine (HSP.out _ (by first | exact hbb | exact hbb.drew)).mono ?_; rintro e w5 ⟨rfl, hb5⟩; rw [hE2.out]; have hbw : Below wr.heap.size wr w5 := (by first | exact hb5 | exact hbb.drew.trans hb5); clear hb5))
        rename_i hHeld
        have hBW := hHeld.1
        clear hHeld
      · have hne := Lib.hid (hd.out (of_decide_eq_false hE2.out))
        go_wp2_with fail
        go_ret
        exact ⟨ret_bool (by rw [hne.out]), HBB.out.trans (hBW.mono HBB.out.size)⟩
      · have hst := Lib.hid (hs.out (of_decide_eq_true hE2.out))
        go_wp2_with fail
        go_roundw
        case rel => exact ⟨k + 1, by omega, by go_num, hst.out, HK1.out.below hBW HK1.out.lt, HK2.out.below hBW HK2.out.lt, HBB.out.trans (hBW.mono HBB.out.size)⟩
        case measure => simp [intOf]; omega
    · obtain rfl : k = l.length := by omega
      obtain ⟨x1, x2⟩ := HK1.out.facts
      have hfin := Lib.hid (decide_eq_true (Pa_ext HLN.out HT.out) : decide (l = m) = true)
      go_wp2_with fail
      go_ret
      exact ⟨ret_bool (by rw [hfin.out]), HBB.out⟩
end Go.Proofs.YtpikcofbhkbifaaGreat
