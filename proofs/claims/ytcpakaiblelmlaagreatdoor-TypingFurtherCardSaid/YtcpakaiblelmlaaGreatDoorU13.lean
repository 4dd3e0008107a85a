/- Contracts of library functions at this translation, as the shelf lays them: slices.Sorted(maps.Keys(m)). A map with strings as keys, as the library's contracts want it. No condition. slices.Sorted(maps.Keys(m)) at a map of the call's own with strings as keys: the keys in order. Condition: the keys lie in memory, and are not too many. The kinds inside a kind, by a list of what is still to be looked at: its plain law. No condition. A queue of strings: a slice that moves along its row, and append onto it. No condition. The memory of typing.Kinds: the names found, the names still to be looked at. No condition. typing.Kinds: the kinds inside a kind, in order. Condition: the catalog lies in memory. bogieref08.Strings: are two lists equal? No condition but sizes. bogieref08.Few: is a catalog of a moderate size? No condition. bogieref20.Nodes: how many nodes a condition has, at most one more than allowed. Condition: the condition lies in memory. bogieref20.Few, FewCond. Condition: the rule lies in memory. typing.nodes: an iterator over the nodes of a condition. Condition: the condition lies in memory. The step from a walk to a row, for a law: it returns true, and memory below is as it was. No condition. Arguments opened: catalogs. No condition. Arguments opened: bytes. No condition. -/
import Derived.BigFrame
import Derived.BigQuiet
import Derived.Carry
import Derived.Deep.AppendSrc
import Derived.Deep.DeepHandedRow
import Derived.Deep.QuietTactic
import Derived.Deep.RegionHeld3
import Derived.Ground.GgzProg
import Derived.Ground.SlgmProg
import Derived.IntWalk
import Derived.Laws.AppendOwn
import Derived.Lib.LaidTab
import Derived.LoopIn
import Derived.LoopNIn
import Derived.Maps.Own
import Derived.OpenShut
import Derived.OwnWalkIn
import Derived.ProofKit
import Derived.RangeFuncBound
import Derived.RangeFuncCalls
import Derived.RangeFuncLeaves
import Derived.RangeFuncNested
import Derived.Shelf.Abstract
import Derived.Shelf.RegionOpen
import Derived.Shelf.SlIter.Nil
import Derived.Shelf.SortM.Plain
import Derived.Shelf.SortM.SortNone
import Derived.Sort.KeysCollected
import Derived.TacticsInMore
import Derived.WalkKit
import Derived.Test.YtcpakaiblelmlaaGreatDoorProg
import Derived.Test.YtcpakaiblelmlaaGreatDoorU01
import Derived.Test.YtcpakaiblelmlaaGreatDoorU02
import Derived.Test.YtcpakaiblelmlaaGreatDoorU05
namespace Go.Proofs
open Go.Shelf
def Tryz.keys32_ren : Go.Shelf.Ren := ⟨fun | 7 => 32 | 10 => 61 | n => n, fun | 23 => 49 | 26 => 9 | 3 => 4 | 28 => 66 | 0 => 0 | 27 => 65 | 33 => 48 | 4 => 4 | n => n, fun | n => n⟩
theorem Tryz.keys32 : Go.Proofs.SlLaysZ.n7 Tryz.prog Tryz.keys32_ren := {
  mixed := by kernel_rfl
  f7 := ⟨Tryz.f32.name, by decide, Tryz.func32.trans (congrArg some (by kernel_rfl))⟩
  f10 := ⟨Tryz.f61.name, by decide, Tryz.func61.trans (congrArg some (by kernel_rfl))⟩
  t0 := Tryz.underlying0
  a0 := Tryz.isAgg0
  z0 := Tryz.sizeOf0
  v0 := Tryz.zeroValue0
  t4 := Tryz.underlying4
  a4 := Tryz.isAgg4
  z4 := Tryz.sizeOf4
  v4 := Tryz.zeroValue4
  t23 := Tryz.underlying49
  a23 := Tryz.isAgg49
  z23 := Tryz.sizeOf49
  v23 := Tryz.zeroValue49
  t26 := Tryz.underlying9
  a26 := Tryz.isAgg9
  z26 := Tryz.sizeOf9
  v26 := Tryz.zeroValue9
  t27 := Tryz.underlying65
  a27 := Tryz.isAgg65
  z27 := Tryz.sizeOf65
  v27 := Tryz.zeroValue65
  t28 := Tryz.underlying66
  a28 := Tryz.isAgg66
  z28 := Tryz.sizeOf66
  v28 := Tryz.zeroValue66
  t33 := Tryz.underlying48
  a33 := Tryz.isAgg48
  z33 := Tryz.sizeOf48
  v33 := Tryz.zeroValue48 }
def Tryz.sorted31_ren : Go.Shelf.Ren := ⟨fun | 6 => 31 | 8 => 59 | 9 => 60 | 11 => 89 | 13 => 91 | 12 => 90 | 23 => 114 | 24 => 115 | 14 => 105 | 15 => 106 | 16 => 107 | 17 => 108 | 18 => 109 | 19 => 110 | 20 => 111 | 21 => 112 | 22 => 113 | 25 => 129 | 26 => 130 | 27 => 131 | 28 => 132 | 29 => 133 | 30 => 134 | 31 => 139 | n => n, fun | 26 => 9 | 28 => 66 | 24 => 39 | 0 => 0 | 3 => 3 | 37 => 126 | 48 => 152 | 50 => 154 | 4 => 4 | 40 => 145 | 39 => 144 | 45 => 120 | 5 => 5 | 9 => 9 | 51 => 163 | 55 => 167 | 57 => 176 | 58 => 177 | 33 => 48 | n => n, fun | n => n⟩
theorem Tryz.sorted31 : Go.Proofs.SlLaysZ.n6 Tryz.prog Tryz.sorted31_ren := {
  mixed := by kernel_rfl
  f6 := ⟨Tryz.f31.name, by decide, Tryz.func31.trans (congrArg some (by kernel_rfl))⟩
  f8 := ⟨Tryz.f59.name, by decide, Tryz.func59.trans (congrArg some (by kernel_rfl))⟩
  f11 := ⟨Tryz.f89.name, by decide, Tryz.func89.trans (congrArg some (by kernel_rfl))⟩
  t0 := Tryz.underlying0
  a0 := Tryz.isAgg0
  z0 := Tryz.sizeOf0
  v0 := Tryz.zeroValue0
  t24 := Tryz.underlying39
  a24 := Tryz.isAgg39
  z24 := Tryz.sizeOf39
  v24 := Tryz.zeroValue39
  t26 := Tryz.underlying9
  a26 := Tryz.isAgg9
  z26 := Tryz.sizeOf9
  v26 := Tryz.zeroValue9
  t28 := Tryz.underlying66
  a28 := Tryz.isAgg66
  z28 := Tryz.sizeOf66
  v28 := Tryz.zeroValue66
  i26 := by kernel_rfl }
def Tryz.sort60_ren : Go.Shelf.Ren := ⟨fun | 6 => 60 | 8 => 91 | 9 => 90 | 19 => 114 | 20 => 115 | 21 => 105 | 22 => 106 | 23 => 107 | 24 => 108 | 25 => 109 | 26 => 110 | 27 => 111 | 28 => 112 | 29 => 113 | 36 => 129 | 31 => 130 | 32 => 131 | 37 => 132 | 38 => 133 | 39 => 134 | 41 => 139 | n => n, fun | 27 => 39 | 29 => 9 | 3 => 3 | 32 => 126 | 26 => 39 | 0 => 0 | 44 => 152 | 46 => 154 | 4 => 4 | 36 => 145 | 35 => 144 | 41 => 120 | 5 => 5 | 9 => 9 | 53 => 163 | 57 => 167 | 63 => 176 | 64 => 177 | n => n, fun | n => n⟩
theorem Tryz.sort60 : Go.Proofs.SlLaysM.n6 Tryz.prog Tryz.sort60_ren := {
  mixed := by kernel_rfl
  f6 := ⟨Tryz.f60.name, by decide, Tryz.func60.trans (congrArg some (by kernel_rfl))⟩
  f8 := Tryz.func91.trans (congrArg some (by kernel_rfl))
  f9 := ⟨Tryz.f90.name, by decide, Tryz.func90.trans (congrArg some (by kernel_rfl))⟩
  f19 := Tryz.func114.trans (congrArg some (by kernel_rfl))
  f20 := Tryz.func115.trans (congrArg some (by kernel_rfl))
  f21 := ⟨Tryz.f105.name, by decide, Tryz.func105.trans (congrArg some (by kernel_rfl))⟩
  f22 := ⟨Tryz.f106.name, by decide, Tryz.func106.trans (congrArg some (by kernel_rfl))⟩
  f23 := ⟨Tryz.f107.name, by decide, Tryz.func107.trans (congrArg some (by kernel_rfl))⟩
  f24 := ⟨Tryz.f108.name, by decide, Tryz.func108.trans (congrArg some (by kernel_rfl))⟩
  f25 := ⟨Tryz.f109.name, by decide, Tryz.func109.trans (congrArg some (by kernel_rfl))⟩
  f26 := ⟨Tryz.f110.name, by decide, Tryz.func110.trans (congrArg some (by kernel_rfl))⟩
  f27 := ⟨Tryz.f111.name, by decide, Tryz.func111.trans (congrArg some (by kernel_rfl))⟩
  f28 := ⟨Tryz.f112.name, by decide, Tryz.func112.trans (congrArg some (by kernel_rfl))⟩
  f29 := ⟨Tryz.f113.name, by decide, Tryz.func113.trans (congrArg some (by kernel_rfl))⟩
  f31 := Tryz.func130.trans (congrArg some (by kernel_rfl))
  f32 := Tryz.func131.trans (congrArg some (by kernel_rfl))
  f36 := ⟨Tryz.f129.name, by decide, Tryz.func129.trans (congrArg some (by kernel_rfl))⟩
  f37 := ⟨Tryz.f132.name, by decide, Tryz.func132.trans (congrArg some (by kernel_rfl))⟩
  f38 := ⟨Tryz.f133.name, by decide, Tryz.func133.trans (congrArg some (by kernel_rfl))⟩
  f39 := ⟨Tryz.f134.name, by decide, Tryz.func134.trans (congrArg some (by kernel_rfl))⟩
  f41 := ⟨Tryz.f139.name, by decide, Tryz.func139.trans (congrArg some (by kernel_rfl))⟩
  t0 := Tryz.underlying0
  a0 := Tryz.isAgg0
  z0 := Tryz.sizeOf0
  v0 := Tryz.zeroValue0
  t3 := Tryz.underlying3
  a3 := Tryz.isAgg3
  z3 := Tryz.sizeOf3
  v3 := Tryz.zeroValue3
  t4 := Tryz.underlying4
  a4 := Tryz.isAgg4
  z4 := Tryz.sizeOf4
  v4 := Tryz.zeroValue4
  t5 := Tryz.underlying5
  a5 := Tryz.isAgg5
  z5 := Tryz.sizeOf5
  v5 := Tryz.zeroValue5
  t9 := Tryz.underlying9
  a9 := Tryz.isAgg9
  z9 := Tryz.sizeOf9
  v9 := Tryz.zeroValue9
  t26 := Tryz.underlying39
  a26 := Tryz.isAgg39
  z26 := Tryz.sizeOf39
  v26 := Tryz.zeroValue39
  t27 := Tryz.underlying39
  a27 := Tryz.isAgg39
  z27 := Tryz.sizeOf39
  v27 := Tryz.zeroValue39
  t29 := Tryz.underlying9
  a29 := Tryz.isAgg9
  z29 := Tryz.sizeOf9
  v29 := Tryz.zeroValue9
  t32 := Tryz.underlying126
  a32 := Tryz.isAgg126
  z32 := Tryz.sizeOf126
  v32 := Tryz.zeroValue126
  t35 := Tryz.underlying144
  a35 := Tryz.isAgg144
  z35 := Tryz.sizeOf144
  v35 := Tryz.zeroValue144
  t36 := Tryz.underlying145
  a36 := Tryz.isAgg145
  z36 := Tryz.sizeOf145
  v36 := Tryz.zeroValue145
  t41 := Tryz.underlying120
  a41 := Tryz.isAgg120
  z41 := Tryz.sizeOf120
  v41 := Tryz.zeroValue120
  t44 := Tryz.underlying152
  a44 := Tryz.isAgg152
  z44 := Tryz.sizeOf152
  v44 := Tryz.zeroValue152
  t46 := Tryz.underlying154
  a46 := Tryz.isAgg154
  z46 := Tryz.sizeOf154
  v46 := Tryz.zeroValue154
  t53 := Tryz.underlying163
  a53 := Tryz.isAgg163
  z53 := Tryz.sizeOf163
  v53 := Tryz.zeroValue163
  t57 := Tryz.underlying167
  a57 := Tryz.isAgg167
  z57 := Tryz.sizeOf167
  v57 := Tryz.zeroValue167
  t63 := Tryz.underlying176
  a63 := Tryz.isAgg176
  z63 := Tryz.sizeOf176
  v63 := Tryz.zeroValue176
  t64 := Tryz.underlying177
  a64 := Tryz.isAgg177
  z64 := Tryz.sizeOf177
  v64 := Tryz.zeroValue177 }
set_option maxHeartbeats 1000000 in
open Go.RowKit Go.Maps Go.Sort in
theorem Tryz.sorts31 (m : Nat) : AnyZ.SortsIn Tryz.prog Tryz.sorted31_ren Fence.wide m :=
  ⟨fun blk off cap ss W hH hblk hsz => callsIn_wide.2 (AnyM.slices_Sort_string Tryz.sort60 blk off cap ss W hH hblk hsz),
   fun p cap W => callsIn_wide.2 (AnyM.slices_Sort_string_none Tryz.sort60 p cap W)⟩
set_option maxHeartbeats 1000000 in
open Go.RowKit Go.Maps Go.Sort in
theorem Tryz.maps_Keys_32 (mb : Option Nat) (W : World) : CallsIn Fence.wide 5 Tryz.prog 32 #[.map mb] W fun e w' => e = .returned (.func (.func 61) #[] #[.pointer (some ⟨W.heap.size, 0, none⟩)]) ∧ w' = W.alloc (.cells #[.map mb] 49) :=
  AnyZ.keys_in Tryz.keys32 Fence.wide 5 trivial rfl mb W
set_option maxHeartbeats 1000000 in
open Go.RowKit Go.Maps Go.Sort in
theorem Tryz.slices_Sorted_keys_31_32 {H : Type} (b nn : Nat) (D0 : DataW H) (R : Value → Option (DataW H × List MemPlace)) (w : World) (hown : w.ownsMap Tryz.prog 9 R b nn D0) (hmax : Maps.size D0 ≤ maxLen) (hbytes : Maps.size D0 * 16 ≤ 140737488355328) :
    CallsIn Fence.wide 5 Tryz.prog 31 #[.func (.func 61) #[] #[.pointer (some ⟨w.heap.size, 0, none⟩)]] (w.alloc (.cells #[.map (some b)] 49)) fun e w' => ∃ (v : Value) (ss : List (List UInt8)), e = .returned v ∧ ss.Perm (strKeys D0) ∧
      w'.ownsRow (w.alloc (.cells #[.map (some b)] 49)).heap.size 9 1 v ss.length ((ss.mergeSort (fun x y => decide (x ≤ y))).map encStr) ∧ (v = .slice none 0 0 ↔ ss = []) ∧ Below (w.alloc (.cells #[.map (some b)] 49)).heap.size (w.alloc (.cells #[.map (some b)] 49)) w' := by
  have hbl := hown.lt
  have hseq : SeqGives Fence.wide 2 Tryz.prog 61 #[.pointer (some ⟨w.heap.size, 0, none⟩)] encStr (fun ss => ss.Perm (strKeys D0)) (Maps.size D0) (w.alloc (.cells #[.map (some b)] 49)) :=
    AnyZ.keys_gives (ρ := Tryz.keys32_ren) { Tryz.keys32 with } Fence.wide _ trivial rfl (by omega) w.heap.size b nn D0 _ (by simp) (by simp) (by
      obtain ⟨es, clock, hb, Ft, hs, hD⟩ := hown
      exact ⟨es, clock, (Below.heap_alloc _ _ b hbl).trans hb, Ft, hs, hD⟩)
  exact AnyZ.sorted_in Tryz.sorted31 Fence.wide 5 trivial trivial trivial trivial rfl (by omega) (Tryz.sorts31 _) (enters_of Tryz.func60 (by kernel_rfl) rfl) 61 #[.pointer (some ⟨w.heap.size, 0, none⟩)] trivial (enters_of Tryz.func61 (by kernel_rfl) rfl) _ _ hmax hbytes _ hseq
set_option maxHeartbeats 1000000 in
open Go.RowKit Go.Maps Go.Sort in
theorem Tryz.slices_Sorted_keys_nil_31_32 (w : World) :
    CallsIn Fence.wide 5 Tryz.prog 31 #[.func (.func 61) #[] #[.pointer (some ⟨w.heap.size, 0, none⟩)]] (w.alloc (.cells #[.map none] 49)) fun e w' => ∃ (v : Value) (ss : List (List UInt8)), e = .returned v ∧ ss = [] ∧
      w'.ownsRow (w.alloc (.cells #[.map none] 49)).heap.size 9 1 v ss.length ((ss.mergeSort (fun x y => decide (x ≤ y))).map encStr) ∧ (v = .slice none 0 0 ↔ ss = []) ∧ Below (w.alloc (.cells #[.map none] 49)).heap.size (w.alloc (.cells #[.map none] 49)) w' := by
  have hseq : SeqGives Fence.wide 2 Tryz.prog 61 #[.pointer (some ⟨w.heap.size, 0, none⟩)] encStr (fun ss : List (List UInt8) => ss = []) 0 (w.alloc (.cells #[.map none] 49)) :=
    AnyZ.keys_gives_nil (ρ := Tryz.keys32_ren) { Tryz.keys32 with } Fence.wide _ trivial rfl w.heap.size _ (by simp) (by simp)
  exact AnyZ.sorted_in Tryz.sorted31 Fence.wide 5 trivial trivial trivial trivial rfl (by omega) (Tryz.sorts31 _) (enters_of Tryz.func60 (by kernel_rfl) rfl) 61 #[.pointer (some ⟨w.heap.size, 0, none⟩)] trivial (enters_of Tryz.func61 (by kernel_rfl) rfl) _ 0 (Nat.zero_le _) (by omega) _ hseq
end Go.Proofs
namespace Go.Proofs.YtcpakaiblelmlaaGreatDoor
open Go Go.RowKit
/-- A reading of a map's values that looks at none. -/
def blindR : Value → Option (DataW Unit × List MemPlace) := fun _ => some (.nil, [])
theorem keyOf_string {P : Program} {k : TypeId} (hk : P.underlying k = some .string) (s : ByteArray) (hs : s.size ≤ maxLen) : keyOf P k (.string s) = some (.string (bytesL s)) := by
  simp [keyOf, hk, mapKey, bytesL, hs]
theorem Mp.owns {P : Program} {k : TypeId} (hk : P.underlying k = some .string) {w : World} {g : Nat} {m : List (ByteArray × Value)} (h : Mp w Value.string g m) (hs : ∀ p ∈ m, p.1.size ≤ maxLen) (hm : m.length ≤ maxLen) :
    ∃ es : List (Lit × DataW Unit), w.ownsMap P k blindR g m.length (.map es) ∧ es.length = m.length ∧ (strKeys (.map es)).Perm ((m.map (·.1)).map bytesL) := by
  obtain ⟨es, clock, hb, he, hst⟩ := h
  have hl : es.toList.length = m.length := by have := congrArg List.length he; simpa using this
  have hkey : ∀ x ∈ es.toList, ∃ p ∈ m, x.key = .string p.1 := fun x hx => by
    have h1 : (x.key, x.val) ∈ es.toList.map fun e => (e.key, e.val) := List.mem_map.2 ⟨x, hx, rfl⟩
    rw [he] at h1
    obtain ⟨p, hp, e⟩ := List.mem_map.1 h1
    injection e with e1 _
    exact ⟨p, hp, e1.symm⟩
  have hrd : ∀ x ∈ es.toList, ∀ s : ByteArray, x.key = .string s → s.size ≤ maxLen → WideElems.rd P k blindR x = some (.string (bytesL s), .nil) := fun x _ s e hz => by
    simp [WideElems.rd, e, keyOf_string hk s hz, blindR]
  have hF : WideElems.Fit P k blindR es clock := ⟨by rw [← Array.length_toList, hl]; exact hm, hst, fun x hx => by
    obtain ⟨p, hp, e⟩ := hkey x hx
    exact ⟨_, hrd x hx p.1 e (hs p hp)⟩⟩
  refine ⟨(es.toList.map (WideElems.rg P k blindR)).foldr DataW.insert [], ⟨es, clock, hb, hF, by rw [← Array.length_toList, hl]; exact Nat.le_refl _, rfl⟩, ?_, ?_⟩
  · rw [List.Perm.length_eq (WideShapes.sorted_perm _), List.length_map, hl]
  · show (((es.toList.map (WideElems.rg P k blindR)).foldr DataW.insert []).map fun p => strOf p.1).Perm _
    refine ((WideShapes.sorted_perm _).map _).trans ?_
    rw [List.map_map]
    have : es.toList.map ((fun p : Lit × DataW Unit => strOf p.1) ∘ WideElems.rg P k blindR) = (m.map (·.1)).map bytesL := by
      rw [List.map_map]
      have h2 : es.toList.map (fun e => (e.key, e.val)) = m.map (fun p => (Value.string p.1, p.2)) := he
      clear he hl hkey hrd hF hb hst
      generalize es.toList = L at *
      induction L generalizing m with
      | nil => cases m with
        | nil => rfl
        | cons p m => cases h2
      | cons x L ih => cases m with
        | nil => cases h2
        | cons p m =>
          simp only [List.map_cons, List.cons.injEq, Prod.mk.injEq] at h2
          rw [List.map_cons, List.map_cons, ih (fun q hq => hs q (List.mem_cons_of_mem _ hq)) (by simp at hm ⊢; omega) h2.2]
          congr 1
          show strOf (WideElems.rg P k blindR x).1 = bytesL p.1
          have h3 : WideElems.rd P k blindR x = some (.string (bytesL p.1), .nil) := by
            simp [WideElems.rd, h2.1.1, keyOf_string hk p.1 (hs p (List.mem_cons_self ..)), blindR]
          unfold WideElems.rg
          rw [h3]
          rfl
    rw [this]
end Go.Proofs.YtcpakaiblelmlaaGreatDoor
namespace Go.Proofs.YtcpakaiblelmlaaGreatDoor
open Go Go.RowKit
theorem keysOf_any (g : Nat) (W : World) : Calls Tryz.prog 32 #[.map (some g)] W fun e w' => e = .returned (.func (.func 61) #[] #[.pointer (some ⟨W.heap.size, 0, none⟩)]) ∧ w' = W.alloc (.cells #[.map (some g)] 49) :=
  callsIn_wide.1 (Tryz.maps_Keys_32 (some g) W)
theorem sortedOf_any (g : Nat) (W : World) (m : List (ByteArray × Value)) (l : List ByteArray) (h : Mp W Value.string g m) (hn : (m.map (·.1)).Nodup) (hl : ∀ x, x ∈ m.map (·.1) ↔ x ∈ l) (hs : ∀ p ∈ m, p.1.size ≤ maxLen) (hm : m.length ≤ 1000000) :
    Calls Tryz.prog 31 #[.func (.func 61) #[] #[.pointer (some ⟨W.heap.size, 0, none⟩)]] (W.alloc (.cells #[.map (some g)] 49)) fun e w' => ∃ v, e = .returned v ∧ w'.ownsRow (W.heap.size + 1) 9 1 v (sortD l).length ((sortD l).map Value.string) ∧ Below W.heap.size W w' := by
  obtain ⟨es, ho, hlen, hp⟩ := h.owns (P := Tryz.prog) Tryz.underlying9 hs (by unfold maxLen; omega)
  have hz : Maps.size (DataW.map es : DataW Unit) = m.length := hlen
  refine (callsIn_wide.1 (Tryz.slices_Sorted_keys_31_32 g m.length (.map es) blindR W ho (by rw [hz]; unfold maxLen; omega) (by rw [hz]; omega))).mono ?_
  rintro e w' ⟨v, ss, rfl, hS, hrow, _, hb⟩
  have h1 : ss.Perm ((m.map (·.1)).map bytesL) := hS.trans hp
  have h2 : (ss.mergeSort fun x y => decide (x ≤ y)).map encStr = (sortD l).map Value.string := by
    rw [← sortD_of hn hl, ← mergeSort_of_perm h1, List.map_map]
    rfl
  have h3 : ss.length = (sortD l).length := by
    have := congrArg List.length h2
    simpa using this
  rw [h2, h3, World.size_alloc] at hrow
  exact ⟨v, rfl, hrow, ((Below.refl _ _).alloc (Nat.le_refl _) _).trans (hb.mono (by simp))⟩
end Go.Proofs.YtcpakaiblelmlaaGreatDoor
namespace Go.Proofs.YtcpakaiblelmlaaGreatDoor
open Go Go.RowKit
/-- What is known of the names found, and of those still to be looked at, while x is. -/
structure Wl (c : List Kd) (kind : ByteArray) (x : Option ByteArray) (K T : List ByteArray) : Prop where
  nd : K.Nodup
  ins : ∀ y ∈ K, y ∈ insL c kind
  todo : ∀ y ∈ T, y = kind ∨ y ∈ K
  cur : ∀ y, x = some y → y = kind ∨ y ∈ K
  done : ∀ y, (y = kind ∨ y ∈ K) → y ∉ T → x ≠ some y → ∀ z ∈ dirL c y, z ∈ K
theorem Wl.start (c : List Kd) (kind : ByteArray) : Wl c kind none [] [kind] :=
  ⟨List.nodup_nil, fun y hy => (by cases hy), fun y hy => .inl (List.mem_singleton.1 hy), fun y hy => (by cases hy), fun y hy hn _ => (hy.elim (fun e => absurd (List.mem_singleton.2 e) hn) (fun h => (by cases h)))⟩
theorem Wl.pop {c : List Kd} {kind x : ByteArray} {K T : List ByteArray} (h : Wl c kind none K (x :: T)) : Wl c kind (some x) K T :=
  ⟨h.nd, h.ins, fun y hy => h.todo y (List.mem_cons_of_mem _ hy), fun y hy => (by injection hy with hy; subst hy; exact h.todo _ (List.mem_cons_self ..)),
    fun y hy hn hx => h.done y hy (fun hm => by
      rcases List.mem_cons.1 hm with rfl | hm
      · exact hx rfl
      · exact hn hm) (fun e => (by cases e))⟩
theorem Wl.add {c : List Kd} (hc : catB c = true) {kind x z : ByteArray} {K T : List ByteArray} (h : Wl c kind (some x) K T) (hz : z ∈ dirL c x) (hn : z ∉ K) : Wl c kind (some x) (K ++ [z]) (T ++ [z]) := by
  have hin : z ∈ insL c kind := by
    rcases h.cur x rfl with rfl | hx
    · exact ins_dir hc hz
    · exact ins_closed hc (h.ins x hx) hz
  refine ⟨?_, fun y hy => ?_, fun y hy => ?_, fun y hy => ?_, fun y hy ht hx w hw => ?_⟩
  · refine List.nodup_append.2 ⟨h.nd, by simp, fun a ha b hb e => ?_⟩
    rw [List.mem_singleton] at hb
    subst hb
    subst e
    exact hn ha
  · rcases List.mem_append.1 hy with hy | hy
    · exact h.ins y hy
    · rw [List.mem_singleton] at hy; subst hy; exact hin
  · rcases List.mem_append.1 hy with hy | hy
    · exact (h.todo y hy).imp id fun h => List.mem_append_left _ h
    · exact .inr (List.mem_append_right _ hy)
  · exact (h.cur y hy).imp id fun h => List.mem_append_left _ h
  · have hyT : y ∉ T := fun hm => ht (List.mem_append_left _ hm)
    have hyz : y ≠ z := fun e => ht (by subst e; exact List.mem_append_right _ (List.mem_singleton.2 rfl))
    refine List.mem_append_left _ (h.done y ?_ hyT hx w hw)
    rcases hy with hy | hy
    · exact .inl hy
    · rcases List.mem_append.1 hy with hy | hy
      · exact .inr hy
      · exact absurd (List.mem_singleton.1 hy) hyz
theorem Wl.leave {c : List Kd} {kind x : ByteArray} {K T : List ByteArray} (h : Wl c kind (some x) K T) (hx : ∀ z ∈ dirL c x, z ∈ K) : Wl c kind none K T :=
  ⟨h.nd, h.ins, h.todo, fun y hy => (by cases hy), fun y hy hn _ => (by
    by_cases e : y = x
    · subst e; exact hx
    · exact h.done y hy hn (fun e' => e (by injection e' with e'; exact e'.symm)))⟩
theorem Wl.all {c : List Kd} {kind : ByteArray} {K : List ByteArray} (h : Wl c kind none K []) : ∀ x, x ∈ K ↔ x ∈ insL c kind := fun x =>
  ⟨h.ins x, fun hx => ins_least (c := c) (S := fun y => y ∈ K) (c.length + 1) kind (h.done kind (.inl rfl) (by simp) (fun e => (by cases e))) (fun y hy => h.done y (.inr hy) (by simp) (fun e => (by cases e))) x hx⟩
theorem nodup_len : ∀ {l k : List ByteArray}, l.Nodup → (∀ x ∈ l, x ∈ k) → l.length ≤ k.length
  | [], _, _, _ => Nat.zero_le _
  | x :: l, k, hn, hs => by
    rw [List.nodup_cons] at hn
    have hx := hs x (List.mem_cons_self ..)
    have := nodup_len (l := l) (k := k.eraseP (fun y => decide (y = x))) hn.2 fun y hy => (List.mem_eraseP_of_neg (by simp; exact fun e => hn.1 (by subst e; exact hy))).2 (hs y (List.mem_cons_of_mem _ hy))
    rw [List.length_eraseP_of_mem hx (by simp)] at this
    have := List.length_pos_of_mem hx
    rw [List.length_cons]
    omega
theorem ins_name {c : List Kd} (hc : catB c = true) {x y : ByteArray} (hy : y ∈ insL c x) : y ∈ c.map Kd.name := by
  obtain ⟨k, hk, _⟩ := ins_found hc _ x y hy
  obtain ⟨h1, h2, h3⟩ := kfind_at hk
  rw [List.getD_eq_getElem?_getD, List.getElem?_eq_getElem h1] at h2
  have h2 : c[kix c y] = k := h2
  refine List.mem_map.2 ⟨k, ?_, h3⟩
  rw [← h2]
  exact List.getElem_mem h1
theorem Wl.len {c : List Kd} (hc : catB c = true) {kind : ByteArray} {x : Option ByteArray} {K T : List ByteArray} (h : Wl c kind x K T) : K.length ≤ c.length := by
  have := nodup_len h.nd (fun y hy => ins_name hc (h.ins y hy))
  rwa [List.length_map] at this
end Go.Proofs.YtcpakaiblelmlaaGreatDoor
namespace Go.Proofs.YtcpakaiblelmlaaGreatDoor
open Go Go.RowKit
/-- A slice that lies somewhere in a row of the call's own. -/
def Qr (w : World) (base : Nat) (e : TypeId) (v : Value) (xs : List Value) : Prop :=
  ∃ g o cap cur, v = .slice (some ⟨g, o, none⟩) xs.length cap ∧ base ≤ g ∧ w.heap[g]? = some (.cells cur e (0, 0)) ∧ o + cap ≤ cur.size ∧ xs.length ≤ cap ∧ cap ≤ maxLen ∧ ∀ j, j < xs.length → cur[o + j]? = xs[j]?
theorem Qr.below {w w' : World} {base : Nat} {e : TypeId} {v : Value} {xs : List Value} (h : Qr w base e v xs) (hb : Below w.heap.size w w') : Qr w' base e v xs := by
  obtain ⟨g, o, cap, cur, e1, h1, h2, h3⟩ := h
  have hg : g < w.heap.size := by
    rcases Nat.lt_or_ge g w.heap.size with h | h
    · exact h
    · rw [Array.getElem?_eq_none h] at h2; cases h2
  exact ⟨g, o, cap, cur, e1, h1, (hb.block g hg).trans h2, h3⟩
theorem Qr.new (w : World) (e : TypeId) (x : Value) : Qr (w.alloc (.cells #[x] e)) w.heap.size e (.slice (some ⟨w.heap.size, 0, none⟩) 1 1) [x] :=
  ⟨w.heap.size, 0, 1, #[x], rfl, Nat.le_refl _, heap_alloc_new w _, Nat.le_refl _, Nat.le_refl _, by decide, fun j hj => by
    obtain rfl : j = 0 := by have h1 : j < 1 := hj; omega
    rfl⟩
/-- The first element, and the slice behind it. -/
theorem Qr.head {w : World} {base : Nat} {e : TypeId} {v x : Value} {xs : List Value} (h : Qr w base e v (x :: xs)) : ∃ g o cap, v = .slice (some ⟨g, o, none⟩) (xs.length + 1) cap ∧ base ≤ g ∧ xs.length + 1 ≤ cap ∧ cap ≤ maxLen ∧ w.cell? ⟨g, o, none⟩ = some x ∧
    ∀ W, Below w.heap.size w W → (Qr W base e (.slice (some ⟨g, o + 1, none⟩) xs.length (cap - 1)) xs ∧ (cap = 1 → xs = [] ∧ Qr W base e (.slice (some ⟨g, o, none⟩) 0 0) xs)) := by
  obtain ⟨g, o, cap, cur, e1, h1, h2, h3, h4, h5, h6⟩ := h
  rw [List.length_cons] at h4 h6 e1
  have h0 := h6 0 (by omega)
  have hg : g < w.heap.size := by
    rcases Nat.lt_or_ge g w.heap.size with h | h
    · exact h
    · rw [Array.getElem?_eq_none h] at h2; cases h2
  refine ⟨g, o, cap, e1, h1, h4, h5, ?_, fun W hb => ⟨⟨g, o + 1, cap - 1, cur, rfl, h1, (hb.block g hg).trans h2, by omega, by omega, by omega, fun j hj => ?_⟩, fun hc => ?_⟩⟩
  · rw [cell_of_row w g o cur e (0, 0) h2]
    exact h0
  · have := h6 (j + 1) (by omega)
    rw [show o + 1 + j = o + (j + 1) by omega, this]
    rfl
  · have hx : xs = [] := List.eq_nil_of_length_eq_zero (by omega)
    subst hx
    exact ⟨rfl, g, o, 0, cur, rfl, h1, (hb.block g hg).trans h2, by omega, Nat.le_refl _, by decide, fun j hj => absurd hj (Nat.not_lt_zero _)⟩
section
variable {P : Program}
/-- append of one element. -/
theorem run_append_qr {w : World} {base : Nat} {t ty e : TypeId} {i : TypeInfo} {z : Value} {bytes : Nat} (ht : P.underlying t = some (.slice e)) (hi : P.info? e = some i) (hz : i.zero = some z) (hsize : i.size = 1) (hby : i.bytes = bytes) (hzs : z.cells.size = 1)
    {v : Value} {xs : List Value} (hq : Qr w base e v xs) (a : Addr) (c : Nat) (x : Value) (hx : w.cell? a = some x) (h1 : x.oneCell' = true) (h63 : xs.length + 1 ≤ maxLen) (hbytes : (xs.length + 1) * bytes ≤ 140737488355328) (hbase : base ≤ w.heap.size) :
    ∃ v' w', (Builtin.append_ #[t, t] ty #[v, .slice (some a) 1 c]).run P w = .ok v' w' ∧ Qr w' base e v' (xs ++ [x]) ∧ (∀ g o cap, v = .slice (some ⟨g, o, none⟩) xs.length cap → w.grownBy w' (some g)) := by
  obtain ⟨g, o, cap, cur, rfl, hbg, hg, hcs, hnc, hcm, hcur⟩ := hq
  have hlt : g < w.heap.size := by
    rcases Nat.lt_or_ge g w.heap.size with h | h
    · exact h
    · rw [Array.getElem?_eq_none h] at hg; cases hg
  have hnews : ∀ j u, [x][j]? = some u → w.cell? (a.add j) = some u := fun j u hu => by
    rcases j with _ | j
    · injection hu with hu
      subst hu
      rw [show a.add 0 = a by cases a with | mk b o p => show Addr.mk b (o + 0) p = _; rfl]
      exact hx
    · cases hu
  by_cases hroom : xs.length + 1 ≤ cap
  · have hs : Src P i.size t (.slice (some a) 1 c) 1 [x] w := by
      refine Src.ofSlice w ht a 1 c [x] (by rw [hsize]; rfl) hnews fun u hu => ?_
      rw [List.mem_singleton] at hu
      exact hu ▸ h1
    have hr := run_append_room_src (P := P) w t t ty e i ht hi g o xs.length cap (.slice (some a) 1 c) 1 [x] hs hroom
      (fun j hj => by
        obtain rfl : j = 0 := by have h1 : j < 1 := hj; omega
        rw [hsize, cell_of_row w g _ cur e (0, 0) hg, Array.getElem?_eq_getElem (by omega)]; rfl)
      (fun j hj => by
        obtain rfl : j = 0 := by have h1 : j < 1 := hj; omega
        exact frozen_of_row w g _ cur e hg)
    rw [hsize, Nat.mul_one] at hr
    have hw : w.setCells g (o + xs.length) [x] = w.setCell ⟨g, o + xs.length, none⟩ x := rfl
    refine ⟨_, _, hr, ⟨g, o, cap, cur.setIfInBounds (o + xs.length) x, by rw [List.length_append]; rfl, hbg, ?_, by rw [Array.size_setIfInBounds]; exact hcs, by rw [List.length_append]; exact hroom, hcm, fun j hj => ?_⟩, fun g' o' cap' e' => ?_⟩
    · rw [hw]; exact heap_setCell_same w g (o + xs.length) cur e x hg
    · rw [List.length_append, List.length_singleton] at hj
      by_cases hjn : j = xs.length
      · subst hjn
        rw [Array.getElem?_setIfInBounds_self_of_lt (by omega), List.getElem?_append_right (Nat.le_refl _), Nat.sub_self]
        rfl
      · rw [Array.getElem?_setIfInBounds_ne (by omega), hcur j (by omega), List.getElem?_append_left (by omega)]
    · injection e' with e1 _ _
      injection e1 with e1
      injection e1 with e1 _ _
      subst e1
      rw [hw]
      exact ⟨rfl, rfl, rfl, Nat.le_of_eq (World.size_setCell ..).symm, fun k _ hk => heap_setCell_other w ⟨g, o + xs.length, none⟩ k x (fun e => hk (by rw [show k = g from e]))⟩
  · have hr := run_append_grow (P := P) w t ty e i z ht hi hz ⟨g, o, none⟩ xs.length cap xs (by rw [hsize, Nat.mul_one])
      (fun j u hu => by
        have hj : j < xs.length := by
          rcases Nat.lt_or_ge j xs.length with h | h
          · exact h
          · rw [List.getElem?_eq_none h] at hu; cases hu
        rw [Addr.add_mid, cell_of_row w g _ cur e (0, 0) hg, hcur j hj]
        exact hu)
      a 1 c [x] (by rw [hsize]; rfl) hnews (by omega) (by unfold maxLen at h63; omega) (growslice_fits (by omega) (by rw [hby]; exact hbytes))
    have hge := grownCap_ge w (xs.length + 1) cap e
    have hcm2 : grownCap w (xs.length + 1) cap e ≤ maxLen := grownCap_le_maxLen w (xs.length + 1) cap e h63
    refine ⟨_, _, hr, ⟨w.heap.size, 0, grownCap w (xs.length + 1) cap e, _, by rw [List.length_append]; rfl, hbase, heap_alloc_new w.drew _, ?_, by rw [List.length_append]; exact hge, hcm2, fun j hj => ?_⟩, fun g' o' cap' _ => ⟨rfl, rfl, rfl, by simp, fun k hk _ => Below.heap_alloc w.drew _ k hk⟩⟩
    · simp only [Array.size_append, List.size_toArray, size_zeroCells, hzs, List.length_singleton]
      omega
    · rw [List.length_append, List.length_singleton] at hj
      rw [Nat.zero_add, Array.getElem?_append_left (by simp; omega)]
      simp
/-- The law at the operation. -/
theorem wpList_qr {w : World} {ops : Array Oper} {rest : List Oper} {o : Oper} {a : Act} {Q : Exit → Act → World → Prop} (hw : Region.wanted o (yielded ops a.tmps) = true) (s x : Operand) (t : TypeId)
    (ho : o.op = .call { callee := .builtin .append, args := #[s, x], argTypes := #[t, t] })
    (base : Nat) (e : TypeId) (i : TypeInfo) (z : Value) (bytes : Nat) (ht : P.underlying t = some (.slice e)) (hi : P.info? e = some i) (hz : i.zero = some z)
    (hsize : i.size = 1) (hby : i.bytes = bytes) (hzs : z.cells.size = 1)
    (v : Value) (xs : List Value) (hs : a.eval s = v) (hq : Qr w base e v xs)
    (ad : Addr) (c : Nat) (u : Value) (hx : a.eval x = .slice (some ad) 1 c) (hu : w.cell? ad = some u) (h1 : u.oneCell' = true) (h63 : xs.length + 1 ≤ maxLen) (hbytes : (xs.length + 1) * bytes ≤ 140737488355328) (hbase : base ≤ w.heap.size)
    (h : ∀ v' w', Qr w' base e v' (xs ++ [u]) → Below base w w' → wpList P ops Q rest (a.put o.dst v') w') : wpList P ops Q (o :: rest) a w := by
  refine BigFrame.wpList_want hw fun K hK => ?_
  obtain ⟨v', w', hr, h2, h3⟩ := run_append_qr (P := P) (ty := o.type) ht hi hz hsize hby hzs hq ad c u hu h1 h63 hbytes hbase
  unfold Oper.wp execOp
  simp only [ho, resolve, invoke, builtin, Sem.run_bind, Sem.run_pure, Result.andThen_ok, List.map_toArray, List.map_cons, List.map_nil, hs, hx, hr]
  refine hK _ _ (h v' w' h2 ?_)
  obtain ⟨g, o', cap, cur, e1, h4, _⟩ := hq
  have hg := h3 g o' cap e1
  exact ⟨hg.os, hg.tape, hg.output, hg.size, fun k hk => hg.block k (by omega) (fun e => by injection e with e; omega)⟩
end
end Go.Proofs.YtcpakaiblelmlaaGreatDoor
namespace Go.Proofs.YtcpakaiblelmlaaGreatDoor
open Go Go.RowKit
abbrev keysL (m : List (ByteArray × Value)) : List ByteArray := m.map (·.1)
structure KiW (w0 w : World) (cv : Value) (g : Nat) (q : Value) (T : List ByteArray) (m : List (ByteArray × Value)) (W : World) : Prop where
  box : Has W w.heap.size 24 #[cv]
  mp : Mp W Value.string g m
  q : Qr W (g + 1) 9 q (T.map Value.string)
  b : Below w.heap.size w W
  hg : w.heap.size < g
  tr : ∀ p ∈ m, p.2 = .bool true
  sh : ∀ p ∈ m, p.1.size ≤ maxLen
section
variable {w0 w W W' : World} {cv q q' : Value} {g : Nat} {T T' : List ByteArray} {m : List (ByteArray × Value)}
theorem KiW.below (h : KiW w0 w cv g q T m W) (hb : Below W.heap.size W W') : KiW w0 w cv g q T m W' :=
  ⟨h.box.below hb h.box.lt, h.mp.below hb h.mp.lt, h.q.below hb, h.b.trans (hb.mono h.b.size), h.hg, h.tr, h.sh⟩
theorem KiW.push (h : KiW w0 w cv g q T m W) (hb : Below (g + 1) W W') (hq : Qr W' (g + 1) 9 q' (T'.map Value.string)) : KiW w0 w cv g q' T' m W' :=
  ⟨h.box.below hb (by have := h.hg; omega), h.mp.below hb (Nat.lt_succ_self _), hq, h.b.trans (hb.mono (by have := h.hg; omega)), h.hg, h.tr, h.sh⟩
theorem mget_key {x : ByteArray} (hm : ∀ p ∈ m, p.2 = .bool true) : mget m x = if inS (keysL m) x then some (.bool true) else none := by
  unfold mget inS keysL
  cases hq : m.find? (fun p => decide (p.1 = x)) with
  | none =>
    rw [if_neg]
    · rfl
    · rw [List.find?_eq_none] at hq
      simp only [List.any_map, List.any_eq_true, not_exists, not_and]
      exact fun p hp => hq p hp
  | some p =>
    have h1 := List.mem_of_find?_eq_some hq
    have h2 := List.find?_some hq
    rw [if_pos]
    · show some p.2 = _
      rw [hm p h1]
    · simp only [List.any_map, List.any_eq_true]
      exact ⟨p, h1, h2⟩
theorem mput_new {x : ByteArray} {v : Value} (hn : inS (keysL m) x = false) : mput m x v = m ++ [(x, v)] := by
  unfold mput
  have : m.findIdx? (fun p => decide (p.1 = x)) = none := by
    rw [List.findIdx?_eq_none_iff]
    intro p hp
    unfold inS keysL at hn
    rw [List.any_map, List.any_eq_false] at hn
    have := hn p hp
    simpa using this
  rw [this]
theorem KiW.put (h : KiW w0 w cv g q T m W) {x : ByteArray} (hx : x.size ≤ maxLen) (hm : Mp W' Value.string g (m ++ [(x, .bool true)])) (hgr : W.grownBy W' (some g)) (hz : W'.heap.size = W.heap.size) : KiW w0 w cv g q T (m ++ [(x, .bool true)]) W' := by
  have hgl := h.mp.lt
  have hq : ∀ k, k < W.heap.size → k ≠ g → W'.heap[k]? = W.heap[k]? := fun k hk hne => hgr.block k hk (fun e => hne (by injection e))
  refine ⟨(hq _ h.box.lt (by have := h.hg; omega)).trans h.box, hm, ?_, ⟨hgr.os.trans h.b.os, hgr.tape.trans h.b.tape, hgr.output.trans h.b.output, Nat.le_trans h.b.size (Nat.le_of_eq hz.symm), fun k hk => (hq k (Nat.lt_of_lt_of_le hk h.b.size) (by have := h.hg; omega)).trans (h.b.block k hk)⟩, h.hg, fun p hp => ?_, fun p hp => ?_⟩
  · obtain ⟨g', o, cap, cur, e1, h1, h2, h3⟩ := h.q
    refine ⟨g', o, cap, cur, e1, h1, ?_, h3⟩
    have hlt : g' < W.heap.size := by
      rcases Nat.lt_or_ge g' W.heap.size with h | h
      · exact h
      · rw [Array.getElem?_eq_none h] at h2; cases h2
    exact (hq g' hlt (by omega)).trans h2
  · rcases List.mem_append.1 hp with hp | hp
    · exact h.tr p hp
    · rw [List.mem_singleton.1 hp]
  · rcases List.mem_append.1 hp with hp | hp
    · exact h.sh p hp
    · rw [List.mem_singleton.1 hp]; exact hx
/-- How many entries the map in a block has; how long a slice is. -/
def mapN (W : World) (g : Nat) : Nat := match W.heap[g]? with
  | some (.map es _) => es.size
  | _ => 0
def lenV : Value → Nat
  | .slice _ n _ => n
  | _ => 0
theorem Mp.count (h : Mp W Value.string g m) : mapN W g = m.length := by
  obtain ⟨es, clock, hb, he, _⟩ := h
  unfold mapN
  rw [hb]
  have := congrArg List.length he
  simpa using this
theorem Qr.len {base : Nat} {e : TypeId} {xs : List Value} (h : Qr W base e q xs) : lenV q = xs.length := by
  obtain ⟨g, o, cap, cur, rfl, _⟩ := h
  rfl
theorem Qr.nil {base : Nat} {e : TypeId} (h : Qr W base e q []) : ∃ A cap, q = .slice A 0 cap := by
  obtain ⟨g, o, cap, cur, rfl, _⟩ := h
  exact ⟨_, _, rfl⟩
theorem KiW.start (w0 w w1 : World) (cv : Value) (kind : ByteArray) (h1 : Has w1 w.heap.size 24 #[cv]) (hb : Below w.heap.size w w1) : KiW w0 w cv w1.heap.size (.slice (some ⟨w1.heap.size + 1, 0, none⟩) 1 1) [kind] [] ((w1.alloc (.map #[] 0)).alloc (.cells #[.string kind] 9)) := by
  have hz : (w1.alloc (.map #[] 0)).heap.size = w1.heap.size + 1 := World.size_alloc _ _
  have hq := Qr.new (w1.alloc (.map #[] 0)) 9 (.string kind)
  rw [hz] at hq
  exact ⟨(h1.alloc _).alloc _, (Mp.new w1 Value.string).alloc _, hq, (hb.alloc hb.size _).alloc (by have := hb.size; omega) _, h1.lt, fun p hp => (by cases hp), fun p hp => (by cases hp)⟩
theorem own_base {base base' : Nat} {e : TypeId} {size n : Nat} {v : Value} {xs : List Value} (h : W.ownsRow base e size v n xs) (hb : base' ≤ base) : W.ownsRow base' e size v n xs := by
  refine ⟨h.1, ?_⟩
  rcases h.2 with hn | ⟨g, cap, cur, hv, hbg, rest⟩
  · exact .inl hn
  · exact .inr ⟨g, cap, cur, hv, Nat.le_trans hb hbg, rest⟩
end
theorem infoStr : (Tryz.prog.info? 9).map (fun i => (i.zero, i.size, i.bytes)) = some (some (.string ⟨#[]⟩), 1, 16) := by kernel_rfl
theorem find_gen (w0 : World) (cv : Value) (c : List Kd) (x : ByteArray) (hcv : Cat w0 cv c) (hl : c.length ≤ 100000) : ∃ kn kb is, ∀ W, Below w0.heap.size w0 W →
    Calls Tryz.prog 14 #[.agg #[cv], .string x] W fun e w' => ∃ A m, e = .returned (.tuple #[.agg #[.string kn, .bool kb, .slice A (kSlots c x).length m], .bool is]) ∧ RdL 3 SkR w0 (.slice A (kSlots c x).length m) (kSlots c x) ∧ Below W.heap.size W w' :=
  ⟨_, _, _, fun W hb => find_any w0 cv c x W hb hcv hl⟩
end Go.Proofs.YtcpakaiblelmlaaGreatDoor
namespace Go.Proofs.YtcpakaiblelmlaaGreatDoor
open Go Go.RowKit
theorem share4 {A G : Option Addr → Nat → Nat → World → Prop} {p : Prop} (h1 : (∀ a b d V, A a b d V → G a b d V) → p) (h2 : ∀ a b d V, A a b d V → G a b d V) : p := h1 h2
theorem put3 {B b : Nat} {u W : World} {t : TypeId} {x y z : Value} (h : Below B u W) (hB : B ≤ b) (hh : Has W b t #[x, y, z]) (x' y' z' : Value) : Has (((W.setCell ⟨b, 0, none⟩ x').setCell ⟨b, 1, none⟩ y').setCell ⟨b, 2, none⟩ z') b t #[x', y', z'] ∧ Below B u (((W.setCell ⟨b, 0, none⟩ x').setCell ⟨b, 1, none⟩ y').setCell ⟨b, 2, none⟩ z') :=
  ⟨((hh.put 0 x').put 1 y').put 2 z', ((h.setCell (p := ⟨b, 0, none⟩) hB x').setCell (p := ⟨b, 1, none⟩) hB y').setCell (p := ⟨b, 2, none⟩) hB z'⟩
section
variable {w0 w : World} {cv : Value} {c : List Kd}
def KnR (w : World) (l : List ByteArray) (e : Ending) (w' : World) : Prop := ∃ v, e = .returned v ∧ w'.ownsRow w.heap.size 9 1 v l.length (l.map Value.string) ∧ Below w.heap.size w w'
set_option maxRecDepth 100000 in
set_option maxHeartbeats 8000000 in
theorem kinds_no (hb0 : Below w0.heap.size w0 w) (hcv : Cat w0 cv c) (hl : c.length ≤ 100000) (hsh : ∀ k ∈ c, k.short) (kind : ByteArray) (hc : catB c = false) : Calls Tryz.prog 12 #[.agg #[cv], .string kind] w (KnR w (kindsU c kind)) := by
  have HB0 := Lib.hid hb0
  have HCV := Lib.hid hcv
  have HL := Lib.hid hl
  have HSH := Lib.hid hsh
  have HC := Lib.hid hc
  have HX := Lib.hid ((Below.refl w.heap.size w).alloc (Nat.le_refl _) (.cells #[cv] 24))
  have HBX := Lib.hid (Has.new w 24 #[cv])
  have HU := Lib.hid (show kindsU c kind = [] by unfold kindsU; rw [hc]; rfl)
  clear hb0 hcv hl hsh hc
  go_enter Tryz.func12, Tryz.ntmps12
  go_wp2_with (go_at_call 10; refine (catValid_any w0 cv c _ (HB0.out.trans (HX.out.mono HB0.out.size)) HCV.out HL.out HSH.out).mono ?_; rintro e w1 ⟨rfl, hb⟩; (rw [HC.out]); have H1 := Lib.hid (HX.out.trans (hb.mono HX.out.size)); have HB1 := Lib.hid (HBX.out.below hb HBX.out.lt); clear hb)
  go_ret
  exact ⟨_, rfl, by rw [HU.out]; exact ⟨rfl, .inl ⟨rfl, rfl⟩⟩, H1.out⟩
set_option maxRecDepth 100000 in
set_option maxHeartbeats 8000000 in
theorem kinds_yes (hb0 : Below w0.heap.size w0 w) (hcv : Cat w0 cv c) (hl : c.length ≤ 100000) (hsh : ∀ k ∈ c, k.short) (kind : ByteArray) (hc : catB c = true) : Calls Tryz.prog 12 #[.agg #[cv], .string kind] w (KnR w (kindsU c kind)) := by
  have HB0 := Lib.hid hb0
  have HCV := Lib.hid hcv
  have HL := Lib.hid hl
  have HSH := Lib.hid hsh
  have HC := Lib.hid hc
  have HCT := Lib.hid hc
  have HC60 := Lib.hid (catB_len hc)
  have HX := Lib.hid ((Below.refl w.heap.size w).alloc (Nat.le_refl _) (.cells #[cv] 24))
  have HBX := Lib.hid (Has.new w 24 #[cv])
  have HU := Lib.hid (show kindsU c kind = sortD (insL c kind) by unfold kindsU; rw [hc]; rfl)
  have hmm := @run_makeMap Tryz.prog
  obtain ⟨i0, hi0, hz0, hz1, hz2⟩ := info_parts infoStr
  have HI := Lib.hid hi0
  have HZ := Lib.hid hz0
  clear hb0 hcv hl hsh hc hi0 hz0
  go_enter Tryz.func12, Tryz.ntmps12
  go_wp2_with (go_at_call 10; refine (catValid_any w0 cv c _ (HB0.out.trans (HX.out.mono HB0.out.size)) HCV.out HL.out HSH.out).mono ?_; rintro e w1 ⟨rfl, hb⟩; (rw [HC.out]); have H1 := Lib.hid (HX.out.trans (hb.mono HX.out.size)); have HB1 := Lib.hid (HBX.out.below hb HBX.out.lt); clear hb)
  have HS := Lib.hid (KiW.start w0 w w1 cv kind HB1.out H1.out)
  clear HC
  generalize ((w1.alloc (.map #[] 0)).alloc (.cells #[.string kind] 9)) = w2 at *
  generalize w1.heap.size = g at *
  go_loopw [6] (fun q wr => ∃ (T : List ByteArray) (m : List (ByteArray × Value)), Hid (Wl c kind none (keysL m) T) ∧ Hid (KiW w0 w cv g q T m wr) ∧ Hid (T.length ≤ m.length + 1)) (fun q wr => lenV q + 60 - mapN wr g)
  case atStart => exact ⟨[kind], [], Lib.hid (Wl.start c kind), HS, Lib.hid (Nat.le_refl _)⟩
  case round =>
    obtain ⟨T, m, HW, HK, HTM⟩ := hrel
    clear HS
    cases T with
    | nil =>
      obtain ⟨A, cap, rfl⟩ := HK.out.q.nil
      have HSO := Lib.hid (sortedOf_any g wr m (insL c kind) HK.out.mp HW.out.nd HW.out.all HK.out.sh (by have h1 := HW.out.len HCT.out; have h2 := HC60.out; simp only [List.length_map] at h1; omega))
      go_wp2_with (first
        | (go_at_call 32; refine (keysOf_any g wr).mono ?_; rintro e w5 ⟨rfl, rfl⟩)
        | (go_at_call 31; refine HSO.out.mono ?_; rintro e w6 ⟨v, rfl, hrow, hb⟩; have HR := Lib.hid (own_base hrow (Nat.le_succ_of_le HK.out.b.size)); have HBR := Lib.hid (HK.out.b.trans (hb.mono HK.out.b.size)); clear hrow hb))
      go_ret
      exact ⟨_, rfl, by rw [HU.out]; exact HR.out, HBR.out⟩
    | cons x T =>
      obtain ⟨b, o, cap, rfl, hbg, hcap, hcm, hcx, hpop⟩ := HK.out.q.head
      obtain ⟨kn, kb, is, hfd⟩ := find_gen w0 cv c x HCV.out HL.out
      have HFD := Lib.hid hfd
      have HPOP := Lib.hid hpop
      have HWp := Lib.hid HW.out.pop
      have HDL := Lib.hid (show dirL c x = (kSlots c x).flatMap Sk.kinds from rfl)
      have HSS := Lib.hid (show ∀ s ∈ kSlots c x, s.short from (kfind_short HSH.out x).2.2)
      have HSN := Lib.hid (show (kSlots c x).length ≤ 100000 from (kfind_short HSH.out x).2.1)
      have HDR := Lib.hid (fun (s : Sk) (hs : s ∈ kSlots c x) (y : ByteArray) (hy : y ∈ s.kinds) => (show y ∈ dirL c x from List.mem_flatMap.2 ⟨s, hs, hy⟩))
      have HB0w := Lib.hid (HB0.out.trans (HK.out.b.mono HB0.out.size))
      have HD1 := Lib.hid (show wr.cell? ⟨w.heap.size, 0, none⟩ = some cv from HK.out.box.cell 0)
      have HD2 := Lib.hid hcx
      have HTM2 := Lib.hid (show T.length ≤ m.length by have := HTM.out; simp only [List.length_cons] at this; omega)
      clear hfd hpop hcx
      generalize kSlots c x = S at *
      have hlp : (0 : Int) < (((T.map Value.string).length + 1 : Nat) : Int) := by omega
      have hlp2 : ((T.map Value.string).length + 1 : Nat) > 0 := Nat.succ_pos _
      go_wp2_with fail
      apply share4 (A := fun A2 c2 b4 V => Hid (RdL 3 SkR w0 (.slice A2 S.length c2) S) ∧ Hid (Has V b4 38 #[.string kn, .bool kb, .slice A2 S.length c2]) ∧ Hid (Below wr.heap.size wr V))
      case h1 =>
        intro REST
        refine wp_region_held_drew (S := fun W => W.cell? ⟨w.heap.size, 0, none⟩ = some cv ∧ W.cell? ⟨b, o, none⟩ = some (.string x)) (by kernel_rfl) (⟨cell_later ((Below.refl wr.heap.size wr).drew) HD1.out, cell_later ((Below.refl wr.heap.size wr).drew) HD2.out⟩) (fun hHeld => ?_)
        refine plI [(0, false), (1, false), (2, false), (3, false)] ?_
        repeat ((first | ((with_reducible show Plan ((_, true) :: _) _); refine plF ?_) | (refine plR (v := ?_) ?_ ?_; rotate_left; focus (intro W hSW; (try dsimp only at hSW); go_simp; all_goals (with_reducible rfl)))); try simp only [Act.put, List.setIfInBounds_toArray, List.set_cons_zero, List.set_cons_succ])
        refine plE ?_
        refine wpAnyH_ready (rs := [4, 8]) (by kernel_rfl) (by simp) ?_
        refine AllReadyH.cons (o := ⟨_, _, _, _, _, _⟩) rfl (fun K hK => ?_) ?_
        · go_simp
          go_at_call 14; refine (HFD.out _ (HB0w.out.trans (((Below.refl wr.heap.size wr).drew).mono HB0w.out.size))).mono ?_; rintro e u1 ⟨A2, c2, rfl, hrd, hb⟩; have HB4s := Lib.hid (((Below.refl wr.heap.size wr).drew).trans (hb.mono ((Below.refl wr.heap.size wr).drew).size)); have HRd := Lib.hid hrd
          clear hb hrd
          refine hK.out _ _ (⟨cell_later (HB4s.out) HD1.out, cell_later (HB4s.out) HD2.out⟩) (fun hHeld => ?_)
          clear hK K
          try simp only [Act.put, List.setIfInBounds_toArray, List.set_cons_zero, List.set_cons_succ]
          refine plI [(5, false), (6, false), (7, false)] ?_
          repeat ((first | ((with_reducible show Plan ((_, true) :: _) _); refine plF ?_) | (refine plR (v := ?_) ?_ ?_; rotate_left; focus (intro W hSW; (try dsimp only at hSW); go_simp; all_goals (with_reducible rfl)))); try simp only [Act.put, List.setIfInBounds_toArray, List.set_cons_zero, List.set_cons_succ])
          refine plE ?_
          refine wpAnyH_ready (rs := [8]) (by kernel_rfl) (by simp) ?_
          refine AllReadyH.cons (o := ⟨_, _, _, _, _, _⟩) rfl (fun K hK => ?_) AllReadyH.nil
          go_simp
          have HE8s := Lib.hid (show Has ((u1).alloc (.cells #[.string ⟨#[]⟩, .bool false, .slice none 0 0] 38)) u1.heap.size 38 #[.string ⟨#[]⟩, .bool false, .slice none 0 0] from Has.new (u1) 38 #[.string ⟨#[]⟩, .bool false, .slice none 0 0])
          have HB8s := Lib.hid ((HB4s.out).alloc (HB4s.out).size (.cells #[.string ⟨#[]⟩, .bool false, .slice none 0 0] 38))
          refine hK.out _ _ (⟨cell_later (HB8s.out) HD1.out, cell_later (HB8s.out) HD2.out⟩) (fun hHeld => ?_)
          clear hK K
          try simp only [Act.put, List.setIfInBounds_toArray, List.set_cons_zero, List.set_cons_succ]
          refine wpAnyH_ready (rs := [9]) (by kernel_rfl) (by simp) ?_
          refine AllReadyH.cons (o := ⟨_, _, _, _, _, _⟩) rfl (fun K hK => ?_) AllReadyH.nil
          obtain ⟨x7, y7⟩ := HE8s.out.facts
          go_simp
          have HEV := Lib.hid (Has.new u1 38 #[.string kn, .bool kb, .slice A2 S.length c2])
          have HBV := Lib.hid (HB4s.out.alloc HB4s.out.size (.cells #[.string kn, .bool kb, .slice A2 S.length c2] 38))
          refine hK.out _ _ (⟨cell_later (HBV.out) HD1.out, cell_later (HBV.out) HD2.out⟩) (fun hHeld => ?_)
          clear hK K
          try simp only [Act.put]
          refine plI [(10, false)] ?_
          repeat ((first | ((with_reducible show Plan ((_, true) :: _) _); refine plF ?_) | (refine plR (v := ?_) ?_ ?_; rotate_left; focus (intro W hSW; (try dsimp only at hSW); go_simp; all_goals (with_reducible rfl)))); try simp only [Act.put, List.setIfInBounds_toArray, List.set_cons_zero, List.set_cons_succ])
          refine plE ?_
          refine wpAnyH_done (by kernel_rfl) ?_ _
          clear hHeld x7 y7
          generalize u1.alloc (.cells #[.string kn, .bool kb, .slice A2 S.length c2] 38) = V at *
          generalize hbq : u1.heap.size = b4 at HEV ⊢
          exact REST A2 c2 b4 V ⟨HRd, HEV, HBV⟩
        refine AllReadyH.cons (o := ⟨_, _, _, _, _, _⟩) rfl (fun K hK => ?_) AllReadyH.nil
        go_simp
        have HE8s := Lib.hid (show Has ((wr.drew).alloc (.cells #[.string ⟨#[]⟩, .bool false, .slice none 0 0] 38)) wr.heap.size 38 #[.string ⟨#[]⟩, .bool false, .slice none 0 0] from Has.new (wr.drew) 38 #[.string ⟨#[]⟩, .bool false, .slice none 0 0])
        have HB8s := Lib.hid (((Below.refl wr.heap.size wr).drew).alloc ((Below.refl wr.heap.size wr).drew).size (.cells #[.string ⟨#[]⟩, .bool false, .slice none 0 0] 38))
        refine hK.out _ _ (⟨cell_later (HB8s.out) HD1.out, cell_later (HB8s.out) HD2.out⟩) (fun hHeld => ?_)
        clear hK K
        try simp only [Act.put, List.setIfInBounds_toArray, List.set_cons_zero, List.set_cons_succ]
        refine wpAnyH_ready (rs := [4]) (by kernel_rfl) (by simp) ?_
        refine AllReadyH.cons (o := ⟨_, _, _, _, _, _⟩) rfl (fun K hK => ?_) AllReadyH.nil
        go_simp
        go_at_call 14; refine (HFD.out _ (HB0w.out.trans ((HB8s.out).mono HB0w.out.size))).mono ?_; rintro e u1 ⟨A2, c2, rfl, hrd, hb⟩; have HB4s := Lib.hid ((HB8s.out).trans (hb.mono (HB8s.out).size)); have HRd := Lib.hid hrd
        have HE4s := Lib.hid (HE8s.out.below hb HE8s.out.lt)
        clear hb hrd
        refine hK.out _ _ (⟨cell_later (HB4s.out) HD1.out, cell_later (HB4s.out) HD2.out⟩) (fun hHeld => ?_)
        clear hK K
        try simp only [Act.put, List.setIfInBounds_toArray, List.set_cons_zero, List.set_cons_succ]
        refine plI [(5, false), (6, false), (7, false)] ?_
        repeat ((first | ((with_reducible show Plan ((_, true) :: _) _); refine plF ?_) | (refine plR (v := ?_) ?_ ?_; rotate_left; focus (intro W hSW; (try dsimp only at hSW); go_simp; all_goals (with_reducible rfl)))); try simp only [Act.put, List.setIfInBounds_toArray, List.set_cons_zero, List.set_cons_succ])
        refine plE ?_
        refine wpAnyH_ready (rs := [9]) (by kernel_rfl) (by simp) ?_
        refine AllReadyH.cons (o := ⟨_, _, _, _, _, _⟩) rfl (fun K hK => ?_) AllReadyH.nil
        obtain ⟨x7, y7⟩ := HE4s.out.facts
        go_simp
        obtain ⟨HEV, HBV⟩ := put3 HB4s.out (Nat.le_refl _) HE4s.out (.string kn) (.bool kb) (.slice A2 S.length c2)
        replace HEV := Lib.hid HEV
        replace HBV := Lib.hid HBV
        refine hK.out _ _ (⟨cell_later (HBV.out) HD1.out, cell_later (HBV.out) HD2.out⟩) (fun hHeld => ?_)
        clear hK K
        try simp only [Act.put]
        refine plI [(10, false)] ?_
        repeat ((first | ((with_reducible show Plan ((_, true) :: _) _); refine plF ?_) | (refine plR (v := ?_) ?_ ?_; rotate_left; focus (intro W hSW; (try dsimp only at hSW); go_simp; all_goals (with_reducible rfl)))); try simp only [Act.put, List.setIfInBounds_toArray, List.set_cons_zero, List.set_cons_succ])
        refine plE ?_
        refine wpAnyH_done (by kernel_rfl) ?_ _
        clear hHeld x7 y7
        generalize ((u1.setCell ⟨wr.heap.size, 0, none⟩ (.string kn)).setCell ⟨wr.heap.size, 1, none⟩ (.bool kb)).setCell ⟨wr.heap.size, 2, none⟩ (.slice A2 S.length c2) = V at *
        exact REST A2 c2 wr.heap.size V ⟨HRd, HEV, HBV⟩
      case h2 =>
        intro A2 c2 b4 V hAll
        obtain ⟨HRd, HEV, HBV⟩ := hAll
        obtain ⟨x7, y7⟩ := HEV.out.facts
        clear HD1 HD2 HFD hbg
        have hpv := HPOP.out V HBV.out
        have HKB := Lib.hid (HK.out.below HBV.out)
        rw [List.length_map] at hpv
        clear HPOP
        by_cases hc1 : cap = 1
        · have h0 : T.length = 0 := by simpa using congrArg List.length (hpv.2 hc1).1
          have HKV := Lib.hid (show KiW w0 w cv g (.slice (some ⟨b, o, none⟩) T.length 0) T m V from HKB.out.push (Below.refl _ _) (by rw [h0]; exact (hpv.2 hc1).2))
          clear hpv h0
          go_wp2_with fail
          clear hc1 x7 y7 hcap hcm
          generalize (Value.slice (some ⟨b, o, none⟩) T.length 0) = q1 at *
          go_loopw [6, 35] (fun q i wq => ∃ (k : Nat) (T2 : List ByteArray) (m2 : List (ByteArray × Value)), i = .int .i64 k ∧ k ≤ S.length ∧ Hid (Wl c kind (some x) (keysL m2) T2) ∧ Hid (KiW w0 w cv g q T2 m2 wq) ∧ Hid (T2.length + m.length = m2.length + T.length) ∧ Hid (∀ s ∈ S.take k, ∀ y ∈ s.kinds, y ∈ keysL m2)) (fun _ i _ => S.length - (intOf i).toNat)
          case atStart => exact ⟨0, T, m, rfl, Nat.zero_le _, HWp, HKV, Lib.hid (Nat.add_comm _ _), Lib.hid (fun s hs => (by rw [List.take_zero] at hs; cases hs))⟩
          case round =>
            obtain ⟨k, T2, m2, rfl, hk, HWq, HKq, HCq, HPq⟩ := hrel
            clear HKV HWp
            by_cases hlt : k < S.length
            · have hki : (k : Int) < (S.length : Int) := by omega
              have hm2 := HSS.out _ (getD_mem S k noSk hlt)
              have HDS := Lib.hid (fun y hy => HDR.out _ (getD_mem S k noSk hlt) y hy)
              have HTS := Lib.hid (take_getD S k noSk hlt)
              obtain ⟨b3, o3, cc, cs, he, _, ⟨sv, rfl, hsv⟩, _, hrg⟩ := HRd.out.get hlt noSk
              injection he with e1 e2 e3
              subst e1
              subst e3
              have hrg' := range_later hrg (HB0.out.trans (HKq.out.b.mono HB0.out.size))
              clear hrg
              generalize S.getD k noSk = s at *
              obtain ⟨sn, ks, nm⟩ := s
              obtain ⟨_, hkl, hkz⟩ := hm2
              have HYZ := Lib.hid hkz
              obtain ⟨A4, c4, rfl, hn4, hc4⟩ := hsv
              have HC4 := Lib.hid hc4
              clear hc4 e2 hkz
              dsimp only at *
              go_wp2_with ((with_reducible show wpList _ _ _ (Oper.mk (some 38) _ _ _ _ _ :: _) _ _); refine wpList_load_mid rfl 60 _ rfl b3 (o3 + k * 3) rfl _ _ hrg' Tryz.underlying60 rfl rfl ?_)
              have HM4 := Lib.hid (HKq.out.below ((Below.refl _ _).alloc (Nat.le_refl _) (.cells #[.string sn, .slice A4 ks.length c4, .int .i64 nm] 60)))
              generalize (wr.alloc (.cells #[.string sn, .slice A4 ks.length c4, .int .i64 nm] 60)) = w4 at *
              clear HKq hrg'
              go_loopw [6, 42] (fun q i wi => ∃ (n : Nat) (T3 : List ByteArray) (m3 : List (ByteArray × Value)), i = .int .i64 n ∧ n ≤ ks.length ∧ Hid (Wl c kind (some x) (keysL m3) T3) ∧ Hid (KiW w0 w cv g q T3 m3 wi) ∧ Hid (T3.length + m.length = m3.length + T.length) ∧ Hid (∀ s ∈ S.take k, ∀ y ∈ s.kinds, y ∈ keysL m3) ∧ Hid (∀ y ∈ ks.take n, y ∈ keysL m3)) (fun _ i _ => ks.length - (intOf i).toNat)
              case atStart => exact ⟨0, T2, m2, rfl, Nat.zero_le _, HWq, HM4, HCq, HPq, Lib.hid (fun y hy => (by rw [List.take_zero] at hy; cases hy))⟩
              case round =>
                obtain ⟨n, T3, m3, rfl, hn, HWi, HKi, HCi, HPi, HYi⟩ := hrel
                clear HM4 HWq HCq HPq
                by_cases hlt2 : n < ks.length
                · have hki2 : (n : Int) < (ks.length : Int) := by omega
                  have hmem := getD_mem ks n ByteArray.empty hlt2
                  obtain ⟨b4, o4, rfl, hc4⟩ : ∃ b4 o4, A4 = some ⟨b4, o4, none⟩ ∧ ∀ j, j < ks.length * 1 → w0.cell? ⟨b4, o4 + j, none⟩ = some (strF ks j) := HC4.out.resolve_left (by omega)
                  have hce : _ = some (Value.string (ks.getD n ByteArray.empty)) := cell_later (HB0.out.trans (HKi.out.b.mono HB0.out.size)) (hc4 n (by omega))
                  have HYS := Lib.hid (HYZ.out _ hmem)
                  have HYD := Lib.hid (HDS.out _ hmem)
                  have HTK := Lib.hid (take_getD ks n ByteArray.empty hlt2)
                  have hs3 : IntKind.i64.wrap ((n : Int) + 1) = (n : Int) + 1 := IntWalk.i64_in _ (by omega)
                  clear hc4 hmem
                  generalize ks.getD n ByteArray.empty = y at *
                  have hL := run_look str_keying Tryz.underlying49 HKi.out.mp y (zero_boolV wr) false
                  rw [mget_key HKi.out.tr] at hL
                  cases hiy : inS (keysL m3) y with
                  | true =>
                    rw [hiy] at hL
                    have HIN := Lib.hid ((inS_iff _ _).1 hiy)
                    clear hiy
                    go_wp2_with fail
                    go_roundw
                    case rel => exact ⟨n + 1, T3, m3, by go_num, hlt2, HWi, HKi, HCi, HPi, Lib.hid (fun z hz => by rw [HTK.out] at hz; rcases List.mem_append.1 hz with hz | hz; exact HYi.out z hz; rw [List.mem_singleton.1 hz]; exact HIN.out)⟩
                    case measure => simp [intOf]; omega
                  | false =>
                    rw [hiy] at hL
                    have HNI := Lib.hid (fun hm => Bool.noConfusion (hiy.symm.trans ((inS_iff _ _).2 hm)) : y ∉ keysL m3)
                    have HPN := Lib.hid (mput_new (v := .bool true) hiy)
                    clear hiy
                    have HKa := Lib.hid (HKi.out.below ((Below.refl _ _).alloc (Nat.le_refl _) (.cells #[.string y] 9)))
                    have hcy : (wr.alloc (.cells #[.string y] 9)).cell? ⟨wr.heap.size, 0, none⟩ = some (.string y) := (Has.new wr 9 #[.string y]).cell 0
                    have HCY := Lib.hid hcy
                    have HT3 := Lib.hid (show T3.length ≤ 100 by have h1 := HWi.out.len HCT.out; have h2 := HCi.out; have h3 := HTM2.out; have h4 := HC60.out; simp only [List.length_map] at h1; omega)
                    clear hcy
                    go_wp2_with ((with_reducible show wpList _ _ _ (Oper.mk (some 55) _ _ _ _ _ :: _) _ _); refine wpList_qr rfl (.tmp 52) (.tmp 54) 39 rfl (g + 1) 9 i0 (.string ⟨#[]⟩) 16 Tryz.underlying39 HI.out HZ.out hz1 hz2 rfl _ _ rfl HKa.out.q ⟨_, 0, none⟩ 1 (.string y) rfl HCY.out rfl (by have := HT3.out; rw [List.length_map]; unfold maxLen; omega) (by have := HT3.out; rw [List.length_map]; omega) (Nat.succ_le_of_lt HKa.out.mp.lt) ?_; intro q' w5 hq hb; have HK5 := Lib.hid (HKa.out.push (T' := T3 ++ [y]) hb (by rw [List.map_append]; exact hq)); obtain ⟨w6, hp6, hM6, hG6, hS6⟩ := run_put str_keying Tryz.underlying49 HK5.out.mp y (.bool true); (rw [HPN.out] at hM6); have HK6 := Lib.hid (HK5.out.put HYS.out hM6 hG6 hS6); clear hq hb hM6 hG6 hS6)
                    go_roundw
                    case rel => exact ⟨n + 1, T3 ++ [y], m3 ++ [(y, .bool true)], by go_num, hlt2, Lib.hid (by have := HWi.out.add HCT.out HYD.out HNI.out; simpa [keysL] using this), HK6, Lib.hid (by have := HCi.out; simp only [List.length_append, List.length_singleton]; omega), Lib.hid (fun s hs z hz => by have := HPi.out s hs z hz; simp only [keysL, List.map_append] at this ⊢; exact List.mem_append_left _ this), Lib.hid (fun z hz => by rw [HTK.out] at hz; simp only [keysL, List.map_append, List.mem_append]; rcases List.mem_append.1 hz with hz | hz; exact .inl (HYi.out z hz); exact .inr (by rw [List.mem_singleton.1 hz]; exact List.mem_singleton.2 rfl))⟩
                    case measure => simp [intOf]; omega
                · have hki2 : ¬ (n : Int) < (ks.length : Int) := by omega
                  obtain rfl : n = ks.length := by omega
                  rw [List.take_length] at HYi
                  have hs6 : IntKind.i64.wrap ((k : Int) + 1) = (k : Int) + 1 := IntWalk.i64_in _ (by have := HSN.out; omega)
                  go_wp2_with fail
                  go_roundw
                  case rel => exact ⟨k + 1, T3, m3, by go_num, hlt, HWi, HKi, HCi, Lib.hid (fun s hs z hz => by rw [HTS.out] at hs; rcases List.mem_append.1 hs with hs | hs; exact HPi.out s hs z hz; rw [List.mem_singleton.1 hs] at hz; exact HYi.out z hz)⟩
                  case measure => simp [intOf]; omega
            · have hki : ¬ (k : Int) < (S.length : Int) := by omega
              obtain rfl : k = S.length := by omega
              rw [List.take_length] at HPq
              go_wp2_with fail
              go_roundw
              case rel => exact ⟨T2, m2, Lib.hid (HWq.out.leave (fun z hz => by rw [HDL.out] at hz; obtain ⟨s, hs, hz⟩ := List.mem_flatMap.1 hz; exact HPq.out s hs z hz)), HKq, Lib.hid (by have := HCq.out; have := HTM2.out; omega)⟩
              case measure =>
                have h1 := HWq.out.len HCT.out
                have h2 := HCq.out
                have h3 := HW.out.len HCT.out
                have h4 := HC60.out
                simp only [List.length_map] at h1 h3
                rw [HKq.out.mp.count, HKq.out.q.len, HK.out.mp.count, HK.out.q.len, List.length_map, List.length_map, List.length_cons]
                omega
        · have HKV := Lib.hid (show KiW w0 w cv g (.slice (some ⟨b, o + 1, none⟩) T.length (cap - 1)) T m V from HKB.out.push (Below.refl _ _) hpv.1)
          clear hpv
          go_wp2_with fail
          clear hc1 x7 y7 hcap hcm
          generalize (Value.slice (some ⟨b, o + 1, none⟩) T.length (cap - 1)) = q1 at *
          go_loopw [6, 35] (fun q i wq => ∃ (k : Nat) (T2 : List ByteArray) (m2 : List (ByteArray × Value)), i = .int .i64 k ∧ k ≤ S.length ∧ Hid (Wl c kind (some x) (keysL m2) T2) ∧ Hid (KiW w0 w cv g q T2 m2 wq) ∧ Hid (T2.length + m.length = m2.length + T.length) ∧ Hid (∀ s ∈ S.take k, ∀ y ∈ s.kinds, y ∈ keysL m2)) (fun _ i _ => S.length - (intOf i).toNat)
          case atStart => exact ⟨0, T, m, rfl, Nat.zero_le _, HWp, HKV, Lib.hid (Nat.add_comm _ _), Lib.hid (fun s hs => (by rw [List.take_zero] at hs; cases hs))⟩
          case round =>
            obtain ⟨k, T2, m2, rfl, hk, HWq, HKq, HCq, HPq⟩ := hrel
            clear HKV HWp
            by_cases hlt : k < S.length
            · have hki : (k : Int) < (S.length : Int) := by omega
              have hm2 := HSS.out _ (getD_mem S k noSk hlt)
              have HDS := Lib.hid (fun y hy => HDR.out _ (getD_mem S k noSk hlt) y hy)
              have HTS := Lib.hid (take_getD S k noSk hlt)
              obtain ⟨b3, o3, cc, cs, he, _, ⟨sv, rfl, hsv⟩, _, hrg⟩ := HRd.out.get hlt noSk
              injection he with e1 e2 e3
              subst e1
              subst e3
              have hrg' := range_later hrg (HB0.out.trans (HKq.out.b.mono HB0.out.size))
              clear hrg
              generalize S.getD k noSk = s at *
              obtain ⟨sn, ks, nm⟩ := s
              obtain ⟨_, hkl, hkz⟩ := hm2
              have HYZ := Lib.hid hkz
              obtain ⟨A4, c4, rfl, hn4, hc4⟩ := hsv
              have HC4 := Lib.hid hc4
              clear hc4 e2 hkz
              dsimp only at *
              go_wp2_with ((with_reducible show wpList _ _ _ (Oper.mk (some 38) _ _ _ _ _ :: _) _ _); refine wpList_load_mid rfl 60 _ rfl b3 (o3 + k * 3) rfl _ _ hrg' Tryz.underlying60 rfl rfl ?_)
              have HM4 := Lib.hid (HKq.out.below ((Below.refl _ _).alloc (Nat.le_refl _) (.cells #[.string sn, .slice A4 ks.length c4, .int .i64 nm] 60)))
              generalize (wr.alloc (.cells #[.string sn, .slice A4 ks.length c4, .int .i64 nm] 60)) = w4 at *
              clear HKq hrg'
              go_loopw [6, 42] (fun q i wi => ∃ (n : Nat) (T3 : List ByteArray) (m3 : List (ByteArray × Value)), i = .int .i64 n ∧ n ≤ ks.length ∧ Hid (Wl c kind (some x) (keysL m3) T3) ∧ Hid (KiW w0 w cv g q T3 m3 wi) ∧ Hid (T3.length + m.length = m3.length + T.length) ∧ Hid (∀ s ∈ S.take k, ∀ y ∈ s.kinds, y ∈ keysL m3) ∧ Hid (∀ y ∈ ks.take n, y ∈ keysL m3)) (fun _ i _ => ks.length - (intOf i).toNat)
              case atStart => exact ⟨0, T2, m2, rfl, Nat.zero_le _, HWq, HM4, HCq, HPq, Lib.hid (fun y hy => (by rw [List.take_zero] at hy; cases hy))⟩
              case round =>
                obtain ⟨n, T3, m3, rfl, hn, HWi, HKi, HCi, HPi, HYi⟩ := hrel
                clear HM4 HWq HCq HPq
                by_cases hlt2 : n < ks.length
                · have hki2 : (n : Int) < (ks.length : Int) := by omega
                  have hmem := getD_mem ks n ByteArray.empty hlt2
                  obtain ⟨b4, o4, rfl, hc4⟩ : ∃ b4 o4, A4 = some ⟨b4, o4, none⟩ ∧ ∀ j, j < ks.length * 1 → w0.cell? ⟨b4, o4 + j, none⟩ = some (strF ks j) := HC4.out.resolve_left (by omega)
                  have hce : _ = some (Value.string (ks.getD n ByteArray.empty)) := cell_later (HB0.out.trans (HKi.out.b.mono HB0.out.size)) (hc4 n (by omega))
                  have HYS := Lib.hid (HYZ.out _ hmem)
                  have HYD := Lib.hid (HDS.out _ hmem)
                  have HTK := Lib.hid (take_getD ks n ByteArray.empty hlt2)
                  have hs3 : IntKind.i64.wrap ((n : Int) + 1) = (n : Int) + 1 := IntWalk.i64_in _ (by omega)
                  clear hc4 hmem
                  generalize ks.getD n ByteArray.empty = y at *
                  have hL := run_look str_keying Tryz.underlying49 HKi.out.mp y (zero_boolV wr) false
                  rw [mget_key HKi.out.tr] at hL
                  cases hiy : inS (keysL m3) y with
                  | true =>
                    rw [hiy] at hL
                    have HIN := Lib.hid ((inS_iff _ _).1 hiy)
                    clear hiy
                    go_wp2_with fail
                    go_roundw
                    case rel => exact ⟨n + 1, T3, m3, by go_num, hlt2, HWi, HKi, HCi, HPi, Lib.hid (fun z hz => by rw [HTK.out] at hz; rcases List.mem_append.1 hz with hz | hz; exact HYi.out z hz; rw [List.mem_singleton.1 hz]; exact HIN.out)⟩
                    case measure => simp [intOf]; omega
                  | false =>
                    rw [hiy] at hL
                    have HNI := Lib.hid (fun hm => Bool.noConfusion (hiy.symm.trans ((inS_iff _ _).2 hm)) : y ∉ keysL m3)
                    have HPN := Lib.hid (mput_new (v := .bool true) hiy)
                    clear hiy
                    have HKa := Lib.hid (HKi.out.below ((Below.refl _ _).alloc (Nat.le_refl _) (.cells #[.string y] 9)))
                    have hcy : (wr.alloc (.cells #[.string y] 9)).cell? ⟨wr.heap.size, 0, none⟩ = some (.string y) := (Has.new wr 9 #[.string y]).cell 0
                    have HCY := Lib.hid hcy
                    have HT3 := Lib.hid (show T3.length ≤ 100 by have h1 := HWi.out.len HCT.out; have h2 := HCi.out; have h3 := HTM2.out; have h4 := HC60.out; simp only [List.length_map] at h1; omega)
                    clear hcy
                    go_wp2_with ((with_reducible show wpList _ _ _ (Oper.mk (some 55) _ _ _ _ _ :: _) _ _); refine wpList_qr rfl (.tmp 52) (.tmp 54) 39 rfl (g + 1) 9 i0 (.string ⟨#[]⟩) 16 Tryz.underlying39 HI.out HZ.out hz1 hz2 rfl _ _ rfl HKa.out.q ⟨_, 0, none⟩ 1 (.string y) rfl HCY.out rfl (by have := HT3.out; rw [List.length_map]; unfold maxLen; omega) (by have := HT3.out; rw [List.length_map]; omega) (Nat.succ_le_of_lt HKa.out.mp.lt) ?_; intro q' w5 hq hb; have HK5 := Lib.hid (HKa.out.push (T' := T3 ++ [y]) hb (by rw [List.map_append]; exact hq)); obtain ⟨w6, hp6, hM6, hG6, hS6⟩ := run_put str_keying Tryz.underlying49 HK5.out.mp y (.bool true); (rw [HPN.out] at hM6); have HK6 := Lib.hid (HK5.out.put HYS.out hM6 hG6 hS6); clear hq hb hM6 hG6 hS6)
                    go_roundw
                    case rel => exact ⟨n + 1, T3 ++ [y], m3 ++ [(y, .bool true)], by go_num, hlt2, Lib.hid (by have := HWi.out.add HCT.out HYD.out HNI.out; simpa [keysL] using this), HK6, Lib.hid (by have := HCi.out; simp only [List.length_append, List.length_singleton]; omega), Lib.hid (fun s hs z hz => by have := HPi.out s hs z hz; simp only [keysL, List.map_append] at this ⊢; exact List.mem_append_left _ this), Lib.hid (fun z hz => by rw [HTK.out] at hz; simp only [keysL, List.map_append, List.mem_append]; rcases List.mem_append.1 hz with hz | hz; exact .inl (HYi.out z hz); exact .inr (by rw [List.mem_singleton.1 hz]; exact List.mem_singleton.2 rfl))⟩
                    case measure => simp [intOf]; omega
                · have hki2 : ¬ (n : Int) < (ks.length : Int) := by omega
                  obtain rfl : n = ks.length := by omega
                  rw [List.take_length] at HYi
                  have hs6 : IntKind.i64.wrap ((k : Int) + 1) = (k : Int) + 1 := IntWalk.i64_in _ (by have := HSN.out; omega)
                  go_wp2_with fail
                  go_roundw
                  case rel => exact ⟨k + 1, T3, m3, by go_num, hlt, HWi, HKi, HCi, Lib.hid (fun s hs z hz => by rw [HTS.out] at hs; rcases List.mem_append.1 hs with hs | hs; exact HPi.out s hs z hz; rw [List.mem_singleton.1 hs] at hz; exact HYi.out z hz)⟩
                  case measure => simp [intOf]; omega
            · have hki : ¬ (k : Int) < (S.length : Int) := by omega
              obtain rfl : k = S.length := by omega
              rw [List.take_length] at HPq
              go_wp2_with fail
              go_roundw
              case rel => exact ⟨T2, m2, Lib.hid (HWq.out.leave (fun z hz => by rw [HDL.out] at hz; obtain ⟨s, hs, hz⟩ := List.mem_flatMap.1 hz; exact HPq.out s hs z hz)), HKq, Lib.hid (by have := HCq.out; have := HTM2.out; omega)⟩
              case measure =>
                have h1 := HWq.out.len HCT.out
                have h2 := HCq.out
                have h3 := HW.out.len HCT.out
                have h4 := HC60.out
                simp only [List.length_map] at h1 h3
                rw [HKq.out.mp.count, HKq.out.q.len, HK.out.mp.count, HK.out.q.len, List.length_map, List.length_map, List.length_cons]
                omega
theorem kinds_any (hb0 : Below w0.heap.size w0 w) (hcv : Cat w0 cv c) (hl : c.length ≤ 100000) (hsh : ∀ k ∈ c, k.short) (kind : ByteArray) : Calls Tryz.prog 12 #[.agg #[cv], .string kind] w (KnR w (kindsU c kind)) := by
  cases hc : catB c with
  | false => exact kinds_no hb0 hcv hl hsh kind hc
  | true => exact kinds_yes hb0 hcv hl hsh kind hc
end
end Go.Proofs.YtcpakaiblelmlaaGreatDoor
namespace Go.Proofs.YtcpakaiblelmlaaGreatDoor
open Go Go.RowKit
def sameS (l m : List ByteArray) : Bool := decide (l = m)
theorem beq_bytes (a b : ByteArray) : (a.toList == b.toList) = decide (a = b) := by
  rw [Bool.eq_iff_iff, beq_iff_eq, decide_eq_true_iff]
  constructor
  · intro h
    have h2 : a.data.toList = b.data.toList := by rwa [ByteArray.toList_eq, ByteArray.toList_eq] at h
    cases a; cases b
    simpa using h2
  · rintro rfl; rfl
theorem sameS_bad {l m : List ByteArray} {k : Nat} (h : decide (l.getD k eS = m.getD k eS) = false) : sameS l m = false := by
  refine decide_eq_false fun e => ?_
  subst e
  simp at h
theorem sameS_len {l m : List ByteArray} (h : l.length ≠ m.length) : sameS l m = false := decide_eq_false fun e => h (by rw [e])
theorem sameS_end {l m : List ByteArray} (hl : l.length = m.length) (h : ∀ j, j < l.length → l.getD j eS = m.getD j eS) : sameS l m = true := by
  refine decide_eq_true ?_
  apply List.ext_getElem?
  intro j
  by_cases hj : j < l.length
  · have := h j hj
    rw [List.getD_eq_getElem?_getD, List.getD_eq_getElem?_getD, List.getElem?_eq_getElem hj, List.getElem?_eq_getElem (by omega)] at this
    rw [List.getElem?_eq_getElem hj, List.getElem?_eq_getElem (by omega)]
    simpa using this
  · rw [List.getElem?_eq_none (by omega), List.getElem?_eq_none (by omega)]
set_option maxRecDepth 100000 in
set_option maxHeartbeats 4000000 in
theorem sameS_any (v u : Value) (l m : List ByteArray) (w : World) (hv : Sl w v l.length 1 (strF l)) (hu : Sl w u m.length 1 (strF m)) (hl : l.length ≤ 1000000) (_hm : m.length ≤ 1000000) :
    Calls Tryz.prog 13 #[v, u] w fun r w' => r = .returned (.bool (sameS l m)) ∧ Below w.heap.size w w' := by
  obtain ⟨A, c, rfl, hn, hc⟩ := hv
  obtain ⟨A', c', rfl, hn', hc'⟩ := hu
  by_cases hlm : l.length = m.length
  · have hb0 : ((l.length : Int) != (m.length : Int)) = false := by simp; omega
    have HLM := Lib.hid hlm
    have HC := Lib.hid hc
    have HC' := Lib.hid hc'
    clear hc hc' hlm
    go_enter Tryz.func13, Tryz.ntmps13
    go_wp2_with fail
    go_loopw [5] (fun i wr => ∃ k : Nat, k ≤ l.length ∧ i = .int .i64 k ∧ Hid (∀ j, j < k → l.getD j eS = m.getD j eS) ∧ Below w.heap.size w wr) (fun i _ => l.length - (intOf i).toNat)
    case atStart => exact ⟨0, Nat.zero_le _, rfl, fun j hj => absurd hj (by omega), Below.refl _ _⟩
    case round =>
      obtain ⟨k, hk, rfl, hrel, hB⟩ := hrel
      have HB := Lib.hid hB
      clear hB
      by_cases hlt : k < l.length
      · have hkm : k < m.length := by have := HLM.out; omega
        rcases HC.out with h0 | ⟨b, o, rfl, hc⟩
        · omega
        rcases HC'.out with h0 | ⟨b', o', rfl, hc'⟩
        · omega
        have hr1 : wr.cell? ⟨b, o + k, none⟩ = some (.string (l.getD k eS)) := cell_later HB.out (hc k (by omega))
        have hr2 : wr.cell? ⟨b', o' + k, none⟩ = some (.string (m.getD k eS)) := cell_later HB.out (hc' k (by omega))
        have hbad := Lib.hid (fun h => sameS_bad (l := l) (m := m) (k := k) h)
        have hki : (k : Int) < (l.length : Int) := by omega
        have hkj : (k : Int) < (m.length : Int) := by omega
        have HR : Hid (l.getD k eS = m.getD k eS → ∀ j, j < k + 1 → l.getD j eS = m.getD j eS) := fun h j hj => by
          rcases Nat.lt_or_ge j k with h1 | h1
          · exact hrel.out j h1
          · obtain rfl : j = k := by omega
            exact h
        clear hc hc' hrel
        generalize l.getD k eS = x at *
        generalize m.getD k eS = y at *
        cases he : (x.toList == y.toList)
        · have hb := Lib.hid (hbad.out (by rw [← beq_bytes]; exact he))
          have he2 : (x.toList != y.toList) = true := by rw [bne, he]; rfl
          go_wp2_with fail
          go_quiet (fail)
          go_wp2_with fail
          go_ret
          exact ⟨ret_bool (by rw [hb.out]), below_drewN HB.out _⟩
        · have hb := Lib.hid (HR.out (by rw [beq_bytes] at he; exact of_decide_eq_true he))
          have he2 : (x.toList != y.toList) = false := by rw [bne, he]; rfl
          go_wp2_with fail
          go_quiet (fail)
          go_wp2_with fail
          go_roundw
          case rel => exact ⟨k + 1, by omega, by go_num, hb.out, below_drewN HB.out _⟩
          case measure => simp [intOf]; omega
      · obtain rfl : k = l.length := by omega
        have hfin := Lib.hid (sameS_end HLM.out hrel.out)
        clear hrel
        go_wp2_with fail
        go_ret
        exact ⟨ret_bool (by rw [hfin.out]), HB.out⟩
  · have hb0 : ((l.length : Int) != (m.length : Int)) = true := by rw [bne_iff_ne]; omega
    have hb := Lib.hid (sameS_len hlm)
    go_enter Tryz.func13, Tryz.ntmps13
    go_wp2_with fail
    go_ret
    exact ⟨ret_bool (by rw [hb.out]), Below.refl _ _⟩
end Go.Proofs.YtcpakaiblelmlaaGreatDoor
namespace Go.Proofs.YtcpakaiblelmlaaGreatDoor
open Go Go.RowKit
def fewNm (x : ByteArray) : Bool := decide (x.size ≤ 100)
def fewSk (s : Sk) : Bool := decide (s.name.size ≤ 100) && (decide (s.kinds.length ≤ 15) && s.kinds.all fewNm)
def fewKd (k : Kd) : Bool := decide (k.name.size ≤ 100) && (decide (k.slots.length ≤ 15) && k.slots.all fewSk)
def fewCa (c : List Kd) : Bool := decide (c.length ≤ 65) && c.all fewKd
theorem fewCa_short {c : List Kd} (h : fewCa c = true) : c.length ≤ 65 ∧ ∀ k ∈ c, k.short := by
  unfold fewCa at h
  rw [Bool.and_eq_true, decide_eq_true_iff, List.all_eq_true] at h
  have hm : (300 : Nat) ≤ maxLen := by unfold maxLen; omega
  refine ⟨h.1, fun k hk => ?_⟩
  have h2 := h.2 k hk
  unfold fewKd at h2
  simp only [Bool.and_eq_true, decide_eq_true_eq, List.all_eq_true] at h2
  refine ⟨by omega, by omega, fun s hs => ?_⟩
  have h3 := h2.2.2 s hs
  unfold fewSk at h3
  simp only [Bool.and_eq_true, decide_eq_true_eq, List.all_eq_true] at h3
  refine ⟨by omega, by omega, fun x hx => ?_⟩
  have h4 := h3.2.2 x hx
  unfold fewNm at h4
  rw [decide_eq_true_iff] at h4
  omega
theorem fewCa_bad {c : List Kd} {k : Nat} (hk : k < c.length) (h : fewKd (c.getD k noKd) = false) : fewCa c = false := by
  have : c.all fewKd = false := by rw [List.all_eq_false]; exact ⟨_, getD_mem c k noKd hk, by rw [h]; decide⟩
  unfold fewCa; rw [this, Bool.and_false]
theorem fewKd_slot {k : Kd} {j : Nat} (hj : j < k.slots.length) (h : fewSk (k.slots.getD j noSk) = false) : fewKd k = false := by
  have : k.slots.all fewSk = false := by rw [List.all_eq_false]; exact ⟨_, getD_mem k.slots j noSk hj, by rw [h]; decide⟩
  unfold fewKd; rw [this, Bool.and_false, Bool.and_false]
theorem fewSk_name {s : Sk} {j : Nat} (hj : j < s.kinds.length) (h : fewNm (s.kinds.getD j eS) = false) : fewSk s = false := by
  have : s.kinds.all fewNm = false := by rw [List.all_eq_false]; exact ⟨_, getD_mem s.kinds j eS hj, by rw [h]; decide⟩
  unfold fewSk; rw [this, Bool.and_false, Bool.and_false]
set_option maxRecDepth 100000 in
set_option maxHeartbeats 4000000 in
theorem few08_any (w0 : World) (v : Value) (c : List Kd) (w : World) (hb0 : Below w0.heap.size w0 w) (hv : Cat w0 v c) :
    Calls Tryz.prog 23 #[.agg #[v]] w fun e w' => e = .returned (.bool (fewCa c)) ∧ Below w.heap.size w w' := by
  obtain ⟨A, cc, rfl, hn⟩ := RdL.form hv
  have HV := Lib.hid hv
  have HB0 := Lib.hid hb0
  have HB0s := hb0.size
  have HS1 := Lib.hid (Has.new w 24 #[.slice A c.length cc])
  have HB1 := Lib.hid ((Below.refl w.heap.size w).alloc (Nat.le_refl _) (.cells #[.slice A c.length cc] 24))
  clear hb0 hv
  by_cases hm : c.length ≤ 65
  · have hm' : ¬ (65 : Int) < (c.length : Int) := by omega
    go_enter Tryz.func23, Tryz.ntmps23
    go_wp2_with fail
    go_loopw [3] (fun i wr => ∃ k : Nat, k ≤ c.length ∧ i = .int .i64 k ∧ Hid (∀ p ∈ c.take k, fewKd p = true) ∧ Hid (Has wr w.heap.size 24 #[.slice A c.length cc]) ∧ Hid (Below w.heap.size w wr)) (fun i _ => c.length - (intOf i).toNat)
    case atStart => exact ⟨0, Nat.zero_le _, rfl, fun p hp => by simp at hp, HS1.out, HB1.out⟩
    case round =>
      obtain ⟨k, hk, rfl, HT, HS, HB⟩ := hrel
      clear HS1 HB1
      obtain ⟨y1, y2⟩ := HS.out.facts
      have hwr : w.heap.size ≤ wr.heap.size := HB.out.size
      by_cases hlt : k < c.length
      · obtain ⟨b, o, c', cs, he, _, ⟨sv, rfl, hsv⟩, _, hrg⟩ := HV.out.get hlt noKd
        injection he with e1 e2 e3
        subst e1; subst e3
        have hrg' := range_later hrg (HB0.out.trans (HB.out.mono HB0s))
        obtain ⟨A2, c2, rfl, hn2⟩ := hsv.form
        have HSV := Lib.hid hsv
        have hbad := Lib.hid (fun h => fewCa_bad hlt h)
        have htake := Lib.hid (take_getD c k noKd hlt)
        have hki : (k : Int) < (c.length : Int) := by omega
        clear hrg hsv
        generalize c.getD k noKd = p at *
        obtain ⟨kn, kv, ks⟩ := p
        simp only at HSV hn2 hrg'
        have HP0 := Lib.hid (Has.new wr 38 #[.string kn, .bool kv, .slice A2 ks.length c2])
        obtain ⟨p1, p2⟩ := HP0.out.facts
        have HS2 := Lib.hid (HS.out.alloc (.cells #[.string kn, .bool kv, .slice A2 ks.length c2] 38))
        have HB2 := Lib.hid (HB.out.alloc hwr (.cells #[.string kn, .bool kv, .slice A2 ks.length c2] 38))
        obtain ⟨w1, rfl⟩ : ∃ w1, w1 = wr := ⟨_, rfl⟩
        by_cases h100 : (100 : Int) < (kn.size : Int)
        · go_wp2_with ((with_reducible show wpList _ _ _ (Oper.mk (some 22) _ _ _ _ _ :: _) _ _); refine wpList_load_mid rfl 38 _ rfl b (o + k * 3) rfl _ _ hrg' Tryz.underlying38 rfl rfl ?_)
          go_ret
          exact ⟨ret_bool (by rw [hbad.out]; unfold fewKd; rw [decide_eq_false (by simp only; omega), Bool.false_and]), HB2.out⟩
        · by_cases h15 : (15 : Int) < (ks.length : Int)
          · go_wp2_with ((with_reducible show wpList _ _ _ (Oper.mk (some 22) _ _ _ _ _ :: _) _ _); refine wpList_load_mid rfl 38 _ rfl b (o + k * 3) rfl _ _ hrg' Tryz.underlying38 rfl rfl ?_)
            go_ret
            exact ⟨ret_bool (by rw [hbad.out]; unfold fewKd; rw [decide_eq_false (p := ks.length ≤ 15) (by omega), Bool.false_and, Bool.and_false]), HB2.out⟩
          · have HA := Lib.hid (show decide (kn.size ≤ 100) = true from decide_eq_true (by omega))
            have HA2 := Lib.hid (show decide (ks.length ≤ 15) = true from decide_eq_true (by omega))
            go_wp2_with ((with_reducible show wpList _ _ _ (Oper.mk (some 22) _ _ _ _ _ :: _) _ _); refine wpList_load_mid rfl 38 _ rfl b (o + k * 3) rfl _ _ hrg' Tryz.underlying38 rfl rfl ?_)
            go_loopw [5] (fun j wq => ∃ n : Nat, n ≤ ks.length ∧ j = .int .i64 n ∧ Hid (∀ x ∈ ks.take n, fewSk x = true) ∧ Hid (Has wq w1.heap.size 38 #[.string kn, .bool kv, .slice A2 ks.length c2]) ∧ Hid (Has wq w.heap.size 24 #[.slice (some ⟨b, o, none⟩) c.length cc]) ∧ Hid (Below w.heap.size w wq)) (fun j _ => ks.length - (intOf j).toNat)
            case atStart => exact ⟨0, Nat.zero_le _, rfl, fun p hp => by simp at hp, HP0.out, HS2.out, HB2.out⟩
            case round =>
              obtain ⟨n, hnn, rfl, HT2, HPq, HSq, HBq⟩ := hrel
              obtain ⟨y3, y4⟩ := HSq.out.facts
              obtain ⟨p3, p4⟩ := HPq.out.facts
              obtain ⟨w2, rfl⟩ : ∃ w2, w2 = wr := ⟨_, rfl⟩
              by_cases hlt2 : n < ks.length
              · obtain ⟨b3, o3, c3, cs3, he3, _, ⟨sv3, rfl, hsv3⟩, _, hrg3⟩ := HSV.out.get hlt2 noSk
                injection he3 with e4 e5 e6
                subst e4; subst e6
                have HRG4 := Lib.hid hrg3
                have hrg4 := range_later hrg3 (HB0.out.trans (HBq.out.mono HB0s))
                have hbad3 := Lib.hid (fun h => hbad.out (fewKd_slot (k := ⟨kn, kv, ks⟩) hlt2 h))
                have htake3 := Lib.hid (take_getD ks n noSk hlt2)
                have hni : (n : Int) < (ks.length : Int) := by omega
                change Hid (fewSk (ks.getD n noSk) = false → _) at hbad3
                clear hrg3
                generalize ks.getD n noSk = x at *
                obtain ⟨sn, sk, sm⟩ := x
                obtain ⟨A4, c4, rfl, hn4, hc4⟩ := id hsv3
                have HK4 := Lib.hid hc4
                clear hc4 hsv3
                simp only at hrg4 HK4 hn4
                have q0 : w2.cell? ⟨b3, o3 + n * 3, none⟩ = some (.string sn) := hrg4 0 _ rfl
                have q1 : w2.cell? ⟨b3, o3 + n * 3 + 1, none⟩ = some (.slice A4 sk.length c4) := hrg4 1 _ rfl
                by_cases hx : (100 : Int) < (sn.size : Int)
                · go_wp2_with fail
                  go_ret
                  exact ⟨ret_bool (by rw [hbad3.out]; unfold fewSk; rw [decide_eq_false (by simp only; omega), Bool.false_and]), HBq.out⟩
                · by_cases hx2 : (15 : Int) < (sk.length : Int)
                  · go_wp2_with fail
                    go_ret
                    exact ⟨ret_bool (by rw [hbad3.out]; unfold fewSk; rw [decide_eq_false (p := sk.length ≤ 15) (by omega), Bool.false_and, Bool.and_false]), HBq.out⟩
                  · have HA3 := Lib.hid (show decide (sn.size ≤ 100) = true from decide_eq_true (by omega))
                    have HA4 := Lib.hid (show decide (sk.length ≤ 15) = true from decide_eq_true (by omega))
                    go_wp2_with fail
                    go_loopw [6] (fun j wt => ∃ m : Nat, m ≤ sk.length ∧ j = .int .i64 m ∧ Hid (∀ x ∈ sk.take m, fewNm x = true) ∧ wt = w2) (fun j _ => sk.length - (intOf j).toNat)
                    case atStart => exact ⟨0, Nat.zero_le _, rfl, fun p hp => by simp at hp, rfl⟩
                    case round =>
                      obtain ⟨m, hmm, rfl, HT3, rfl⟩ := hrel
                      by_cases hlt3 : m < sk.length
                      · rcases HK4.out with h0 | ⟨b5, o5, rfl, hc5⟩
                        · omega
                        have q2 : wr.cell? ⟨b5, o5 + m, none⟩ = some (.string (sk.getD m eS)) := cell_later (HB0.out.trans (HBq.out.mono HB0s)) (hc5 m (by omega))
                        have hbad4 := Lib.hid (fun h => hbad3.out (fewSk_name (s := ⟨sn, sk, sm⟩) hlt3 h))
                        change Hid (fewNm (sk.getD m eS) = false → _) at hbad4
                        have htake4 := Lib.hid (take_getD sk m eS hlt3)
                        have hmi : (m : Int) < (sk.length : Int) := by omega
                        clear hc5
                        generalize sk.getD m eS = x5 at *
                        by_cases hx5 : (100 : Int) < (x5.size : Int)
                        · go_wp2_with fail
                          go_ret
                          exact ⟨ret_bool (by rw [hbad4.out]; unfold fewNm; exact decide_eq_false (by omega)), HBq.out⟩
                        · go_wp2_with fail
                          go_roundw
                          case rel => exact ⟨m + 1, hlt3, by go_num, (by
                            intro a ha
                            rw [htake4.out, List.mem_append, List.mem_singleton] at ha
                            rcases ha with ha | rfl
                            · exact HT3.out a ha
                            · exact decide_eq_true (by omega)), (by trivial)⟩
                          case measure => simp [intOf]; omega
                      · obtain rfl : m = sk.length := by omega
                        go_wp2_with fail
                        go_roundw
                        case rel => exact ⟨n + 1, hlt2, by go_num, (by
                          intro a ha
                          rw [htake3.out, List.mem_append, List.mem_singleton] at ha
                          rcases ha with ha | rfl
                          · exact HT2.out a ha
                          · unfold fewSk
                            rw [show decide _ = true from HA3.out, show decide (sk.length ≤ 15) = true from HA4.out, Bool.true_and, Bool.true_and, List.all_eq_true]
                            have := HT3.out
                            rw [List.take_length] at this
                            exact this), HPq.out, HSq.out, HBq.out⟩
                        case measure => simp [intOf]; omega
              · obtain rfl : n = ks.length := by omega
                go_wp2_with fail
                go_roundw
                case rel => exact ⟨k + 1, hlt, by go_num, (by
                  intro a ha
                  rw [htake.out, List.mem_append, List.mem_singleton] at ha
                  rcases ha with ha | rfl
                  · exact HT.out a ha
                  · unfold fewKd
                    rw [show decide _ = true from HA.out, show decide (ks.length ≤ 15) = true from HA2.out, Bool.true_and, Bool.true_and, List.all_eq_true]
                    have := HT2.out
                    rw [List.take_length] at this
                    exact this), HSq.out, HBq.out⟩
                case measure => simp [intOf]; omega
      · obtain rfl : k = c.length := by omega
        have HE := Lib.hid (show fewCa c = true by
          have := HT.out
          rw [List.take_length] at this
          unfold fewCa; rw [Bool.and_eq_true, decide_eq_true_iff, List.all_eq_true]; exact ⟨hm, this⟩)
        go_wp2_with fail
        go_ret
        exact ⟨ret_bool HE.out.symm, HB.out⟩
  · have hm' : (65 : Int) < (c.length : Int) := by omega
    go_enter Tryz.func23, Tryz.ntmps23
    go_wp2_with fail
    go_ret
    exact ⟨ret_bool (by unfold fewCa; rw [decide_eq_false hm, Bool.false_and]), HB1.out⟩
end Go.Proofs.YtcpakaiblelmlaaGreatDoor
namespace Go.Proofs.YtcpakaiblelmlaaGreatDoor
open Go Go.RowKit
def ndN (e : Ex) (most : Nat) : Nat := min (cnt e) (most + 1)
set_option maxRecDepth 100000 in
set_option maxHeartbeats 8000000 in
theorem nodes_rec : ∀ (M : Nat) (e : Ex) (most : Nat) (kv : Value) (w : World), cnt e ≤ M → most ≤ 1000 → Lay w kv e.kids →
    Calls Tryz.prog 72 #[.agg #[.int .i64 e.op, .string e.name, .string e.value, .int .i64 e.n, .int .i64 e.extra, kv], .int .i64 most] w fun r w' => r = .returned (.int .i64 (ndN e most)) ∧ Below w.heap.size w w' := by
  intro M
  induction M with
  | zero => intro e most kv w hc; have := cnt_pos e; omega
  | succ M ih =>
    intro e most kv w hc hm hl
    have hE : ndN e most = min (1 + cnts e.kids) (most + 1) := by unfold ndN; rw [cnt_eq]; omega
    have hkid : ∀ k, k ∈ e.kids → cnt k ≤ M := fun k hk => by have := cnt_kid hk; omega
    rw [hE]
    obtain ⟨A, c, rfl, _⟩ := hl.slice
    have HL := Lib.hid hl
    have HK := Lib.hid hkid
    generalize e.kids = ks at *
    clear hE hl hkid hc
    go_enter Tryz.func72, Tryz.ntmps72
    go_wp2_with fail
    have HX := Lib.hid (Has.new w 27 #[.int .i64 e.op, .string e.name, .string e.value, .int .i64 e.n, .int .i64 e.extra, .slice A ks.length c])
    have HB := Lib.hid (show Below w.heap.size w (w.alloc (.cells #[.int .i64 e.op, .string e.name, .string e.value, .int .i64 e.n, .int .i64 e.extra, .slice A ks.length c] 27)) from (Below.refl _ _).alloc (Nat.le_refl _) _)
    have hz0 : w.heap.size < (w.alloc (.cells #[.int .i64 e.op, .string e.name, .string e.value, .int .i64 e.n, .int .i64 e.extra, .slice A ks.length c] 27)).heap.size := HX.out.lt
    generalize (w.alloc (.cells #[.int .i64 e.op, .string e.name, .string e.value, .int .i64 e.n, .int .i64 e.extra, .slice A ks.length c] 27)) = w0 at *
    go_loopw [5, 6] (fun n i wr => ∃ k m : Nat, i = .int .i64 k ∧ n = .int .i64 m ∧ k ≤ ks.length ∧ k + 1 ≤ m ∧ m ≤ most + 1 ∧ Hid (m = min (1 + cnts (ks.take k)) (most + 1)) ∧ Hid (Below w0.heap.size w0 wr)) (fun n _ _ => most + 2 - (intOf n).toNat)
    case atStart => exact ⟨0, 1, rfl, rfl, Nat.zero_le _, Nat.le_refl _, by omega, by show 1 = min (1 + cnts (ks.take 0)) (most + 1); rw [List.take_zero, cnts_nil]; omega, Below.refl _ _⟩
    case round =>
      obtain ⟨k, m, rfl, rfl, hk, hkm, hmm, HM, HW⟩ := hrel
      have hXr := HX.out.below HW.out hz0
      obtain ⟨d, f⟩ := hXr.facts
      by_cases hlt : k < ks.length
      · have hki : (k : Int) < (ks.length : Int) := by omega
        by_cases hle : m ≤ most
        · have hmi : (m : Int) ≤ (most : Int) := by omega
          have hLr := (HL.out.later HB.out).later HW.out
          obtain ⟨_, _, hkid⟩ := hLr.kid
          obtain ⟨b, o, kv, rfl, hcell, hkk⟩ := hkid k hlt
          have hc0 := hcell 0 (by decide)
          have hc1 := hcell 1 (by decide)
          have hc2 := hcell 2 (by decide)
          have hc3 := hcell 3 (by decide)
          have hc4 := hcell 4 (by decide)
          have hc5 := hcell 5 (by decide)
          simp only [exF, if_true, if_false, Nat.reduceEqDiff, Nat.add_one_ne_zero, ← Nat.add_assoc, Nat.add_zero] at hc0 hc1 hc2 hc3 hc4 hc5
          have HC := Lib.hid (ih ks[k] (most - m) kv _ (HK.out _ (List.getElem_mem hlt)) (by omega) hkk)
          have hsub : ((most - m : Nat) : Int) = (most : Int) - (m : Int) := by omega
          rw [hsub] at HC
          have htake : cnts (ks.take (k + 1)) = cnts (ks.take k) + cnt ks[k] := by
            rw [List.take_add_one, List.getElem?_eq_getElem hlt, cnts_app]
            show _ + cnts [ks[k]] = _
            rw [cnts_cons, cnts_nil]; omega
          have hpos := cnt_pos ks[k]
          have HN := Lib.hid (show m + ndN ks[k] (most - m) = min (1 + cnts (ks.take (k + 1))) (most + 1) ∧ k + 2 ≤ m + ndN ks[k] (most - m) ∧ m + ndN ks[k] (most - m) ≤ most + 1 ∧ 1 ≤ ndN ks[k] (most - m) by
            have h1 := HM.out
            unfold ndN
            rw [htake]
            omega)
          obtain ⟨Ak, ck, rfl, _⟩ := hkk.slice
          clear hkid hcell hkk htake hLr hsub hpos
          generalize ndN ks[k] (most - m) = z at *
          generalize ks[k] = ek at *
          have hzb : z ≤ 2000 := by have := HN.out; omega
          have hs1 : IntKind.i64.wrap ((most : Int) - (m : Int)) = (most : Int) - (m : Int) := IntWalk.i64_in _ (by omega)
          have hs2 : IntKind.i64.wrap ((m : Int) + (z : Int)) = (m : Int) + (z : Int) := IntWalk.i64_in _ (by omega)
          have hs3 : IntKind.i64.wrap ((k : Int) + 1) = (k : Int) + 1 := IntWalk.i64_in _ (by omega)
          go_wp2_with (go_at_call 72; refine HC.out.mono ?_; rintro r w2 ⟨rfl, hb2⟩; have HW2 := Lib.hid (HW.out.trans (hb2.mono HW.out.size)); clear hb2)
          go_roundw
          case rel => exact ⟨k + 1, m + z, by go_num, by go_num, hlt, by have := HN.out; omega, HN.out.2.2.1, HN.out.1, HW2⟩
          case measure => have := HN.out; simp [intOf]; omega
        · have hmi : ¬ (m : Int) ≤ (most : Int) := by omega
          have HF := Lib.hid (show (m : Int) = ((min (1 + cnts ks) (most + 1) : Nat) : Int) by
            have h1 := HM.out
            have h2 : cnts ks = cnts (ks.take k) + cnts (ks.drop k) := by rw [← cnts_app, List.take_append_drop]
            omega)
          go_wp2_with fail
          go_ret
          exact ⟨ret_int HF.out, HB.out.trans (HW.out.mono HB.out.size)⟩
      · have hki : ¬ (k : Int) < (ks.length : Int) := by omega
        have HF := Lib.hid (show (m : Int) = ((min (1 + cnts ks) (most + 1) : Nat) : Int) by
          have h1 := HM.out
          rw [List.take_of_length_le (by omega)] at h1
          omega)
        go_wp2_with fail
        go_ret
        exact ⟨ret_int HF.out, HB.out.trans (HW.out.mono HB.out.size)⟩
theorem nodes_any (e : Ex) (most : Nat) (kv : Value) (w : World) (hm : most ≤ 1000) (hl : Lay w kv e.kids) :
    Calls Tryz.prog 72 #[.agg #[.int .i64 e.op, .string e.name, .string e.value, .int .i64 e.n, .int .i64 e.extra, kv], .int .i64 most] w fun r w' => r = .returned (.int .i64 (ndN e most)) ∧ Below w.heap.size w w' := nodes_rec (cnt e) e most kv w (Nat.le_refl _) hm hl
mutual
/-- All strings of a condition have at most 300 bytes. -/
def shB : Ex → Bool
  | .mk _ a v _ _ ks => decide (a.size ≤ 300 ∧ v.size ≤ 300) && shsB ks
def shsB : List Ex → Bool
  | [] => true
  | k :: ks => shB k && shsB ks
end
theorem shB_eq (e : Ex) : shB e = (decide (e.name.size ≤ 300 ∧ e.value.size ≤ 300) && shsB e.kids) := by cases e; rw [shB]; rfl
theorem shsB_cons (k : Ex) (ks : List Ex) : shsB (k :: ks) = (shB k && shsB ks) := by rw [shsB]
theorem shsB_nil : shsB [] = true := by rw [shsB]
set_option maxRecDepth 100000 in
set_option maxHeartbeats 8000000 in
theorem short_rec : ∀ (M : Nat) (e : Ex) (kv : Value) (w : World), cnt e ≤ M → M ≤ 100000 → Lay w kv e.kids →
    Calls Tryz.prog 83 #[.agg #[.int .i64 e.op, .string e.name, .string e.value, .int .i64 e.n, .int .i64 e.extra, kv]] w fun r w' => r = .returned (.bool (shB e)) ∧ Below w.heap.size w w' := by
  intro M
  induction M with
  | zero => intro e kv w hc; have := cnt_pos e; omega
  | succ M ih =>
    intro e kv w hc hM hl
    have hE := shB_eq e
    have hkid : ∀ k, k ∈ e.kids → cnt k ≤ M := fun k hk => by have := cnt_kid hk; omega
    have hlen : e.kids.length ≤ 100000 := by
      have := len_cnts e.kids
      have := cnt_eq e
      omega
    rw [hE]
    obtain ⟨A, c, rfl, _⟩ := hl.slice
    have HL := Lib.hid hl
    have HK := Lib.hid hkid
    generalize e.kids = ks at *
    clear hE hl hkid hc
    have HX := Lib.hid (Has.new w 27 #[.int .i64 e.op, .string e.name, .string e.value, .int .i64 e.n, .int .i64 e.extra, .slice A ks.length c])
    have HB := Lib.hid (show Below w.heap.size w (w.alloc (.cells #[.int .i64 e.op, .string e.name, .string e.value, .int .i64 e.n, .int .i64 e.extra, .slice A ks.length c] 27)) from (Below.refl _ _).alloc (Nat.le_refl _) _)
    by_cases h1 : e.name.size ≤ 300
    · have h1i : ¬ (300 : Int) < (e.name.size : Int) := by omega
      by_cases h2 : e.value.size ≤ 300
      · have h2i : ¬ (300 : Int) < (e.value.size : Int) := by omega
        rw [decide_eq_true ⟨h1, h2⟩, Bool.true_and]
        go_enter Tryz.func83, Tryz.ntmps83
        go_wp2_with fail
        have hz0 : w.heap.size < (w.alloc (.cells #[.int .i64 e.op, .string e.name, .string e.value, .int .i64 e.n, .int .i64 e.extra, .slice A ks.length c] 27)).heap.size := HX.out.lt
        generalize (w.alloc (.cells #[.int .i64 e.op, .string e.name, .string e.value, .int .i64 e.n, .int .i64 e.extra, .slice A ks.length c] 27)) = w0 at *
        go_loopw [3] (fun i wr => ∃ k : Nat, i = .int .i64 k ∧ k ≤ ks.length ∧ Hid (shsB ks = shsB (ks.drop k)) ∧ Hid (Below w0.heap.size w0 wr)) (fun i _ => ks.length - (intOf i).toNat)
        case atStart => exact ⟨0, rfl, Nat.zero_le _, rfl, Below.refl _ _⟩
        case round =>
          obtain ⟨k, rfl, hk, HE, HW⟩ := hrel
          have hXr := HX.out.below HW.out hz0
          obtain ⟨d, f⟩ := hXr.facts
          by_cases hlt : k < ks.length
          · have hki : (k : Int) < (ks.length : Int) := by omega
            have hLr := (HL.out.later HB.out).later HW.out
            obtain ⟨_, _, hkid⟩ := hLr.kid
            obtain ⟨b, o, kv, rfl, hcell, hkk⟩ := hkid k hlt
            have hc0 := hcell 0 (by decide)
            have hc1 := hcell 1 (by decide)
            have hc2 := hcell 2 (by decide)
            have hc3 := hcell 3 (by decide)
            have hc4 := hcell 4 (by decide)
            have hc5 := hcell 5 (by decide)
            simp only [exF, if_true, if_false, Nat.reduceEqDiff, Nat.add_one_ne_zero, ← Nat.add_assoc, Nat.add_zero] at hc0 hc1 hc2 hc3 hc4 hc5
            have HC := Lib.hid (ih ks[k] kv _ (HK.out _ (List.getElem_mem hlt)) (by omega) hkk)
            have HE2 := Lib.hid (show shsB ks = (shB ks[k] && shsB (ks.drop (k + 1))) by rw [HE.out, List.drop_eq_getElem_cons hlt, shsB_cons])
            obtain ⟨Ak, ck, rfl, _⟩ := hkk.slice
            clear hkid hcell hkk hLr
            generalize ks[k] = ek at *
            cases hb : shB ek with
            | true =>
              rw [hb] at HC HE2
              have HE3 := Lib.hid (HE2.out.trans (Bool.true_and _))
              clear HE2
              go_wp2_with (go_at_call 83; refine HC.out.mono ?_; rintro r w2 ⟨rfl, hb2⟩; have HW2 := Lib.hid (HW.out.trans (hb2.mono HW.out.size)); clear hb2)
              go_roundw
              case rel => exact ⟨k + 1, by go_num, hlt, HE3, HW2⟩
              case measure => simp [intOf]; omega
            | false =>
              rw [hb] at HC HE2
              have HE3 := Lib.hid (HE2.out.trans (Bool.false_and _))
              clear HE2
              go_wp2_with (go_at_call 83; refine HC.out.mono ?_; rintro r w2 ⟨rfl, hb2⟩; have HW2 := Lib.hid (HW.out.trans (hb2.mono HW.out.size)); clear hb2)
              go_ret
              exact ⟨ret_bool HE3.out.symm, HB.out.trans (HW2.out.mono HB.out.size)⟩
          · have hki : ¬ (k : Int) < (ks.length : Int) := by omega
            have HE3 := Lib.hid (show shsB ks = true by rw [HE.out, List.drop_of_length_le (by omega), shsB_nil])
            go_wp2_with fail
            go_ret
            exact ⟨ret_bool HE3.out.symm, HB.out.trans (HW.out.mono HB.out.size)⟩
      · have h2i : (300 : Int) < (e.value.size : Int) := by omega
        rw [decide_eq_false (fun h => h2 h.2), Bool.false_and]
        go_enter Tryz.func83, Tryz.ntmps83
        go_wp2_with fail
        go_ret
        exact ⟨rfl, HB.out⟩
    · have h1i : (300 : Int) < (e.name.size : Int) := by omega
      rw [decide_eq_false (fun h => h1 h.1), Bool.false_and]
      go_enter Tryz.func83, Tryz.ntmps83
      go_wp2_with fail
      go_ret
      exact ⟨rfl, HB.out⟩
end Go.Proofs.YtcpakaiblelmlaaGreatDoor
namespace Go.Proofs.YtcpakaiblelmlaaGreatDoor
open Go Go.RowKit
def fewE (e : Ex) : Bool := decide (cnt e ≤ 80) && shB e
set_option maxRecDepth 100000 in
set_option maxHeartbeats 4000000 in
theorem fewCond_any (e : Ex) (kv : Value) (w : World) (hl : Lay w kv e.kids) :
    Calls Tryz.prog 47 #[.agg #[.int .i64 e.op, .string e.name, .string e.value, .int .i64 e.n, .int .i64 e.extra, kv]] w fun r w' => r = .returned (.bool (fewE e)) ∧ Below w.heap.size w w' := by
  have hb : Below w.heap.size w (w.alloc (.cells #[.int .i64 e.op, .string e.name, .string e.value, .int .i64 e.n, .int .i64 e.extra, kv] 27)) := (Below.refl _ _).alloc (Nat.le_refl _) _
  have HN := Lib.hid (nodes_any e 80 kv _ (by decide) (hl.later hb))
  have HS := Lib.hid (fun (hc : cnt e ≤ 80) (W : World) (h : Lay W kv e.kids) => short_rec 80 e kv W hc (by decide) h)
  have HL := Lib.hid (hl.later hb)
  have HB := Lib.hid hb
  have HX := Lib.hid (Has.new w 27 #[.int .i64 e.op, .string e.name, .string e.value, .int .i64 e.n, .int .i64 e.extra, kv])
  obtain ⟨A, c, rfl, _⟩ := hl.slice
  clear hb hl
  by_cases hc : cnt e ≤ 80
  · have hle : ((ndN e 80 : Nat) : Int) ≤ 80 := by unfold ndN; omega
    have HE := Lib.hid (show fewE e = shB e by unfold fewE; rw [decide_eq_true hc, Bool.true_and])
    have HSS := Lib.hid (HS.out hc)
    clear HS hc
    generalize ndN e 80 = z at *
    go_enter Tryz.func47, Tryz.ntmps47
    go_wp2_with (first
      | (go_at_call 72; refine HN.out.mono ?_; clear HN; rintro r w2 ⟨rfl, hb2⟩; have HW2 := Lib.hid (HB.out.trans (hb2.mono HB.out.size)); have HL2 := Lib.hid (HL.out.later hb2); obtain ⟨d, f⟩ := (HX.out.below hb2 HX.out.lt).facts; clear hb2)
      | (go_at_call 83; refine (HSS.out _ HL2.out).mono ?_; rintro r w3 ⟨rfl, hb3⟩; have HW3 := Lib.hid (HW2.out.trans (hb3.mono HW2.out.size)); clear hb3))
    go_ret
    exact ⟨ret_bool HE.out.symm, HW3.out⟩
  · have hle : ¬ ((ndN e 80 : Nat) : Int) ≤ 80 := by unfold ndN; omega
    have HE := Lib.hid (show fewE e = false by unfold fewE; rw [decide_eq_false hc, Bool.false_and])
    clear HS hc
    generalize ndN e 80 = z at *
    go_enter Tryz.func47, Tryz.ntmps47
    go_wp2_with (go_at_call 72; refine HN.out.mono ?_; clear HN; rintro r w2 ⟨rfl, hb2⟩; have HW2 := Lib.hid (HB.out.trans (hb2.mono HB.out.size)); clear hb2)
    go_ret
    exact ⟨ret_bool HE.out.symm, HW2.out⟩
def fewU (r : Ru) : Bool := decide (IntKind.i64.wrap ((r.name.size : Int) + (r.kind.size : Int)) ≤ 300) && fewE r.cond
set_option maxRecDepth 100000 in
set_option maxHeartbeats 4000000 in
theorem few1_any (r : Ru) (kv : Value) (w : World) (hl : Lay w kv r.cond.kids) :
    Calls Tryz.prog 24 #[.agg (ruA r kv)] w fun e w' => e = .returned (.bool (fewU r)) ∧ Below w.heap.size w w' := by
  have hb : Below w.heap.size w (w.alloc (.cells (ruA r kv) 29)) := (Below.refl _ _).alloc (Nat.le_refl _) _
  have HN := Lib.hid (fewCond_any r.cond kv _ (hl.later hb))
  have HB := Lib.hid hb
  have HE := Lib.hid (show fewU r = (decide (IntKind.i64.wrap ((r.name.size : Int) + (r.kind.size : Int)) ≤ 300) && fewE r.cond) from rfl)
  obtain ⟨z, hz⟩ : ∃ z, IntKind.i64.wrap ((r.name.size : Int) + (r.kind.size : Int)) = z := ⟨_, rfl⟩
  rw [hz] at HE
  obtain ⟨A, c, rfl, _⟩ := hl.slice
  dsimp only [ruA] at *
  clear hb hl
  by_cases hc : z ≤ 300
  · have HE2 := Lib.hid (show fewU r = fewE r.cond by rw [HE.out, decide_eq_true hc, Bool.true_and])
    clear HE
    go_enter Tryz.func24, Tryz.ntmps24
    go_wp2_with (go_at_call 47; refine HN.out.mono ?_; rintro e w2 ⟨rfl, hb2⟩; have HW2 := Lib.hid (HB.out.trans (hb2.mono HB.out.size)); clear hb2)
    go_ret
    exact ⟨ret_bool HE2.out.symm, HW2.out⟩
  · have HE2 := Lib.hid (show fewU r = false by rw [HE.out, decide_eq_false hc, Bool.false_and])
    clear HE
    go_enter Tryz.func24, Tryz.ntmps24
    go_wp2_with fail
    go_ret
    exact ⟨ret_bool HE2.out.symm, HB.out⟩
end Go.Proofs.YtcpakaiblelmlaaGreatDoor
namespace Go.Proofs.YtcpakaiblelmlaaGreatDoor
open Go Go.RowKit
attribute [local go_sem] Oper.semAt_some
mutual
/-- The nodes of a condition, in the order of its text. -/
def nodE : Ex → List Ex
  | .mk op name value n extra ks => .mk op name value n extra ks :: nodL ks
def nodL : List Ex → List Ex
  | [] => []
  | e :: ks => nodE e ++ nodL ks
end
theorem nodE_eq (e : Ex) : nodE e = e :: nodL e.kids := by cases e; rw [nodE]; rfl
theorem nodL_nil : nodL [] = [] := by rw [nodL]
theorem nodL_cons (e : Ex) (ks : List Ex) : nodL (e :: ks) = nodE e ++ nodL ks := by rw [nodL]
theorem nodL_snoc : ∀ (l : List Ex) (e : Ex), nodL (l ++ [e]) = nodL l ++ nodE e
  | [], e => by rw [List.nil_append, nodL_cons, nodL_nil, List.append_nil, List.nil_append]
  | k :: l, e => by rw [List.cons_append, nodL_cons, nodL_cons, nodL_snoc l e, List.append_assoc]
def ownN (e : Ex) : List ByteArray := if e.op = 5 ∨ e.op = 6 then [e.name] else []
mutual
theorem nod_limE : ∀ e : Ex, (nodE e).flatMap ownN = limL e
  | .mk op name value n extra ks => by rw [nodE, limL, List.flatMap_cons, nod_limL ks]; rfl
theorem nod_limL : ∀ ks : List Ex, (nodL ks).flatMap ownN = limsL ks
  | [] => by rw [nodL, limsL]; rfl
  | e :: ks => by rw [nodL, limsL, List.flatMap_append, nod_limE e, nod_limL ks]
end
mutual
theorem nod_lenE : ∀ e : Ex, (nodE e).length = cnt e
  | .mk op name value n extra ks => by rw [nodE, cnt, List.length_cons, nod_lenL ks]
theorem nod_lenL : ∀ ks : List Ex, (nodL ks).length = cnts ks
  | [] => by rw [nodL, cnts]; rfl
  | e :: ks => by rw [nodL, cnts, List.length_append, nod_lenE e, nod_lenL ks]
end
/-- What a round keeps: every block of cells. -/
def KpO (A B : World) : Prop := ∀ (k : Nat) (o : Obj), A.heap[k]? = some o → o.isCells = true → B.heap[k]? = some o
theorem KpO.refl (A : World) : KpO A A := fun _ _ h _ => h
theorem KpO.trans {A B C : World} (h : KpO A B) (h' : KpO B C) : KpO A C := fun k o hk hc => h' k o (h k o hk hc) hc
theorem KpO.of_below {A B : World} (h : Below A.heap.size A B) : KpO A B := fun k o hk _ => (h.block k (by
  rcases Nat.lt_or_ge k A.heap.size with h | h
  · exact h
  · rw [Array.getElem?_eq_none h] at hk; cases hk)).trans hk
theorem KpO.putObj {A : World} {l : Nat} {o : Obj} (o' : Obj) (h : A.heap[l]? = some o) (hc : o.isCells = false) : KpO A (A.putObj l o') := fun k p hk hp => by
  have hne : k ≠ l := fun e => by
    subst e
    rw [h] at hk
    injection hk with hk
    subst hk
    rw [hc] at hp
    cases hp
  rw [World.putObj_heap_other hne]; exact hk
theorem Has.kpo {A B : World} {k t : Nat} {cs : Array Value} (h : Has A k t cs) (hk : KpO A B) : Has B k t cs := hk k _ h rfl
theorem KpO.keeps {A B : World} (h : KpO A B) : KeepsC A B := fun b ⟨o, v, _, hv⟩ j => by
  unfold World.cell? at hv ⊢
  cases hb : A.heap[b]? with
  | none => rw [show A.heap[(⟨b, o, none⟩ : Addr).block]? = none from hb] at hv; cases hv
  | some ob =>
    cases ob with
    | cells cs t fr =>
      have hB := h b _ hb rfl
      show (match B.heap[b]? with | _ => _) = (match A.heap[b]? with | _ => _)
      rw [hB, hb]
    | _ => rw [show A.heap[(⟨b, o, none⟩ : Addr).block]? = _ from hb] at hv; cases hv
/-- A node that is handed over: its tree, and where its kids' slice lies. -/
abbrev NdX := Ex × Option Addr × Nat
def kidV (x : NdX) : Value := .slice x.2.1 x.1.kids.length x.2.2
def exV (x : NdX) : Value := .agg (exA x.1 (kidV x))
def YieldsE (l m N : Nat) (J Jx : List NdX → World → Prop) : Prop :=
  ∀ pre x W, J pre W → pre.length < N → YieldAt Fence.wide m Tryz.prog l #[exV x] W fun e W' => (e = .returned (.bool true) ∧ J (pre ++ [x]) W' ∧ KpO W W') ∨ (e = .returned (.bool false) ∧ Jx (pre ++ [x]) W')
/-- What the walk over a condition leaves. -/
def NdR (J Jx : List NdX → World → Prop) (pre : List NdX) (l : List Ex) (W : World) (r : Ending) (W' : World) : Prop :=
  (r = .returned (.bool true) ∧ ∃ xs, xs.map (·.1) = l ∧ J (pre ++ xs) W' ∧ KpO W W') ∨ (r = .returned (.bool false) ∧ ∃ xs, Jx (pre ++ xs) W')
section
variable {l m N : Nat} {J Jx : List NdX → World → Prop}
set_option maxRecDepth 100000 in
set_option maxHeartbeats 8000000 in
theorem nd_step (hY : YieldsE l m N J Jx) (hJ : ∀ pre A B, J pre A → Below A.heap.size A B → J pre B) (yb wb : Nat) (op : Int) (name value : ByteArray) (n extra : Int) (ks : List Ex) (A : Option Addr) (cc : Nat) (pre : List NdX) (W : World)
    (hln : ks.length ≤ 1000000) (hN : pre.length + cnt (.mk op name value n extra ks) ≤ N) (hlay : Lay W (.slice A ks.length cc) ks) (hy : Has W yb 63 #[.func (.yield l) #[] #[]]) (hw : Has W wb 63 #[.func (.func 71) #[] #[.pointer (some ⟨yb, 0, none⟩), .pointer (some ⟨wb, 0, none⟩)]]) (h0 : J pre W)
    (hih : ∀ e ∈ ks, ∀ (kv : Value) (pre : List NdX) (W : World), Lay W kv e.kids → Has W yb 63 #[.func (.yield l) #[] #[]] → Has W wb 63 #[.func (.func 71) #[] #[.pointer (some ⟨yb, 0, none⟩), .pointer (some ⟨wb, 0, none⟩)]] → J pre W → pre.length + cnt e ≤ N → Calls Tryz.prog 71 #[.agg #[.int .i64 e.op, .string e.name, .string e.value, .int .i64 e.n, .int .i64 e.extra, kv], .pointer (some ⟨yb, 0, none⟩), .pointer (some ⟨wb, 0, none⟩)] W (NdR J Jx pre (nodE e) W)) :
    Calls Tryz.prog 71 #[.agg #[.int .i64 op, .string name, .string value, .int .i64 n, .int .i64 extra, .slice A ks.length cc], .pointer (some ⟨yb, 0, none⟩), .pointer (some ⟨wb, 0, none⟩)] W (NdR J Jx pre (nodE (.mk op name value n extra ks)) W) := by
  have HK1 := Lib.hid (KpO.of_below ((Below.refl W.heap.size W).alloc (Nat.le_refl _) (.cells #[.int .i64 op, .string name, .string value, .int .i64 n, .int .i64 extra, .slice A ks.length cc] 27)))
  have HB1 := Lib.hid (Has.new W 27 #[.int .i64 op, .string name, .string value, .int .i64 n, .int .i64 extra, .slice A ks.length cc])
  have HIH := Lib.hid hih
  have HJ := Lib.hid hJ
  have HLay := Lib.hid hlay
  have HYB := Lib.hid hy
  have HWB := Lib.hid hw
  have HNN := Lib.hid hN
  have HLN := Lib.hid hln
  have HY1 := Lib.hid (hY pre (.mk op name value n extra ks, A, cc) (W.alloc (.cells #[.int .i64 op, .string name, .string value, .int .i64 n, .int .i64 extra, .slice A ks.length cc] 27)) (hJ _ _ _ h0 ((Below.refl _ _).alloc (Nat.le_refl _) _)) (by have := cnt_pos (.mk op name value n extra ks); omega))
  clear hih hY hJ hlay hy hw hN h0 hln
  go_enter Tryz.func71, Tryz.ntmps71
  go_upto_region 1 with fail
  generalize (W.alloc (.cells #[.int .i64 op, .string name, .string value, .int .i64 n, .int .i64 extra, .slice A ks.length cc] 27)) = W1 at *
  obtain ⟨c1, f1⟩ := HB1.out.facts
  obtain ⟨c2, f2⟩ := (HYB.out.kpo HK1.out).facts
  obtain ⟨fn, tmps, assign, body, hy, hR⟩ := HY1.out
  dsimp only [exV, kidV, exA, Ex.op, Ex.name, Ex.value, Ex.n, Ex.extra, Ex.kids] at hy
  refine (wpIn_wide (n := m + 1)).1 ?_
  have hm1 : 1 ≤ m + 1 := Nat.succ_pos m
  gi_wp2
  refine hR.mono ?_
  rintro e W3 (⟨rfl, hJ3, hk3⟩ | ⟨rfl, hJx3⟩)
  · have HK3 := Lib.hid (HK1.out.trans hk3)
    have HJ3 := Lib.hid hJ3
    have HB3 := Lib.hid (HB1.out.kpo hk3)
    clear hJ3 hk3 c1 f1 c2 f2 hy hR
    obtain ⟨c1, f1⟩ := HB3.out.facts
    gi_wp2
    go_wp2_with fail
    go_loopw [14] (fun i wr => ∃ (k : Nat) (xs : List NdX), i = .int .i64 k ∧ k ≤ ks.length ∧ Hid (xs.map (·.1) = .mk op name value n extra ks :: nodL (ks.take k)) ∧ Hid (J (pre ++ xs) wr) ∧ Hid (KpO W wr)) (fun i _ => ks.length - (intOf i).toNat)
    case atStart => exact ⟨0, [(.mk op name value n extra ks, A, cc)], rfl, Nat.zero_le _, Lib.hid (by rw [List.take_zero, nodL_nil]; rfl), HJ3, HK3⟩
    case round =>
      obtain ⟨k, xs, rfl, hk, HX, HJr, HKr⟩ := hrel
      clear HJ3 HK3 HB3 c1 f1
      by_cases hlt : k < ks.length
      · have hki : (k : Int) < (ks.length : Int) := by omega
        have hs3 : IntKind.i64.wrap ((k : Int) + 1) = (k : Int) + 1 := IntWalk.i64_in _ (by have := HLN.out; omega)
        obtain ⟨_, _, hkid⟩ := LayS.kid (HLay.out.keeps HKr.out.keeps)
        obtain ⟨kb, ko, kv2, rfl, hcell, hkk⟩ := hkid k hlt
        have hc0 := hcell 0 (by decide)
        have hc1 := hcell 1 (by decide)
        have hc2 := hcell 2 (by decide)
        have hc3 := hcell 3 (by decide)
        have hc4 := hcell 4 (by decide)
        have hc5 := hcell 5 (by decide)
        simp only [exF, if_true, if_false, Nat.reduceEqDiff, Nat.add_one_ne_zero, ← Nat.add_assoc, Nat.add_zero] at hc0 hc1 hc2 hc3 hc4 hc5
        have HSN := Lib.hid (show nodL (ks.take (k + 1)) = nodL (ks.take k) ++ nodE ks[k] by rw [List.take_add_one, List.getElem?_eq_getElem hlt, Option.toList_some, nodL_snoc])
        have HLE := Lib.hid (show (pre ++ xs).length + cnt ks[k] ≤ N by
          have h1 := congrArg List.length HX.out
          have h2 := HNN.out
          have h3 : cnts (ks.take k) + cnt ks[k] ≤ cnts ks := by
            have h4 := cnts_app (ks.take k) (ks.drop k)
            rw [List.take_append_drop] at h4
            have h5 : ks[k] ∈ ks.drop k := by rw [List.drop_eq_getElem_cons hlt]; exact List.mem_cons_self ..
            have := cnt_mem h5
            omega
          rw [List.length_map, List.length_cons, nod_lenL] at h1
          rw [cnt_eq] at h2
          dsimp only [Ex.kids] at h2
          rw [List.length_append]
          omega)
        have HC := Lib.hid (HIH.out ks[k] (List.getElem_mem hlt))
        have HKK := Lib.hid hkk
        have HYr := Lib.hid (HYB.out.kpo HKr.out)
        have HWr := Lib.hid (HWB.out.kpo HKr.out)
        obtain ⟨Ak, ck, rfl, _⟩ := hkk.slice
        clear hkid hcell hkk
        generalize ks[k] = ek at *
        have HBk := Lib.hid ((Below.refl wr.heap.size wr).alloc (Nat.le_refl _) (.cells #[.int .i64 ek.op, .string ek.name, .string ek.value, .int .i64 ek.n, .int .i64 ek.extra, .slice Ak ek.kids.length ck] 27))
        have HCC := Lib.hid (HC.out _ (pre ++ xs) _ (HKK.out.later HBk.out) (HYr.out.alloc _) (HWr.out.alloc _) (HJ.out _ _ _ HJr.out HBk.out) HLE.out)
        obtain ⟨c8, f8⟩ := (HWr.out.alloc (.cells #[.int .i64 ek.op, .string ek.name, .string ek.value, .int .i64 ek.n, .int .i64 ek.extra, .slice Ak ek.kids.length ck] 27)).facts
        go_wp2_with (go_at_call 71; refine HCC.out.mono ?_; clear c8 f8; rintro r W5 (⟨rfl, ys, hys, hJ5, hk5⟩ | ⟨rfl, ys, hJx5⟩))
        · have HK5 := Lib.hid ((HKr.out.trans (.of_below HBk.out)).trans hk5)
          have HJ5 := Lib.hid hJ5
          have HX5 := Lib.hid (show (xs ++ ys).map (·.1) = .mk op name value n extra ks :: nodL (ks.take (k + 1)) by rw [List.map_append, HX.out, hys, HSN.out]; rfl)
          clear hys hJ5 hk5
          go_wp2_with fail
          go_roundw
          case rel => exact ⟨k + 1, xs ++ ys, by go_num, hlt, HX5, Lib.hid (by rw [← List.append_assoc]; exact HJ5.out), HK5⟩
          case measure => simp [intOf]; omega
        · have HF := Lib.hid (show NdR J Jx pre (nodE (.mk op name value n extra ks)) W (.returned (.bool false)) W5 from .inr ⟨rfl, xs ++ ys, by rw [← List.append_assoc]; exact hJx5⟩)
          clear hJx5
          go_wp2_with fail
          go_ret
          exact HF.out
      · have hki : ¬ (k : Int) < (ks.length : Int) := by omega
        obtain rfl : k = ks.length := by omega
        rw [List.take_length] at HX
        have HF := Lib.hid (show NdR J Jx pre (nodE (.mk op name value n extra ks)) W (.returned (.bool true)) wr from .inl ⟨rfl, xs, HX.out.trans (nodE_eq _).symm, HJr.out, HKr.out⟩)
        go_wp2_with fail
        go_ret
        exact HF.out
  · have HF := Lib.hid (show NdR J Jx pre (nodE (.mk op name value n extra ks)) W (.returned (.bool false)) W3 from .inr ⟨rfl, [(.mk op name value n extra ks, A, cc)], hJx3⟩)
    clear hJx3
    gi_wp2
    go_wp2_with fail
    go_ret
    exact HF.out
theorem nd_rec (hY : YieldsE l m N J Jx) (hJ : ∀ pre A B, J pre A → Below A.heap.size A B → J pre B) (yb wb : Nat) : ∀ (M : Nat) (e : Ex) (kv : Value) (pre : List NdX) (W : World), cnt e ≤ M → M ≤ 1000000 → Lay W kv e.kids → Has W yb 63 #[.func (.yield l) #[] #[]] → Has W wb 63 #[.func (.func 71) #[] #[.pointer (some ⟨yb, 0, none⟩), .pointer (some ⟨wb, 0, none⟩)]] → J pre W → pre.length + cnt e ≤ N →
    Calls Tryz.prog 71 #[.agg #[.int .i64 e.op, .string e.name, .string e.value, .int .i64 e.n, .int .i64 e.extra, kv], .pointer (some ⟨yb, 0, none⟩), .pointer (some ⟨wb, 0, none⟩)] W (NdR J Jx pre (nodE e) W)
  | 0, e, _, _, _, hM, _, _, _, _, _, _ => absurd hM (by have := cnt_pos e; omega)
  | M + 1, .mk op name value n extra ks, kv, pre, W, hM, h1, hlay, hy, hw, h0, hN => by
    have hc := cnt_eq (.mk op name value n extra ks)
    dsimp only [Ex.kids] at hc hlay
    obtain ⟨A, cc, rfl, _⟩ := hlay.slice
    exact nd_step hY hJ yb wb op name value n extra ks A cc pre W (by have := len_cnts ks; omega) hN hlay hy hw h0 fun e he kv pre W hl hy hw h0 hN => nd_rec hY hJ yb wb M e kv pre W (by have := cnt_mem he; omega) (by omega) hl hy hw h0 hN
end
end Go.Proofs.YtcpakaiblelmlaaGreatDoor
namespace Go.Proofs.YtcpakaiblelmlaaGreatDoor
open Go Go.RowKit Go.ChangeShapes Go.WideShapes Go.ChangeAt
section
variable {H : Type} {enc : TypeId × Value → H} {P : Program} {W W' : World}
theorem trodAll_below (hl : laidOutB P = true) (hb : Below W.heap.size W W') : ∀ (ts : List TypeId) (vs : List Value) (ds : List (DataW H)) (ps : List MemPlace),
    (ts.all fun t => P.readableRec t && decide (t < P.types.size)) = true → DataW.TrodAll enc P W 0 (fun _ => true) true ts vs ds ps → (∀ x ∈ ps, x.block < W.heap.size) →
    DataW.TrodAll enc P W' 0 (fun b => decide (b < W.heap.size)) true ts vs ds ps
  | [], vs, ds, ps, _, h, _ => by
    obtain ⟨rfl, rfl, rfl⟩ := trodAll_nil h
    exact trodAll_mk0
  | t :: ts, vs, ds, ps, ht, h, hp => by
    obtain ⟨v, vs', d, ds', p, q, rfl, rfl, rfl, h1, h2⟩ := trodAll_cons h
    simp only [List.all_cons, Bool.and_eq_true, decide_eq_true_eq] at ht
    exact trodAll_cons_mk (Below.trod hl ht.1.1 ht.1.2 h1 hb fun x hx => hp x (List.mem_append.2 (.inl hx))) (trodAll_below hl hb ts vs' ds' q ht.2 h2 fun x hx => hp x (List.mem_append.2 (.inr hx)))
/-- What a law owes behind its walk. -/
theorem law_post {f : Func} {s : ChangeSpec} {args : Array Value} {ds gs : List (DataW H)} {before : List MemPlace} {T : TypeId} (hsv : s.vars = []) (hl : laidOutB P = true)
    (hread : (f.params.toList.all fun t => P.readableRec t && decide (t < P.types.size)) = true) (hrt : f.resultTypes = #[T]) (hT : P.underlying T = some .bool)
    (hW : DataW.Whole enc P f.params.toList s.vars false W args.toList ds gs before) (hspec : s.fn H (ds ++ gs) = { results := [.lit (.bool true)], args := ds }) (hb : Below W.heap.size W W') :
    s.post enc P f false true false false W args (.bool true) W' := by
  have hW' := hW
  obtain ⟨p, q, hA, hV, rfl, hfz, hnd⟩ := hW
  rw [hsv] at hV
  obtain ⟨rfl, rfl⟩ := trodVars_none hV
  refine ⟨ds, [], p ++ [], [], p, [], hW', ?_, ?_, ?_, hb.frame _, fun h => by cases h⟩
  · rw [hspec, hrt]
    exact trodAll_cons_mk (shut_bool hT true) trodAll_mk0
  · rw [hspec]
    exact trodAll_below hl hb _ _ _ _ hread hA fun x hx => hW'.lt x (by simpa using hx)
  · rw [hspec, hsv]
    exact rfl
/-- The value that a slice argument is, as a list of one cell. -/
theorem slice_cells {base : Nat} {spare : Nat → Bool} {held : Bool} {t e : TypeId} {v : Value} {d : DataW H} {ps : List MemPlace} {r : Reach} {b0 : Nat} (ht : P.underlying t = some (.slice e))
    (hv : Value.okWide P W r b0 t v) (h : DataW.Trod enc P W base spare held t v d ps) : ∃ fuel, DataW.trod enc P W base spare held fuel t [v] = some (d, ps) := by
  obtain ⟨a, n, c, rfl⟩ := okWide_slice ht hv
  exact h
theorem string_cells {base : Nat} {spare : Nat → Bool} {held : Bool} {t : TypeId} {v : Value} {d : DataW H} {ps : List MemPlace} {r : Reach} {b0 : Nat} (ht : P.underlying t = some .string)
    (hv : Value.okWide P W r b0 t v) (h : DataW.Trod enc P W base spare held t v d ps) : ∃ s : ByteArray, v = .string s ∧ s.size ≤ maxLen := by
  obtain ⟨s, rfl⟩ := okWide_string ht hv
  obtain ⟨fuel, hf⟩ := h
  obtain ⟨a, ha, _, hs⟩ := DataW.trod_string ht hf
  have : s = a := by simpa [Value.cells] using ha
  subst this
  exact ⟨s, rfl, hs⟩
theorem struct_cells {base : Nat} {spare : Nat → Bool} {held : Bool} {t : TypeId} {fs : Array Field} {v : Value} {d : DataW H} {ps : List MemPlace} {r : Reach} {b0 : Nat} (ht : P.underlying t = some (.struct fs))
    (hv : Value.okWide P W r b0 t v) (h : DataW.Trod enc P W base spare held t v d ps) : ∃ cs : Array Value, v = .agg cs ∧ cs.size = P.cellsOf t ∧ ∃ fuel, DataW.trod enc P W base spare held fuel t cs.toList = some (d, ps) := by
  obtain ⟨cs, rfl, hs⟩ := okWide_struct ht hv
  exact ⟨cs, rfl, hs, h⟩
end
theorem own : ownKnob Tryz.prog.godebug = none := by kernel_rfl
theorem laidOut : laidOutB Tryz.prog = true := by kernel_rfl
end Go.Proofs.YtcpakaiblelmlaaGreatDoor
namespace Go.Proofs.YtcpakaiblelmlaaGreatDoor
open Go Go.RowKit Go.ChangeShapes Go.WideShapes Go.Deep
section
variable {H : Type} {enc : TypeId × Value → H} {w : World} {base : Nat} {spare : Nat → Bool} {held : Bool}
theorem cBC : Tryz.prog.cellsOf 4 = 1 := by kernel_rfl
theorem cSC : Tryz.prog.cellsOf 39 = 1 := by kernel_rfl
theorem cLC : Tryz.prog.cellsOf 36 = 1 := by kernel_rfl
theorem cKC : Tryz.prog.cellsOf 22 = 1 := by kernel_rfl
theorem rdl_rows {α : Type} {C : Nat} {R : World → List Value → α → Prop} {v : Value} {A : Option Addr} {c : Nat} {l : List α} (hv : v = .slice A l.length c) (hn : l.length ≤ c)
    (h : l.length = 0 ∨ ∃ b o, A = some ⟨b, o, none⟩ ∧ ∀ i a, l[i]? = some a → ∃ cs, R w cs a ∧ cs.length = C ∧ ∀ j u, cs[j]? = some u → w.cell? ⟨b, o + i * C + j, none⟩ = some u) : RdL C R w v l :=
  ⟨A, c, hv, hn, h.imp id fun ⟨b, o, hA, hc⟩ => ⟨b, o, hA, fun i a hi => by
    obtain ⟨cs, h1, h2, h3⟩ := hc i a hi
    exact ⟨cs, h1, h2, h3⟩⟩⟩
theorem open_strsC {n : Nat} {v : Value} {y : DataW H × List MemPlace} (h : DataW.trod enc Tryz.prog w base spare held n 39 [v] = some y) :
    ∃ l : List ByteArray, Sl w v l.length 1 (strF l) := by
  obtain ⟨A, c, l, hv, hn, _, h1⟩ := open_rowsE ByteArray.empty (fun cs (a : ByteArray) => cs = [.string a]) Tryz.underlying39 cSE (by omega) (fun n cs y _ h hl => by
    match cs, hl with
    | [c], _ =>
      obtain ⟨a, rfl, _⟩ := open_strE Tryz.underlying9 h
      exact ⟨a, rfl⟩) h
  refine ⟨l, A, c, hv, hn, h1.imp id fun ⟨b, o, hA, hc⟩ => ⟨b, o, hA, fun j hj => ?_⟩⟩
  have hj' : j < l.length := by omega
  obtain ⟨cs, rfl, _, hr⟩ := hc j (l[j]'hj') (List.getElem?_eq_getElem hj')
  have := hr 0 _ rfl
  rw [Nat.mul_one, Nat.add_zero] at this
  rw [this]
  unfold strF
  rw [List.getD_eq_getElem?_getD, List.getElem?_eq_getElem hj']
  rfl
theorem open_boolC {t : TypeId} {n : Nat} {c : Value} {z : DataW H × List MemPlace} {P : Program} (ht : P.underlying t = some .bool) (h : DataW.trod enc P w base spare held n t [c] = some z) : ∃ a : Bool, c = .bool a := by
  obtain ⟨a, ha, _⟩ := DataW.trod_bool ht h; exact ⟨a, by simpa using ha⟩
set_option maxRecDepth 100000 in
theorem open_skC {n : Nat} {cs : List Value} {y : DataW H × List MemPlace} (h : DataW.trod enc Tryz.prog w base spare held n 60 cs = some y) (hl : cs.length = 3) : ∃ s : Sk, SkR w cs s := by
  obtain ⟨xs, m, rfl, _, _, hxl, hf⟩ := DataW.trod_struct Tryz.underlying60 h
  match cs, hl with
  | [c0, c1, c2], _ =>
    have ok : ∀ i, i < 3 → ∃ z, xs[i]? = some z := fun i hi => ⟨_, List.getElem?_eq_getElem (by rw [hxl]; exact hi)⟩
    obtain ⟨z0, e0'⟩ := ok 0 (by omega)
    obtain ⟨z1, e1⟩ := ok 1 (by omega)
    obtain ⟨z2, e2⟩ := ok 2 (by omega)
    have f0 : DataW.trod enc Tryz.prog w base spare held m 9 (([c0, c1, c2].drop 0).take (Tryz.prog.cellsOf 9)) = xs[0]? := hf 0 _ rfl
    have f1 : DataW.trod enc Tryz.prog w base spare held m 39 (([c0, c1, c2].drop 1).take (Tryz.prog.cellsOf 39)) = xs[1]? := hf 1 _ rfl
    have f2 : DataW.trod enc Tryz.prog w base spare held m 3 (([c0, c1, c2].drop 2).take (Tryz.prog.cellsOf 3)) = xs[2]? := hf 2 _ rfl
    rw [cSE, e0'] at f0
    rw [cSC, e1] at f1
    rw [cIE, e2] at f2
    obtain ⟨a, rfl, _⟩ := open_strE Tryz.underlying9 f0
    obtain ⟨l, hs⟩ := open_strsC f1
    obtain ⟨i, rfl, _⟩ := open_int64 Tryz.underlying3 f2
    exact ⟨⟨a, l, i⟩, c1, rfl, hs⟩
set_option maxRecDepth 100000 in
theorem open_kdC {n : Nat} {cs : List Value} {y : DataW H × List MemPlace} (h : DataW.trod enc Tryz.prog w base spare held n 38 cs = some y) (hl : cs.length = 3) : ∃ k : Kd, KdR w cs k := by
  obtain ⟨xs, m, rfl, _, _, hxl, hf⟩ := DataW.trod_struct Tryz.underlying38 h
  match cs, hl with
  | [c0, c1, c2], _ =>
    have ok : ∀ i, i < 3 → ∃ z, xs[i]? = some z := fun i hi => ⟨_, List.getElem?_eq_getElem (by rw [hxl]; exact hi)⟩
    obtain ⟨z0, e0'⟩ := ok 0 (by omega)
    obtain ⟨z1, e1⟩ := ok 1 (by omega)
    obtain ⟨z2, e2⟩ := ok 2 (by omega)
    have f0 : DataW.trod enc Tryz.prog w base spare held m 9 (([c0, c1, c2].drop 0).take (Tryz.prog.cellsOf 9)) = xs[0]? := hf 0 _ rfl
    have f1 : DataW.trod enc Tryz.prog w base spare held m 4 (([c0, c1, c2].drop 1).take (Tryz.prog.cellsOf 4)) = xs[1]? := hf 1 _ rfl
    have f2 : DataW.trod enc Tryz.prog w base spare held m 36 (([c0, c1, c2].drop 2).take (Tryz.prog.cellsOf 36)) = xs[2]? := hf 2 _ rfl
    rw [cSE, e0'] at f0
    rw [cBC, e1] at f1
    rw [cLC, e2] at f2
    obtain ⟨a, rfl, _⟩ := open_strE Tryz.underlying9 f0
    obtain ⟨b, rfl⟩ := open_boolC Tryz.underlying4 f1
    have f2' : DataW.trod enc Tryz.prog w base spare held m 36 [c2] = some z2 := f2
    obtain ⟨A, c, l, hv, hn, _, h1⟩ := open_rowsE noSk (fun cs s => SkR w cs s) Tryz.underlying36 (by kernel_rfl : Tryz.prog.cellsOf 60 = 3) (by omega) (fun n cs y _ h hl => open_skC h hl) f2'
    exact ⟨⟨a, b, l⟩, c2, rfl, rdl_rows hv hn h1⟩
set_option maxRecDepth 100000 in
/-- A catalog. -/
theorem open_cat {n : Nat} {cs : List Value} {y : DataW H × List MemPlace} (h : DataW.trod enc Tryz.prog w base spare held n 24 cs = some y) (hl : cs.length = 1) : ∃ v c, cs = [v] ∧ Cat w v c := by
  obtain ⟨xs, m, rfl, _, _, hxl, hf⟩ := DataW.trod_struct Tryz.underlying24 h
  match cs, hl with
  | [c0], _ =>
    obtain ⟨z0, e0'⟩ : ∃ z, xs[0]? = some z := ⟨_, List.getElem?_eq_getElem (by rw [hxl]; exact Nat.zero_lt_one)⟩
    have f0 : DataW.trod enc Tryz.prog w base spare held m 22 (([c0].drop 0).take (Tryz.prog.cellsOf 22)) = xs[0]? := hf 0 _ rfl
    rw [cKC, e0'] at f0
    have f0' : DataW.trod enc Tryz.prog w base spare held m 22 [c0] = some z0 := f0
    obtain ⟨A, c, l, hv, hn, _, h1⟩ := open_rowsE noKd (fun cs k => KdR w cs k) Tryz.underlying22 (by kernel_rfl : Tryz.prog.cellsOf 38 = 3) (by omega) (fun n cs y _ h hl => open_kdC h hl) f0'
    exact ⟨c0, l, rfl, rdl_rows hv hn h1⟩
end
end Go.Proofs.YtcpakaiblelmlaaGreatDoor
namespace Go.Proofs.YtcpakaiblelmlaaGreatDoor
open Go Go.RowKit Go.ChangeShapes Go.WideShapes Go.ChangeAt
theorem u8_cells {H : Type} {enc : TypeId × Value → H} {P : Program} {W : World} {base : Nat} {spare : Nat → Bool} {held : Bool} {t : TypeId} {v : Value} {d : DataW H} {ps : List MemPlace} {r : Reach} {b0 : Nat} (ht : P.underlying t = some (.int .u8))
    (hv : Value.okWide P W r b0 t v) (h : DataW.Trod enc P W base spare held t v d ps) : ∃ n : Nat, v = .int .u8 n ∧ n ≤ 255 := by
  obtain ⟨i, rfl, _⟩ := okWide_int ht hv
  obtain ⟨fuel, hf⟩ := h
  obtain ⟨a, ha, _, hw⟩ := DataW.trod_int ht hf
  have hia : i = a := by simpa [Value.cells] using ha
  subst hia
  have e1 : IntKind.u8.min = 0 := by decide
  have e2 : IntKind.u8.max = 255 := by decide
  have h2 : 0 ≤ i ∧ i ≤ 255 := by simpa [Lit.wf, e1, e2] using hw
  exact ⟨i.toNat, by rw [Int.toNat_of_nonneg h2.1], by omega⟩
end Go.Proofs.YtcpakaiblelmlaaGreatDoor
