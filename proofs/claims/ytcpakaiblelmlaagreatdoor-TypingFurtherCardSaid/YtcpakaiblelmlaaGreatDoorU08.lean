/- rule.series at conditions: things with a word between them. Condition: what reads one thing keeps its contract. The parser's and, cond. Condition: what reads one thing keeps its contract. The parser's inside: a condition in parentheses. Condition: what reads one thing keeps its contract. The closures of the parser's forms. Condition: what reads one thing keeps its contract. Further closures of the parser's forms. Condition: what reads one thing keeps its contract; the error variables of strconv hold something. Further closures of the parser's forms. Condition: what reads one thing keeps its contract; the error variables of strconv hold something. Further closures of the parser's forms. Condition: what reads one thing keeps its contract; the error variables of strconv hold something. Further closures of the parser's forms. Condition: what reads one thing keeps its contract; the error variables of strconv hold something. -/
import Derived.Test.YtcpakaiblelmlaaGreatDoorU02
import Derived.Test.YtcpakaiblelmlaaGreatDoorU06
namespace Go.Proofs.YtcpakaiblelmlaaGreatDoor
open Go Go.RowKit
def parLen (w : World) (g : Nat) : Nat := match w.cell? ⟨g, 0, none⟩ with
  | some (.slice _ n _) => n
  | _ => 0
theorem Par.len {w : World} {g : Nat} {E : Int} {l : List Fnd} (h : Par w g E l) : parLen w g = l.length := by
  obtain ⟨v, h1, _, A, c, rfl, _⟩ := h
  unfold parLen
  rw [h1.cell 0]; rfl
theorem moreP_zero {word : ByteArray} {one : List Fnd → Got Ex} {n : Nat} {l : List Fnd} (h : skipB word l = false) : moreP word one n l = .ok [] l := by
  cases n with
  | zero => rfl
  | succ n =>
    show (if skipB word l then _ else _) = _
    rw [if_neg (by rw [h]; exact Bool.false_ne_true)]
theorem moreP_succ {word : ByteArray} {one : List Fnd → Got Ex} {n : Nat} {l : List Fnd} (h : skipB word l = true) : moreP word one (n + 1) l = (one l.tail).bind fun c r => (moreP word one n r).bind fun cs r2 => .ok (c :: cs) r2 := by
  show (if skipB word l then _ else _) = _
  rw [if_pos h]
theorem tail_len {word : ByteArray} {l : List Fnd} (h : skipB word l = true) : l.tail.length + 1 = l.length := by
  cases l with
  | nil => cases h
  | cons t r => rfl
/-- Six cells of a block laid one after the other. -/
def six (W : World) (B : Nat) (v0 v1 v2 v3 v4 v5 : Value) : World := (((((W.setCell ⟨B, 0, none⟩ v0).setCell ⟨B, 1, none⟩ v1).setCell ⟨B, 2, none⟩ v2).setCell ⟨B, 3, none⟩ v3).setCell ⟨B, 4, none⟩ v4).setCell ⟨B, 5, none⟩ v5
theorem six_has {W : World} {B t : Nat} {a0 a1 a2 a3 a4 a5 : Value} (h : Has W B t #[a0, a1, a2, a3, a4, a5]) (v0 v1 v2 v3 v4 v5 : Value) : Has (six W B v0 v1 v2 v3 v4 v5) B t #[v0, v1, v2, v3, v4, v5] :=
  (((((h.put 0 v0).put 1 v1).put 2 v2).put 3 v3).put 4 v4).put 5 v5
theorem six_old (W : World) (B : Nat) (v0 v1 v2 v3 v4 v5 : Value) {k : Nat} (hk : k ≠ B) : (six W B v0 v1 v2 v3 v4 v5).heap[k]? = W.heap[k]? := by
  unfold six
  iterate 6 rw [heap_setCell_other _ ⟨B, _, none⟩ k _ hk]
theorem six_aw {u W : World} {g b B : Nat} (h : Aw g b u W) (hB : B = g ∨ B = b ∨ u.heap.size ≤ B) (v0 v1 v2 v3 v4 v5 : Value) : Aw g b u (six W B v0 v1 v2 v3 v4 v5) :=
  (((((h.set B 0 hB v0).set B 1 hB v1).set B 2 hB v2).set B 3 hB v3).set B 4 hB v4).set B 5 hB v5
theorem six_par {W : World} {B g : Nat} {E : Int} {l : List Fnd} (h : Par W g E l) (hB : g < B) (v0 v1 v2 v3 v4 v5 : Value) : Par (six W B v0 v1 v2 v3 v4 v5) g E l := h.on fun b hb => six_old W B _ _ _ _ _ _ (by omega)
theorem six_lay {S T : Nat → Prop} {W : World} {B : Nat} {v : Value} {ks : List Ex} (h : LayS S W v ks) (hS : ∀ b, S b → b ≠ B ∧ T b) (v0 v1 v2 v3 v4 v5 : Value) : LayS T (six W B v0 v1 v2 v3 v4 v5) v ks := h.on (fun b hb _ => six_old W B _ _ _ _ _ _ (hS b hb).1) fun b hb _ => (hS b hb).2
/-- What the loop holds: the things so far, and what is still to come. -/
structure SerI (w : World) (g : Nat) (E op : Int) (word : ByteArray) (one : List Fnd → Got Ex) (l : List Fnd) (m : Nat) (v : Value) (W : World) (q : List (Ex × Value)) (r : List Fnd) (n : Nat) : Prop where
  own : W.ownsRow (w.heap.size + 1) 27 6 v q.length (qCells q)
  lay : ∀ p ∈ q, LayS (fun b => w.heap.size + 1 ≤ b ∧ v.ownBlock ≠ some b) W p.2 p.1.kids
  par : Par W g E r
  aw : Aw g g w W
  res : Has W w.heap.size 27 #[.int .i64 0, .string ⟨#[]⟩, .string ⟨#[]⟩, .int .i64 0, .int .i64 0, .slice none 0 0]
  hn : r.length ≤ n
  hm : q.length + r.length ≤ m
  hl : r.length ≤ l.length
  eq : ∃ c0 cs, q.map (·.1) = c0 :: cs ∧ serP word op one l = (moreP word one n r).bind fun cs2 r2 => .ok (oneOf op c0 (cs ++ cs2)) r2
theorem SerI.pos {w W : World} {g m n : Nat} {E op : Int} {word : ByteArray} {one : List Fnd → Got Ex} {l r : List Fnd} {v : Value} {q : List (Ex × Value)} (h : SerI w g E op word one l m v W q r n) : 0 < q.length := by
  obtain ⟨c0, cs, h1, _⟩ := h.eq
  have : (q.map (·.1)).length = (c0 :: cs).length := by rw [h1]
  rw [List.length_map, List.length_cons] at this
  omega
/-- A further thing. -/
theorem SerI.next {w W w2 w3 W4 : World} {g m n : Nat} {E op : Int} {word : ByteArray} {one : List Fnd → Got Ex} {l r r2 : List Fnd} {v v' kv : Value} {q : List (Ex × Value)} {x : Ex} {o : Obj} (h : SerI w g E op word one l m v W q r n) (hgw : g < w.heap.size)
    (hs : skipB word r = true) (a2 : Aw g g W w2) (hq : one r.tail = .ok x r2) (a3 : Aw g g w2 w3) (p3 : Par w3 g E r2) (hv : LayS (fun b => w2.heap.size ≤ b) w3 kv x.kids) (hle : r2.length ≤ r.tail.length)
    (own' : W4.ownsRow (w.heap.size + 1) 27 6 v' (q.length + 1) (qCells q ++ exL x kv)) (hg : (w3.alloc o).grownBy W4 v.ownBlock) (hb : v'.ownBlock = v.ownBlock ∨ ∀ k, v'.ownBlock = some k → (w3.alloc o).heap.size ≤ k) :
    SerI w g E op word one l m v' W4 (q ++ [(x, kv)]) r2 (n - 1) := by
  have hpos := h.pos
  have htl := tail_len hs
  have hsW := h.aw.2.2.2.1
  have hs2 := a2.2.2.2.1
  have hs3 := a3.2.2.2.1
  have hown := h.own.lt
  have hres := h.res.lt
  have hz4 : (w3.alloc o).heap.size = w3.heap.size + 1 := World.size_alloc _ _
  obtain ⟨n, rfl⟩ : ∃ k, n = k + 1 := ⟨n - 1, by have := h.hn; omega⟩
  have stay : ∀ b, b < w3.heap.size → v.ownBlock ≠ some b → W4.heap[b]? = w3.heap[b]? := fun b hb h2 =>
    (hg.block b (by omega) (fun e => h2 e.symm)).trans (Below.heap_alloc w3 o _ hb)
  refine ⟨by rw [List.length_append, List.length_singleton]; show W4.ownsRow _ _ _ _ _ ((q ++ [(x, kv)]).flatMap fun p => exL p.1 p.2); rw [List.flatMap_append]; simpa [qCells] using own', fun p hp => ?_, p3.on fun b hb => stay b (Nat.lt_of_le_of_lt hb p3.lt) (fun e => by have := (hown b e).1; omega), ?_, ?_, by have := h.hn; show _ ≤ n; omega, by have := h.hm; rw [List.length_append, List.length_singleton]; omega, by have := h.hl; omega, ?_⟩
  · rcases List.mem_append.1 hp with hp | hp
    · refine (h.lay p hp).on (fun b hb hlt => ?_) fun b hb hlt => ⟨hb.1, ?_⟩
      · rw [stay b (by omega) hb.2, a3.2.2.2.2 b (by omega) (by omega) (by omega)]
        exact a2.2.2.2.2 b hlt (by omega) (by omega)
      · rcases hb' : v'.ownBlock with _ | k
        · exact fun e => by cases e
        · intro e
          injection e with e
          subst e
          rcases ‹v'.ownBlock = v.ownBlock ∨ _› with h1 | h1
          · exact hb.2 (h1 ▸ hb')
          · have := h1 k hb'; omega
    · rw [List.mem_singleton] at hp
      subst hp
      refine hv.on (fun b hb hlt => stay b hlt (fun e => by have := (hown b e).2; omega)) fun b hb hlt => ⟨by omega, ?_⟩
      rcases hb' : v'.ownBlock with _ | k
      · exact fun e => by cases e
      · intro e
        injection e with e
        subst e
        rcases ‹v'.ownBlock = v.ownBlock ∨ _› with h1 | h1
        · have := (hown k (h1 ▸ hb')).2; omega
        · have := h1 k hb'; omega
  · have h4 : Aw g g w w3 := (h.aw.trans a2).trans a3
    exact ⟨hg.os.trans h4.1, hg.tape.trans h4.2.1, hg.output.trans h4.2.2.1, by have := hg.size; omega, fun b hb h1 h2 => (stay b (by omega) (fun e => by have := (hown b e).1; omega)).trans (h4.2.2.2.2 b hb h1 h2)⟩
  · have h5 := ((h.res.aw a2 (by omega) (by omega)).aw a3 (by omega) (by omega))
    exact (stay _ h5.lt (fun e => by have := (hown _ e).1; omega)).trans h5
  · obtain ⟨c0, cs, h1, h2⟩ := h.eq
    refine ⟨c0, cs ++ [x], by rw [List.map_append, h1]; rfl, ?_⟩
    rw [h2, moreP_succ hs, hq]
    show (((moreP word one n r2).bind fun cs r2 => .ok (x :: cs) r2).bind fun cs2 r2 => .ok (oneOf op c0 (cs ++ cs2)) r2) = _
    show _ = (moreP word one n r2).bind fun cs2 r2 => .ok (oneOf op c0 (cs ++ [x] ++ cs2)) r2
    cases moreP word one n r2 with
    | bad e a => rfl
    | ok y r => show Got.ok _ _ = Got.ok _ _; rw [List.append_assoc]; rfl
/-- The one thing alone. -/
theorem SerI.one {w W : World} {g m n : Nat} {E op : Int} {word : ByteArray} {one : List Fnd → Got Ex} {l r : List Fnd} {v : Value} {q : List (Ex × Value)} (h : SerI w g E op word one l m v W q r n) (hs : skipB word r = false) (h1 : q.length = 1) :
    ∃ x kv k cap, v = .slice (some ⟨k, 0, none⟩) 1 cap ∧ serP word op one l = .ok x r ∧ (∀ j, j < 6 → W.cell? ⟨k, j, none⟩ = some (exF x kv j)) ∧ LayS (fun b => w.heap.size + 1 ≤ b) W kv x.kids := by
  obtain ⟨c0, cs, e1, e2⟩ := h.eq
  obtain ⟨p, rfl⟩ : ∃ p, q = [p] := List.length_eq_one_iff.1 h1
  have e1' : [p.1] = c0 :: cs := e1
  injection e1' with e3 e4
  subst e3
  subst e4
  rw [moreP_zero hs] at e2
  rcases h.own.2 with ⟨_, h0⟩ | ⟨k, cap, cur, rfl, hbk, hh, hn, hcm, hcs, ht⟩
  · cases h0
  · refine ⟨p.1, p.2, k, cap, rfl, e2, fun j hj => ?_, (h.lay p (List.mem_singleton.2 rfl)).mono fun b hb _ => hb.1⟩
    have h5 := qCells_get [p] 0 (by simp) j hj
    rw [← ht, List.getElem?_take, if_pos (by show 0 * 6 + j < 1 * 6; omega)] at h5
    rw [cell_of_row W k j cur _ (0, 0) hh]
    simpa using h5
/-- Several things. -/
theorem SerI.more {w W : World} {g m n : Nat} {E op : Int} {word : ByteArray} {one : List Fnd → Got Ex} {l r : List Fnd} {v : Value} {q : List (Ex × Value)} (h : SerI w g E op word one l m v W q r n) (hs : skipB word r = false) (h1 : q.length ≠ 1) :
    serP word op one l = .ok (.mk op e0 e0 0 0 (q.map (·.1))) r ∧ LayS (fun b => w.heap.size + 1 ≤ b) W v (q.map (·.1)) := by
  obtain ⟨c0, cs, e1, e2⟩ := h.eq
  rw [moreP_zero hs] at e2
  refine ⟨?_, own_lay h.own (fun k hk => by omega) fun p hp => (h.lay p hp).mono fun b hb _ => hb.1⟩
  rw [e2, e1]
  show Got.ok (oneOf op c0 (cs ++ [])) r = _
  rw [List.append_nil]
  cases cs with
  | nil =>
    have : (q.map (·.1)).length = 1 := by rw [e1]; rfl
    rw [List.length_map] at this
    exact absurd this h1
  | cons c cs => rfl
theorem SerI.val {w W : World} {g m n : Nat} {E op : Int} {word : ByteArray} {one : List Fnd → Got Ex} {l r : List Fnd} {v : Value} {q : List (Ex × Value)} (h : SerI w g E op word one l m v W q r n) : ∃ A c, v = .slice A q.length c := by
  rcases h.own.2 with ⟨rfl, h0⟩ | ⟨k, cap, cur, rfl, _⟩
  · exact ⟨none, 0, by rw [h0]⟩
  · exact ⟨_, _, rfl⟩
set_option maxRecDepth 100000 in
set_option maxHeartbeats 8000000 in
theorem series_any (w0 : World) (g F bop m : Nat) (E op : Int) (word : ByteArray) (one : List Fnd → Got Ex) (l : List Fnd) (w : World) (hF : ∀ (args : Array Value) (w : World), (callFunc F args).run Tryz.prog w = .ok (.enter F args) w)
    (hb0 : Below w0.heap.size w0 w) (hg : w0.heap.size ≤ g) (h : Par w g E l) (hbop : Has w bop 3 #[.int .i64 op]) (hgb : bop ≠ g) (hm : l.length + 1 ≤ m) (hm2 : m ≤ 1000000)
    (hone : ∀ (l' : List Fnd) (W : World), l'.length ≤ l.length → Below w0.heap.size w0 W → Par W g E l' → Calls Tryz.prog F #[.pointer (some ⟨g, 0, none⟩)] W (Rd (ExR W.heap.size) W g E (one l')))
    (hsh : ∀ l' c r, one l' = .ok c r → r.length ≤ l'.length) :
    Calls Tryz.prog 124 #[.pointer (some ⟨g, 0, none⟩), .string word, .func (.func F) #[.pointer (some ⟨g, 0, none⟩)] #[], .func (.func 138) #[] #[.pointer (some ⟨bop, 0, none⟩)]] w (Rd (ExR w.heap.size) w g E (serP word op one l)) := by
  have hlt := h.lt
  have hA1 : Aw g g w (w.alloc (.cells #[.int .i64 0, .string ⟨#[]⟩, .string ⟨#[]⟩, .int .i64 0, .int .i64 0, .slice none 0 0] 27)) := (Aw.refl _ _ _).alloc _
  have HO1 := Lib.hid (hone l _ (Nat.le_refl _) (hA1.below hb0 hg hg) (h.below ((Below.refl _ _).alloc (Nat.le_refl _) _)))
  have HR1 := Lib.hid (Has.new w 27 #[.int .i64 0, .string ⟨#[]⟩, .string ⟨#[]⟩, .int .i64 0, .int .i64 0, .slice none 0 0])
  have HA1 := Lib.hid hA1
  clear hA1
  obtain ⟨i0, hi0, hz0, hz1, hz2⟩ := info_parts infoEx
  have HI0 := Lib.hid hi0
  have HZ0 := Lib.hid hz0
  clear hi0 hz0
  go_enter Tryz.func124, Tryz.ntmps124
  go_wp2_with ((with_reducible refine HO1.out.mono ?_); rintro e w1 hd; rcases hd.cases with ⟨er, at', hq, rfl, ha⟩ | ⟨x, r, v, hq, rfl, ⟨kv, rfl, hv⟩, ha, hp⟩; (exact ⟨rfl, Rd.bad (by unfold serP; rw [hq]; rfl) (HA1.out.trans ha)⟩); have HQ := Lib.hid hq; have HV := Lib.hid hv; have HA := Lib.hid ha; have HP := Lib.hid hp; clear hq hv ha hp hd)
  have HS0 := Lib.hid (show SerI w g E op word one l m (.slice (some ⟨w1.heap.size, 0, none⟩) 1 1) (w1.alloc (.cells #[.int .i64 x.op, .string x.name, .string x.value, .int .i64 x.n, .int .i64 x.extra, kv] 27)) [(x, kv)] r r.length from by
    have hz := HA.out.2.2.2.1
    rw [World.size_alloc] at hz
    have hle := hsh l x r HQ.out
    refine ⟨⟨rfl, .inr ⟨w1.heap.size, 1, _, rfl, hz, heap_alloc_new w1 _, Nat.le_refl _, by decide, rfl, rfl⟩⟩, fun p hp => ?_, HP.out.below ((Below.refl _ _).alloc (Nat.le_refl _) _), (HA1.out.trans HA.out).alloc _, (HR1.out.aw HA.out (by omega) (by omega)).alloc _, Nat.le_refl _, by show 1 + r.length ≤ m; omega, hle, x, [], rfl, ?_⟩
    · rw [List.mem_singleton] at hp
      subst hp
      refine HV.out.on (fun b hb hlt => Below.heap_alloc w1 _ _ hlt) fun b hb hlt => ⟨by rw [World.size_alloc] at hb; omega, fun e => ?_⟩
      simp [Value.ownBlock] at e
      omega
    · unfold serP; rw [HQ.out]; rfl)
  clear HO1 HQ HV HA HP HA1 HR1
  generalize (w1.alloc (.cells #[.int .i64 x.op, .string x.name, .string x.value, .int .i64 x.n, .int .i64 x.extra, kv] 27)) = wA at *
  generalize (.slice (some ⟨w1.heap.size, 0, none⟩) 1 1 : Value) = vA at *
  go_loopw [9] (fun v wr => ∃ q r n, Hid (SerI w g E op word one l m v wr q r n)) (fun _ wr => parLen wr g)
  case atStart => exact ⟨_, _, _, HS0⟩
  case round =>
    clear HS0
    obtain ⟨q, r, n, H⟩ := hrel
    obtain ⟨d, f⟩ := H.out.res.facts
    have HBop := Lib.hid (hbop.aw H.out.aw hgb hgb)
    cases hsk : skipB word r with
    | false =>
      by_cases h1 : q.length = 1
      · obtain ⟨x, kv, k, cap, rfl, hS, hc, hk⟩ := H.out.one hsk h1
        have hc0 := hc 0 (by decide)
        have hc1 := hc 1 (by decide)
        have hc2 := hc 2 (by decide)
        have hc3 := hc 3 (by decide)
        have hc4 := hc 4 (by decide)
        have hc5 := hc 5 (by decide)
        simp only [exF, if_true, if_false, Nat.reduceEqDiff, Nat.add_one_ne_zero] at hc0 hc1 hc2 hc3 hc4 hc5
        have HK := Lib.hid hk
        have HSS := Lib.hid hS
        obtain ⟨A', c', rfl, _⟩ := hk.slice
        clear hc hk hS
        go_wp2_with (go_at_call 122; refine (skip_no g E word r _ H.out.par hsk).mono ?_; rintro e w5 ⟨rfl, rfl⟩)
        have HSix := Lib.hid (six_has H.out.res (.int .i64 x.op) (.string x.name) (.string x.value) (.int .i64 x.n) (.int .i64 x.extra) (.slice A' x.kids.length c'))
        have HFin := Lib.hid (show Rd (ExR w.heap.size) w g E (serP word op one l) (.returned (.agg #[.int .i64 x.op, .string x.name, .string x.value, .int .i64 x.n, .int .i64 x.extra, .slice A' x.kids.length c'])) (six w5 w.heap.size (.int .i64 x.op) (.string x.name) (.string x.value) (.int .i64 x.n) (.int .i64 x.extra) (.slice A' x.kids.length c')) from
          Rd.ok HSS.out (six_aw H.out.aw (.inr (.inr (Nat.le_refl _))) _ _ _ _ _ _) ⟨_, rfl, six_lay HK.out (fun b hb => ⟨by omega, by omega⟩) _ _ _ _ _ _⟩ (six_par H.out.par hlt _ _ _ _ _ _))
        show bodyPost _ _ _ _ _ (six w5 w.heap.size (.int .i64 x.op) (.string x.name) (.string x.value) (.int .i64 x.n) (.int .i64 x.extra) (.slice A' x.kids.length c'))
        generalize six w5 w.heap.size (.int .i64 x.op) (.string x.name) (.string x.value) (.int .i64 x.n) (.int .i64 x.extra) (.slice A' x.kids.length c') = W6 at *
        obtain ⟨d6, f6⟩ := HSix.out.facts
        refine bodyPost_ret (v := .agg #[.int .i64 x.op, .string x.name, .string x.value, .int .i64 x.n, .int .i64 x.extra, .slice A' x.kids.length c']) (by simp [results, Tryz.results124, go_sem, d6]) rfl ?_
        exact HFin.out
      · obtain ⟨hS, hk⟩ := H.out.more hsk h1
        obtain ⟨A', c', rfl⟩ := H.out.val
        have hne1 : ((q.length : Int) == 1) = false := by simp; omega
        have HK := Lib.hid hk
        have HSS := Lib.hid hS
        clear hk hS
        go_wp2_with (first
          | (go_at_call 122; refine (skip_no g E word r _ H.out.par hsk).mono ?_; rintro e w5 ⟨rfl, rfl⟩)
          | (go_at_call 138; refine (of1_any op _ (q.map (·.1)) bop _ HBop.out HK.out).mono ?_; rintro e w6 ⟨rfl, hb6⟩; have H6 := Lib.hid hb6; clear hb6; obtain ⟨d7, f7⟩ := (H.out.res.below H6.out H.out.res.lt).facts))
        have hAq : (.slice A' q.length c' : Value) = .slice A' (q.map (·.1)).length c' := by rw [List.length_map]
        have HSix := Lib.hid (six_has (H.out.res.below H6.out H.out.res.lt) (.int .i64 op) (.string e0) (.string e0) (.int .i64 0) (.int .i64 0) (.slice A' q.length c'))
        have HFin := Lib.hid (show Rd (ExR w.heap.size) w g E (serP word op one l) (.returned (.agg #[.int .i64 op, .string e0, .string e0, .int .i64 0, .int .i64 0, .slice A' q.length c'])) (six w6 w.heap.size (.int .i64 op) (.string e0) (.string e0) (.int .i64 0) (.int .i64 0) (.slice A' q.length c')) from
          Rd.ok HSS.out (six_aw (H.out.aw.trans (.of_below H6.out)) (.inr (.inr (Nat.le_refl _))) _ _ _ _ _ _) ⟨_, rfl, six_lay (HK.out.later H6.out) (fun b hb => ⟨by omega, by omega⟩) _ _ _ _ _ _⟩ (six_par (H.out.par.below H6.out) hlt _ _ _ _ _ _))
        show bodyPost _ _ _ _ _ (six w6 w.heap.size (.int .i64 op) (.string e0) (.string e0) (.int .i64 0) (.int .i64 0) (.slice A' q.length c'))
        generalize six w6 w.heap.size (.int .i64 op) (.string e0) (.string e0) (.int .i64 0) (.int .i64 0) (.slice A' q.length c') = W6 at *
        obtain ⟨d8, f8⟩ := HSix.out.facts
        refine bodyPost_ret (v := .agg #[.int .i64 op, .string e0, .string e0, .int .i64 0, .int .i64 0, .slice A' q.length c']) (by simp [results, Tryz.results124, go_sem, d8]) rfl ?_
        exact HFin.out
    | true =>
      have hpos := H.out.pos
      have hlen := tail_len hsk
      have hHn := H.out.hn
      have hHm := H.out.hm
      have hHl := H.out.hl
      have hsz := H.out.aw.2.2.2.1
      obtain ⟨A', c', rfl⟩ := H.out.val
      obtain ⟨n, rfl⟩ : ∃ k, n = k + 1 := ⟨n - 1, by omega⟩
      have hown := H.out.own
      go_wp2_with (first
        | (go_at_call 122; refine (skip_yes g E word r _ H.out.par hsk).mono ?_; rintro e w2 ⟨rfl, ha2, hp2⟩; have HO := Lib.hid (hone r.tail w2 (by omega) ((H.out.aw.trans ha2).below hb0 hg hg) hp2); have HA2 := Lib.hid ha2; clear ha2 hp2)
        | ((with_reducible refine HO.out.mono ?_); clear HO; rintro e w3 hd; rcases hd.cases with ⟨er, at', hq, rfl, ha⟩ | ⟨x2, r2, v2, hq, rfl, ⟨kv2, rfl, hv2⟩, ha, hp⟩; (exact ⟨rfl, Rd.bad (by obtain ⟨c0, cs, _, h2⟩ := H.out.eq; rw [h2, moreP_succ hsk, hq]; rfl) ((H.out.aw.trans HA2.out).trans ha)⟩); have HQ := Lib.hid hq; have HV := Lib.hid hv2; have HA := Lib.hid ha; have HP := Lib.hid hp; have HKone := Lib.hid hv2.one; have HOwn := Lib.hid (show (w3.alloc (.cells #[.int .i64 x2.op, .string x2.name, .string x2.value, .int .i64 x2.n, .int .i64 x2.extra, kv2] 27)).ownsRow (w.heap.size + 1) 27 6 (.slice A' q.length c') q.length (qCells q) from (own_aw (own_aw hown HA2.out (by omega) (by omega)) ha (by omega) (by omega)).alloc _); clear hq hv2 ha hp hd)
        | ((with_reducible show wpList _ _ _ (Oper.mk (some 20) _ _ _ _ _ :: _) _ _); refine wpList_appB rfl (.tmp 16) (.tmp 19) 25 rfl (w.heap.size + 1) 27 i0 (.agg #[.int .i64 0, .string ⟨#[]⟩, .string ⟨#[]⟩, .int .i64 0, .int .i64 0, .slice none 0 0]) 6 80 Tryz.underlying25 HI0.out HZ0.out hz1 hz2 rfl (by decide) _ q.length (qCells q) rfl HOwn.out hpos ⟨w3.heap.size, 0, none⟩ 1 1 (exL x2 kv2) rfl rfl (tok_src w3 (exL x2 kv2) _) (exL_one x2 kv2 HKone.out) (by unfold maxLen; omega) (by omega) (by have h1 := HA2.out.2.2.2.1; have h2 := HA.out.2.2.2.1; rw [World.size_alloc]; omega) ?_; intro v' w4 hown' hgrow hblk; have HNext := Lib.hid (H.out.next hlt hsk HA2.out HQ.out HA.out HP.out HV.out (hsh _ _ _ HQ.out) hown' hgrow hblk); clear hown' hgrow hblk))
      have hml := HNext.out.par.len
      have hml2 := H.out.par.len
      have hle := hsh _ _ _ HQ.out
      go_roundw
      case rel => exact ⟨_, _, _, HNext⟩
      case measure => rw [hml, hml2]; omega
end Go.Proofs.YtcpakaiblelmlaaGreatDoor
namespace Go.Proofs.YtcpakaiblelmlaaGreatDoor
open Go Go.RowKit
theorem moreP_len {word : ByteArray} {one : List Fnd → Got Ex} (hsh : ∀ l' c r, one l' = .ok c r → r.length ≤ l'.length) : ∀ (n : Nat) (l : List Fnd) (cs : List Ex) (r : List Fnd), moreP word one n l = .ok cs r → r.length ≤ l.length
  | 0, l, cs, r, h => by injection h with _ h; subst h; exact Nat.le_refl _
  | n + 1, l, cs, r, h => by
    cases hs : skipB word l with
    | false => rw [moreP_zero hs] at h; injection h with _ h; subst h; exact Nat.le_refl _
    | true =>
      have ht := tail_len hs
      rw [moreP_succ hs] at h
      cases h1 : one l.tail with
      | bad e a => rw [h1] at h; cases h
      | ok x r1 =>
        rw [h1] at h
        have h' : (moreP word one n r1).bind (fun cs r2 => .ok (x :: cs) r2) = .ok cs r := h
        cases h2 : moreP word one n r1 with
        | bad e a => rw [h2] at h'; cases h'
        | ok y r2 =>
          rw [h2] at h'
          have h3 : Got.ok (x :: y) r2 = .ok cs r := h'
          injection h3 with _ h3
          subst h3
          have := hsh _ _ _ h1
          have := moreP_len hsh n r1 y _ h2
          omega
theorem serP_len {word : ByteArray} {op : Int} {one : List Fnd → Got Ex} (hsh : ∀ l' c r, one l' = .ok c r → r.length ≤ l'.length) (l : List Fnd) (c : Ex) (r : List Fnd) (h : serP word op one l = .ok c r) : r.length ≤ l.length := by
  unfold serP at h
  cases h1 : one l with
  | bad e a => rw [h1] at h; cases h
  | ok x r1 =>
    rw [h1] at h
    have h' : (moreP word one r1.length r1).bind (fun cs r2 => .ok (oneOf op x cs) r2) = .ok c r := h
    cases h2 : moreP word one r1.length r1 with
    | bad e a => rw [h2] at h'; cases h'
    | ok y r2 =>
      rw [h2] at h'
      have h3 : Got.ok (oneOf op x y) r2 = .ok c r := h'
      injection h3 with _ h3
      subst h3
      have := hsh _ _ _ h1
      have := moreP_len hsh _ r1 y _ h2
      omega
set_option maxRecDepth 100000 in
set_option maxHeartbeats 8000000 in
theorem and_any (w0 : World) (g : Nat) (E : Int) (one : List Fnd → Got Ex) (l : List Fnd) (w : World) (hb0 : Below w0.heap.size w0 w) (hg : w0.heap.size ≤ g) (h : Par w g E l) (hm : l.length + 1 ≤ 1000000)
    (hone : ∀ (l' : List Fnd) (W : World), l'.length ≤ l.length → Below w0.heap.size w0 W → Par W g E l' → Calls Tryz.prog 137 #[.pointer (some ⟨g, 0, none⟩)] W (Rd (ExR W.heap.size) W g E (one l')))
    (hsh : ∀ l' c r, one l' = .ok c r → r.length ≤ l'.length) :
    Calls Tryz.prog 125 #[.pointer (some ⟨g, 0, none⟩)] w (Rd (ExR w.heap.size) w g E (andP one l)) := by
  have hlt := h.lt
  have hA1 : Aw g g w (w.alloc (.cells #[.int .i64 0, .string ⟨#[]⟩, .string ⟨#[]⟩, .int .i64 0, .int .i64 0, .slice none 0 0] 27)) := (Aw.refl _ _ _).alloc _
  have hR1 := Has.new w 27 #[.int .i64 0, .string ⟨#[]⟩, .string ⟨#[]⟩, .int .i64 0, .int .i64 0, .slice none 0 0]
  have hP1 := h.below ((Below.refl w.heap.size w).alloc (Nat.le_refl _) (.cells #[.int .i64 0, .string ⟨#[]⟩, .string ⟨#[]⟩, .int .i64 0, .int .i64 0, .slice none 0 0] 27))
  have hzz : (w.alloc (.cells #[.int .i64 0, .string ⟨#[]⟩, .string ⟨#[]⟩, .int .i64 0, .int .i64 0, .slice none 0 0] 27)).heap.size = w.heap.size + 1 := World.size_alloc _ _
  have HW := Lib.hid (⟨hA1, hR1, hP1, hzz⟩ : Aw g g w (w.alloc (.cells #[.int .i64 0, .string ⟨#[]⟩, .string ⟨#[]⟩, .int .i64 0, .int .i64 0, .slice none 0 0] 27)) ∧ Has (w.alloc (.cells #[.int .i64 0, .string ⟨#[]⟩, .string ⟨#[]⟩, .int .i64 0, .int .i64 0, .slice none 0 0] 27)) w.heap.size 27 #[.int .i64 0, .string ⟨#[]⟩, .string ⟨#[]⟩, .int .i64 0, .int .i64 0, .slice none 0 0] ∧ Par (w.alloc (.cells #[.int .i64 0, .string ⟨#[]⟩, .string ⟨#[]⟩, .int .i64 0, .int .i64 0, .slice none 0 0] 27)) g E l ∧ (w.alloc (.cells #[.int .i64 0, .string ⟨#[]⟩, .string ⟨#[]⟩, .int .i64 0, .int .i64 0, .slice none 0 0] 27)).heap.size = w.heap.size + 1)
  clear hA1 hR1 hP1 hzz
  have hF := enters_of Tryz.func137 (by kernel_rfl) rfl
  go_enter Tryz.func125, Tryz.ntmps125
  go_wp2_with (first
    | (go_at_call 126; refine (of_any 3 _).mono ?_; rintro e w2 ⟨rfl, hb2, hx2⟩; rw [HW.out.2.2.2] at hx2; have HB := Lib.hid (⟨hb2, hx2⟩ : _ ∧ _); clear hb2 hx2)
    | (go_at_call 124; refine (series_any w0 g 137 _ 1000000 E 3 wAnd one l w2 hF ((HW.out.1.trans (.of_below HB.out.1)).below hb0 hg hg) hg (HW.out.2.2.1.below HB.out.1) HB.out.2 (by omega) hm (Nat.le_refl _) (fun l' W h1 h2 h3 => hone l' W h1 h2 h3) hsh).mono ?_; rintro e w3 hd; rcases hd.cases with ⟨er, at', hq, rfl, ha⟩ | ⟨x, r, v, hq, rfl, ⟨kv, rfl, hv⟩, ha, hp⟩; (exact ⟨rfl, Rd.bad hq ((HW.out.1.trans (.of_below HB.out.1)).trans ha)⟩); obtain ⟨A', c', rfl, _⟩ := hv.slice; have HR := Lib.hid ((HW.out.2.1.below HB.out.1 HW.out.2.1.lt).aw ha (by omega) (by omega)); have HFn := Lib.hid (show Rd (ExR w.heap.size) w g E (andP one l) (.returned (.agg #[.int .i64 x.op, .string x.name, .string x.value, .int .i64 x.n, .int .i64 x.extra, .slice A' x.kids.length c'])) (six w3 w.heap.size (.int .i64 x.op) (.string x.name) (.string x.value) (.int .i64 x.n) (.int .i64 x.extra) (.slice A' x.kids.length c')) from Rd.ok hq (six_aw ((HW.out.1.trans (.of_below HB.out.1)).trans ha) (.inr (.inr (Nat.le_refl _))) _ _ _ _ _ _) ⟨_, rfl, six_lay hv (fun b hb => ⟨by have h1 := HB.out.1.size; have h2 := HW.out.2.2.2; omega, by have h1 := HB.out.1.size; have h2 := HW.out.2.2.2; omega⟩) _ _ _ _ _ _⟩ (six_par hp hlt _ _ _ _ _ _)); obtain ⟨d3, f3⟩ := HR.out.facts; clear hq hv ha hp hd))
  have HSix := Lib.hid (six_has HR.out (.int .i64 x.op) (.string x.name) (.string x.value) (.int .i64 x.n) (.int .i64 x.extra) (.slice A' x.kids.length c'))
  show bodyPost _ _ _ _ _ (six w3 w.heap.size (.int .i64 x.op) (.string x.name) (.string x.value) (.int .i64 x.n) (.int .i64 x.extra) (.slice A' x.kids.length c'))
  generalize six w3 w.heap.size (.int .i64 x.op) (.string x.name) (.string x.value) (.int .i64 x.n) (.int .i64 x.extra) (.slice A' x.kids.length c') = W6 at *
  obtain ⟨d6, f6⟩ := HSix.out.facts
  refine bodyPost_ret (v := .agg #[.int .i64 x.op, .string x.name, .string x.value, .int .i64 x.n, .int .i64 x.extra, .slice A' x.kids.length c']) (by simp [results, Tryz.results125, go_sem, d6]) rfl ?_
  exact HFn.out
set_option maxRecDepth 100000 in
set_option maxHeartbeats 8000000 in
theorem cond_any (w0 : World) (g : Nat) (E : Int) (one : List Fnd → Got Ex) (l : List Fnd) (w : World) (hb0 : Below w0.heap.size w0 w) (hg : w0.heap.size ≤ g) (h : Par w g E l) (hm : l.length + 1 ≤ 1000000)
    (hone : ∀ (l' : List Fnd) (W : World), l'.length ≤ l.length → Below w0.heap.size w0 W → Par W g E l' → Calls Tryz.prog 137 #[.pointer (some ⟨g, 0, none⟩)] W (Rd (ExR W.heap.size) W g E (one l')))
    (hsh : ∀ l' c r, one l' = .ok c r → r.length ≤ l'.length) :
    Calls Tryz.prog 99 #[.pointer (some ⟨g, 0, none⟩)] w (Rd (ExR w.heap.size) w g E (condP one l)) := by
  have hlt := h.lt
  have hA1 : Aw g g w (w.alloc (.cells #[.int .i64 0, .string ⟨#[]⟩, .string ⟨#[]⟩, .int .i64 0, .int .i64 0, .slice none 0 0] 27)) := (Aw.refl _ _ _).alloc _
  have hR1 := Has.new w 27 #[.int .i64 0, .string ⟨#[]⟩, .string ⟨#[]⟩, .int .i64 0, .int .i64 0, .slice none 0 0]
  have hP1 := h.below ((Below.refl w.heap.size w).alloc (Nat.le_refl _) (.cells #[.int .i64 0, .string ⟨#[]⟩, .string ⟨#[]⟩, .int .i64 0, .int .i64 0, .slice none 0 0] 27))
  have hzz : (w.alloc (.cells #[.int .i64 0, .string ⟨#[]⟩, .string ⟨#[]⟩, .int .i64 0, .int .i64 0, .slice none 0 0] 27)).heap.size = w.heap.size + 1 := World.size_alloc _ _
  have HW := Lib.hid (⟨hA1, hR1, hP1, hzz⟩ : Aw g g w (w.alloc (.cells #[.int .i64 0, .string ⟨#[]⟩, .string ⟨#[]⟩, .int .i64 0, .int .i64 0, .slice none 0 0] 27)) ∧ Has (w.alloc (.cells #[.int .i64 0, .string ⟨#[]⟩, .string ⟨#[]⟩, .int .i64 0, .int .i64 0, .slice none 0 0] 27)) w.heap.size 27 #[.int .i64 0, .string ⟨#[]⟩, .string ⟨#[]⟩, .int .i64 0, .int .i64 0, .slice none 0 0] ∧ Par (w.alloc (.cells #[.int .i64 0, .string ⟨#[]⟩, .string ⟨#[]⟩, .int .i64 0, .int .i64 0, .slice none 0 0] 27)) g E l ∧ (w.alloc (.cells #[.int .i64 0, .string ⟨#[]⟩, .string ⟨#[]⟩, .int .i64 0, .int .i64 0, .slice none 0 0] 27)).heap.size = w.heap.size + 1)
  clear hA1 hR1 hP1 hzz
  have hF := enters_of Tryz.func125 (by kernel_rfl) rfl
  go_enter Tryz.func99, Tryz.ntmps99
  go_wp2_with (first
    | (go_at_call 126; refine (of_any 4 _).mono ?_; rintro e w2 ⟨rfl, hb2, hx2⟩; rw [HW.out.2.2.2] at hx2; have HB := Lib.hid (⟨hb2, hx2⟩ : _ ∧ _); clear hb2 hx2)
    | (go_at_call 124; refine (series_any w0 g 125 _ 1000000 E 4 wOr (andP one) l w2 hF ((HW.out.1.trans (.of_below HB.out.1)).below hb0 hg hg) hg (HW.out.2.2.1.below HB.out.1) HB.out.2 (by omega) hm (Nat.le_refl _) (fun l' W h1 h2 h3 => and_any w0 g E one l' W h2 hg h3 (by omega) (fun l2 W2 h4 h5 h6 => hone l2 W2 (by omega) h5 h6) hsh) (fun l' c r hq => serP_len hsh l' c r hq)).mono ?_; rintro e w3 hd; rcases hd.cases with ⟨er, at', hq, rfl, ha⟩ | ⟨x, r, v, hq, rfl, ⟨kv, rfl, hv⟩, ha, hp⟩; (exact ⟨rfl, Rd.bad hq ((HW.out.1.trans (.of_below HB.out.1)).trans ha)⟩); obtain ⟨A', c', rfl, _⟩ := hv.slice; have HR := Lib.hid ((HW.out.2.1.below HB.out.1 HW.out.2.1.lt).aw ha (by omega) (by omega)); have HFn := Lib.hid (show Rd (ExR w.heap.size) w g E (condP one l) (.returned (.agg #[.int .i64 x.op, .string x.name, .string x.value, .int .i64 x.n, .int .i64 x.extra, .slice A' x.kids.length c'])) (six w3 w.heap.size (.int .i64 x.op) (.string x.name) (.string x.value) (.int .i64 x.n) (.int .i64 x.extra) (.slice A' x.kids.length c')) from Rd.ok hq (six_aw ((HW.out.1.trans (.of_below HB.out.1)).trans ha) (.inr (.inr (Nat.le_refl _))) _ _ _ _ _ _) ⟨_, rfl, six_lay hv (fun b hb => ⟨by have h1 := HB.out.1.size; have h2 := HW.out.2.2.2; omega, by have h1 := HB.out.1.size; have h2 := HW.out.2.2.2; omega⟩) _ _ _ _ _ _⟩ (six_par hp hlt _ _ _ _ _ _)); obtain ⟨d3, f3⟩ := HR.out.facts; clear hq hv ha hp hd))
  have HSix := Lib.hid (six_has HR.out (.int .i64 x.op) (.string x.name) (.string x.value) (.int .i64 x.n) (.int .i64 x.extra) (.slice A' x.kids.length c'))
  show bodyPost _ _ _ _ _ (six w3 w.heap.size (.int .i64 x.op) (.string x.name) (.string x.value) (.int .i64 x.n) (.int .i64 x.extra) (.slice A' x.kids.length c'))
  generalize six w3 w.heap.size (.int .i64 x.op) (.string x.name) (.string x.value) (.int .i64 x.n) (.int .i64 x.extra) (.slice A' x.kids.length c') = W6 at *
  obtain ⟨d6, f6⟩ := HSix.out.facts
  refine bodyPost_ret (v := .agg #[.int .i64 x.op, .string x.name, .string x.value, .int .i64 x.n, .int .i64 x.extra, .slice A' x.kids.length c']) (by simp [results, Tryz.results99, go_sem, d6]) rfl ?_
  exact HFn.out
end Go.Proofs.YtcpakaiblelmlaaGreatDoor
namespace Go.Proofs.YtcpakaiblelmlaaGreatDoor
open Go Go.RowKit
/-- What is known between the steps of a method: nothing but the object turned, and the result's block is as it was. -/
structure StP (w : World) (g : Nat) (E : Int) (T : Nat) (cs : Array Value) (l : List Fnd) (W : World) : Prop where
  aw : Aw g g w W
  par : Par W g E l
  res : Has W w.heap.size T cs
theorem StP.start {w : World} {g T : Nat} {E : Int} {cs : Array Value} {l : List Fnd} (h : Par w g E l) : StP w g E T cs l (w.alloc (.cells cs T)) :=
  ⟨(Aw.refl _ _ _).alloc _, h.below ((Below.refl _ _).alloc (Nat.le_refl _) _), Has.new _ _ _⟩
theorem StP.lt {w W : World} {g T : Nat} {E : Int} {cs : Array Value} {l : List Fnd} (h : StP w g E T cs l W) : w.heap.size + 1 ≤ W.heap.size := h.res.lt
theorem StP.alloc {w W : World} {g T : Nat} {E : Int} {cs : Array Value} {l : List Fnd} (h : StP w g E T cs l W) (o : Obj) : StP w g E T cs l (W.alloc o) :=
  ⟨h.aw.alloc o, h.par.below ((Below.refl _ _).alloc (Nat.le_refl _) _), h.res.alloc o⟩
theorem StP.next {w W W' : World} {g T : Nat} {E : Int} {cs : Array Value} {l l' : List Fnd} (h : StP w g E T cs l W) (hg : g < w.heap.size) (ha : Aw g g W W') (hp : Par W' g E l') : StP w g E T cs l' W' :=
  ⟨h.aw.trans ha, hp, h.res.aw ha (by omega) (by omega)⟩
theorem StP.drew {w W : World} {g T : Nat} {E : Int} {cs : Array Value} {l : List Fnd} (h : StP w g E T cs l W) : StP w g E T cs l W.drew := ⟨h.aw, h.par, h.res⟩
theorem alloc_cell (W : World) (s : ByteArray) (T n : Nat) (hn : n = W.heap.size) : (W.alloc (.cells #[.string s] T)).cell? ⟨n, 0, none⟩ = some (.string s) := by
  subst hn; exact (Has.new W T #[.string s]).cell 0
abbrev zEx : Array Value := #[.int .i64 0, .string ⟨#[]⟩, .string ⟨#[]⟩, .int .i64 0, .int .i64 0, .slice none 0 0]
theorem wantP_len {E : Int} {s : ByteArray} {l r : List Fnd} {u : Unit} (h : wantP E s l = .ok u r) : r.length + 1 = l.length ∧ r = l.tail := by
  cases hs : skipB s l with
  | true =>
    rw [wantP_yes hs] at h
    injection h with _ h
    subst h
    exact ⟨tail_len hs, rfl⟩
  | false => rw [wantP_no hs] at h; cases h
set_option maxRecDepth 100000 in
set_option maxHeartbeats 8000000 in
theorem inside_any (w0 : World) (g : Nat) (E : Int) (one : List Fnd → Got Ex) (l : List Fnd) (w : World) (hb0 : Below w0.heap.size w0 w) (hg : w0.heap.size ≤ g) (h : Par w g E l) (hm : l.length + 1 ≤ 1000000)
    (hone : ∀ (l' : List Fnd) (W : World), l'.length < l.length → Below w0.heap.size w0 W → Par W g E l' → Calls Tryz.prog 137 #[.pointer (some ⟨g, 0, none⟩)] W (Rd (ExR W.heap.size) W g E (one l')))
    (hsh : ∀ l' c r, one l' = .ok c r → r.length ≤ l'.length) :
    Calls Tryz.prog 141 #[.pointer (some ⟨g, 0, none⟩)] w (Rd (ExR w.heap.size) w g E (inP E one l)) := by
  have hlt := h.lt
  have HS0 := Lib.hid (StP.start (T := 27) (cs := zEx) h)
  have HS1 := Lib.hid (HS0.out.alloc (.cells #[.string ⟨#[40]⟩] 9))
  have HC1 := Lib.hid (alloc_cell (w.alloc (.cells zEx 27)) wOpen 9 (w.heap.size + 1) (World.size_alloc _ _).symm)
  go_enter Tryz.func141, Tryz.ntmps141
  go_wp2_with (first
    | (go_at_call 97; refine (want_any g E wOpen l _ _ _ HS1.out.par HC1.out).mono ?_; rintro e w2 (⟨hq, rfl, rfl⟩ | ⟨hq, rfl, ha, hp⟩); (exact ⟨rfl, Rd.bad (by unfold inP; rw [hq]; rfl) HS1.out.aw⟩); have HQ1 := Lib.hid hq; have HS2 := Lib.hid (HS1.out.next hlt ha hp); clear hq ha hp HS1 HC1)
    | (go_at_call 99; refine (cond_any w0 g E one l.tail w2 (HS2.out.aw.below hb0 hg hg) hg HS2.out.par (by simp; omega) (fun l' W h1 h2 h3 => hone l' W (by have := (wantP_len HQ1.out).1; omega) h2 h3) hsh).mono ?_; rintro e w3 hd; rcases hd.cases with ⟨er, at', hq, rfl, ha⟩ | ⟨x, r, v, hq, rfl, ⟨kv, rfl, hv⟩, ha, hp⟩; (exact ⟨rfl, Rd.bad (by unfold inP; rw [HQ1.out]; show ((condP one l.tail).bind _) = _; rw [hq]; rfl) (HS2.out.aw.trans ha)⟩); obtain ⟨A', c', rfl, _⟩ := hv.slice; have HQ2 := Lib.hid hq; have HV := Lib.hid (hv.mono (T := fun b => w.heap.size + 1 ≤ b) fun b hb _ => Nat.le_trans HS2.out.lt hb); have HS3 := Lib.hid (HS2.out.next hlt ha hp); have HX3 := Lib.hid ((Has.new w3 27 #[.int .i64 x.op, .string x.name, .string x.value, .int .i64 x.n, .int .i64 x.extra, .slice A' x.kids.length c']).alloc (.cells #[.string ⟨#[41]⟩] 9)); have HS4 := Lib.hid ((HS3.out.alloc (.cells #[.int .i64 x.op, .string x.name, .string x.value, .int .i64 x.n, .int .i64 x.extra, .slice A' x.kids.length c'] 27)).alloc (.cells #[.string ⟨#[41]⟩] 9)); have HC4 := Lib.hid (alloc_cell (w3.alloc (.cells #[.int .i64 x.op, .string x.name, .string x.value, .int .i64 x.n, .int .i64 x.extra, .slice A' x.kids.length c'] 27)) wShut 9 (w3.heap.size + 1) (World.size_alloc _ _).symm); clear hq hv ha hp hd)
    | (go_at_call 97; refine (want_any g E wShut r _ _ _ HS4.out.par HC4.out).mono ?_; rintro e w5 (⟨hq, rfl, rfl⟩ | ⟨hq, rfl, ha, hp⟩); (exact ⟨rfl, Rd.bad (by unfold inP; rw [HQ1.out]; show ((condP one l.tail).bind _) = _; rw [HQ2.out]; show ((wantP E wShut r).bind _) = _; rw [hq]; rfl) HS4.out.aw⟩); have HQ3 := Lib.hid hq; have HX5 := Lib.hid (HX3.out.aw ha (by have := HS3.out.lt; omega) (by have := HS3.out.lt; omega)); obtain ⟨dx, fx⟩ := HX5.out.facts; have HV5 := Lib.hid (((HV.out.later ((Below.refl _ _).alloc (Nat.le_refl _) _)).later ((Below.refl _ _).alloc (Nat.le_refl _) _)).on (T := fun b => w.heap.size + 1 ≤ b) (fun b hb hl => ha.2.2.2.2 b hl (by omega) (by omega)) fun b hb _ => hb); have HS5 := Lib.hid (HS4.out.next hlt ha hp); obtain ⟨dr, fr⟩ := HS5.out.res.facts; clear hq ha hp))
  have HSix := Lib.hid (six_has HS5.out.res (.int .i64 x.op) (.string x.name) (.string x.value) (.int .i64 x.n) (.int .i64 x.extra) (.slice A' x.kids.length c'))
  have HFn := Lib.hid (show Rd (ExR w.heap.size) w g E (inP E one l) (.returned (.agg #[.int .i64 x.op, .string x.name, .string x.value, .int .i64 x.n, .int .i64 x.extra, .slice A' x.kids.length c'])) (six w5 w.heap.size (.int .i64 x.op) (.string x.name) (.string x.value) (.int .i64 x.n) (.int .i64 x.extra) (.slice A' x.kids.length c')) from Rd.ok (r := r.tail) (by unfold inP; rw [HQ1.out]; show ((condP one l.tail).bind _) = _; rw [HQ2.out]; show ((wantP E wShut r).bind _) = _; rw [HQ3.out]; rfl) (six_aw HS5.out.aw (.inr (.inr (Nat.le_refl _))) _ _ _ _ _ _) ⟨_, rfl, six_lay HV5.out (fun b hb => ⟨by omega, by omega⟩) _ _ _ _ _ _⟩ (six_par HS5.out.par hlt _ _ _ _ _ _))
  show bodyPost _ _ _ _ _ (six w5 w.heap.size (.int .i64 x.op) (.string x.name) (.string x.value) (.int .i64 x.n) (.int .i64 x.extra) (.slice A' x.kids.length c'))
  generalize six w5 w.heap.size (.int .i64 x.op) (.string x.name) (.string x.value) (.int .i64 x.n) (.int .i64 x.extra) (.slice A' x.kids.length c') = W6 at *
  obtain ⟨d6, f6⟩ := HSix.out.facts
  refine bodyPost_ret (v := .agg #[.int .i64 x.op, .string x.name, .string x.value, .int .i64 x.n, .int .i64 x.extra, .slice A' x.kids.length c']) (by simp [results, Tryz.results141, go_sem, d6]) rfl ?_
  exact HFn.out
end Go.Proofs.YtcpakaiblelmlaaGreatDoor
namespace Go.Proofs.YtcpakaiblelmlaaGreatDoor
open Go Go.RowKit
theorem nextP_len {E kind : Int} {chk : ByteArray → Bool} {l r : List Fnd} {s : ByteArray} (h : nextP E kind chk l = .ok s r) : r.length + 1 = l.length := by
  cases l with
  | nil => cases h
  | cons t l =>
    have h' : (if t.kind = kind then (if chk t.text then .ok t.text l else .bad 13 t.pos) else .bad 8 t.pos : Got ByteArray) = .ok s r := h
    split at h'
    · split at h'
      · injection h' with _ h'; subst h'; rfl
      · cases h'
    · cases h'
theorem numP_len {E low n : Int} {l r : List Fnd} (h : numP E low l = .ok n r) : r.length + 1 = l.length := by
  unfold numP at h
  cases h1 : nextP E 2 (numB low) l with
  | bad e a => rw [h1] at h; cases h
  | ok s r1 =>
    rw [h1] at h
    have h2 : Got.ok (atoiV s.data.toList) r1 = .ok n r := h
    injection h2 with _ h2
    subst h2
    exact nextP_len h1
/-- A slice of one condition. -/
theorem lay_one {S : Nat → Prop} {W : World} {b : Nat} {c : Ex} {kv : Value} (h : Has W b 27 #[.int .i64 c.op, .string c.name, .string c.value, .int .i64 c.n, .int .i64 c.extra, kv]) (hS : S b) (hk : LayS S W kv c.kids) : LayS S W (.slice (some ⟨b, 0, none⟩) 1 1) [c] := by
  refine .mk (some ⟨b, 0, none⟩) 1 [c] (fun _ => kv) (Nat.le_refl _) (.inr ⟨b, 0, rfl, hS, fun i hi j hj => ?_⟩) fun i hi => ?_
  · have : i = 0 := by simpa using hi
    subst this
    rw [show 0 + (0 * 6 + j) = j by omega, h.cell j]
    rcases j with _ | _ | _ | _ | _ | _ | j
    all_goals first | rfl | omega
  · have : i = 0 := by simpa using hi
    subst this
    exact hk
set_option maxRecDepth 100000 in
set_option maxHeartbeats 8000000 in
theorem within_any (bo : Nat) (op : Int) (one : List Fnd → Got Ex) (w0 : World) (g bp : Nat) (E : Int) (l : List Fnd) (w : World) (hb0 : Below w0.heap.size w0 w) (hg : w0.heap.size ≤ g) (h : Par w g E l) (hm : l.length + 1 ≤ 1000000) (hp : Has w bp 112 #[.pointer (some ⟨g, 0, none⟩)]) (hpg : bp ≠ g) (ho : Has w bo 3 #[.int .i64 op]) (hog : bo ≠ g)
    (hone : ∀ (l' : List Fnd) (W : World), l'.length < l.length + 1 → Below w0.heap.size w0 W → Par W g E l' → Calls Tryz.prog 137 #[.pointer (some ⟨g, 0, none⟩)] W (Rd (ExR W.heap.size) W g E (one l')))
    (hsh : ∀ l' c r, one l' = .ok c r → r.length ≤ l'.length) :
    Calls Tryz.prog 146 #[.pointer (some ⟨bo, 0, none⟩), .pointer (some ⟨bp, 0, none⟩)] w (Rd (ExR w.heap.size) w g E (withinP E op one l)) := by
  have hlt := h.lt
  have hol := ho.lt
  have hpl := hp.lt
  have HS0 := Lib.hid (StP.start (T := 27) (cs := zEx) h)
  have HB0 := Lib.hid (⟨ho.alloc (.cells zEx 27), hp.alloc (.cells zEx 27)⟩ : _ ∧ _)
  have hmx : Tryz.prog.follows .mixedOrders = true := by kernel_rfl
  go_enter Tryz.func146, Tryz.ntmps146
  go_wp2_with fail
  refine wp_region_held_drew (S := fun W => W.cell? ⟨bo, 0, none⟩ = some (.int .i64 op) ∧ W.cell? ⟨bp, 0, none⟩ = some (.pointer (some ⟨g, 0, none⟩))) (by kernel_rfl) (⟨HB0.out.1.cell 0, HB0.out.2.cell 0⟩) (fun hHeld => ?_)
  refine plI [(0, false), (1, false), (3, false)] ?_
  repeat ((first | ((with_reducible show Plan ((_, true) :: _) _); refine plF ?_) | (refine plR (v := ?_) ?_ ?_; rotate_left; focus (intro W hSW; (try dsimp only at hSW); go_simp; all_goals (with_reducible rfl)))); try simp only [Act.put, List.setIfInBounds_toArray, List.set_cons_zero, List.set_cons_succ])
  refine plE ?_
  refine wpAnyH_ready (rs := [2]) (by kernel_rfl) (by simp) ?_
  refine AllReadyH.cons (o := ⟨_, _, _, _, _, _⟩) rfl (fun K hK => ?_) AllReadyH.nil
  go_simp
  go_at_call 98; refine (pname_any g E l _ (HS0.out.drew).par).mono ?_; rintro e w2 hd; rcases hd.cases with ⟨er, at', hq, rfl, ha⟩ | ⟨nm, r, v, hq, rfl, rfl, ha, hpr⟩
  · exact ⟨rfl, Rd.bad (by unfold withinP; rw [hq]; rfl) ((HS0.out.drew).aw.trans ha)⟩
  have HQ1 := Lib.hid hq; have HS2 := Lib.hid ((HS0.out.drew).next hlt ha hpr); have HB2 := Lib.hid (⟨(HB0.out).1.aw ha hog hog, (HB0.out).2.aw ha hpg hpg⟩ : _ ∧ _); clear hq ha hpr hd
  refine hK.out _ _ (⟨HB2.out.1.cell 0, HB2.out.2.cell 0⟩) (fun hHeld => ?_)
  clear hK K
  try simp only [Act.put, List.setIfInBounds_toArray, List.set_cons_zero, List.set_cons_succ]
  refine wpAnyH_ready (rs := [4]) (by kernel_rfl) (by simp) ?_
  refine AllReadyH.cons (o := ⟨_, _, _, _, _, _⟩) rfl (fun K hK => ?_) AllReadyH.nil
  go_simp
  go_at_call 141; refine (inside_any w0 g E one r w2 (HS2.out.aw.below hb0 hg hg) hg HS2.out.par (by have := nextP_len HQ1.out; omega) (fun l' W h1 h2 h3 => hone l' W (by have := nextP_len HQ1.out; omega) h2 h3) hsh).mono ?_; rintro e w4 hd; rcases hd.cases with ⟨er, at', hq, rfl, ha⟩ | ⟨x, r2, v, hq, rfl, ⟨kv, rfl, hv⟩, ha, hpr⟩
  · exact ⟨rfl, Rd.bad (by unfold withinP; rw [HQ1.out]; show ((inP E one r).bind _) = _; rw [hq]; rfl) (HS2.out.aw.trans ha)⟩
  obtain ⟨A', c', rfl, _⟩ := hv.slice
  have HQ2 := Lib.hid hq; have HV := Lib.hid (hv.mono (T := fun b => w.heap.size + 1 ≤ b) fun b hb _ => Nat.le_trans HS2.out.lt hb); have HS4 := Lib.hid (HS2.out.next hlt ha hpr); have HB4 := Lib.hid (⟨HB2.out.1.aw ha hog hog, HB2.out.2.aw ha hpg hpg⟩ : _ ∧ _); clear hq hv ha hpr hd
  refine hK.out _ _ (⟨HB4.out.1.cell 0, HB4.out.2.cell 0⟩) (fun hHeld => ?_)
  clear hK K
  try simp only [Act.put, List.setIfInBounds_toArray, List.set_cons_zero, List.set_cons_succ]
  refine wpAnyH_ready (rs := [5]) (by kernel_rfl) (by simp) ?_
  refine AllReadyH.cons (o := ⟨_, _, _, _, _, _⟩) rfl (fun K hK => ?_) AllReadyH.nil
  go_simp
  have HX := Lib.hid (Has.new w4 27 #[.int .i64 x.op, .string x.name, .string x.value, .int .i64 x.n, .int .i64 x.extra, .slice A' x.kids.length c']); have HS5 := Lib.hid (HS4.out.alloc (.cells #[.int .i64 x.op, .string x.name, .string x.value, .int .i64 x.n, .int .i64 x.extra, .slice A' x.kids.length c'] 27)); have HB5 := Lib.hid (⟨HB4.out.1.alloc (.cells #[.int .i64 x.op, .string x.name, .string x.value, .int .i64 x.n, .int .i64 x.extra, .slice A' x.kids.length c'] 27), HB4.out.2.alloc (.cells #[.int .i64 x.op, .string x.name, .string x.value, .int .i64 x.n, .int .i64 x.extra, .slice A' x.kids.length c'] 27)⟩ : _ ∧ _); obtain ⟨dr, fr⟩ := HS5.out.res.facts
  refine hK.out _ _ (⟨HB5.out.1.cell 0, HB5.out.2.cell 0⟩) (fun hHeld => ?_)
  clear hK K
  try simp only [Act.put, List.setIfInBounds_toArray, List.set_cons_zero, List.set_cons_succ]
  refine plI [(6, false)] ?_
  repeat ((first | ((with_reducible show Plan ((_, true) :: _) _); refine plF ?_) | (refine plR (v := ?_) ?_ ?_; rotate_left; focus (intro W hSW; (try dsimp only at hSW); go_simp; all_goals (with_reducible rfl)))); try simp only [Act.put, List.setIfInBounds_toArray, List.set_cons_zero, List.set_cons_succ])
  refine plE ?_
  refine wpAnyH_ready (rs := [7]) (by kernel_rfl) (by simp) ?_
  refine AllReadyH.cons (o := ⟨_, _, _, _, _, _⟩) rfl (fun K hK => ?_) AllReadyH.nil
  go_simp
  have HB7 := Lib.hid (show Has (six (w4.alloc (.cells #[.int .i64 x.op, .string x.name, .string x.value, .int .i64 x.n, .int .i64 x.extra, .slice A' x.kids.length c'] 27)) w.heap.size (.int .i64 op) (.string nm) (.string ⟨#[]⟩) (.int .i64 0) (.int .i64 0) (.slice (some ⟨w4.heap.size, 0, none⟩) 1 1)) bo 3 #[.int .i64 op] ∧ Has (six (w4.alloc (.cells #[.int .i64 x.op, .string x.name, .string x.value, .int .i64 x.n, .int .i64 x.extra, .slice A' x.kids.length c'] 27)) w.heap.size (.int .i64 op) (.string nm) (.string ⟨#[]⟩) (.int .i64 0) (.int .i64 0) (.slice (some ⟨w4.heap.size, 0, none⟩) 1 1)) bp 112 #[.pointer (some ⟨g, 0, none⟩)] from ⟨(six_old _ _ _ _ _ _ _ _ (by omega)).trans HB5.out.1, (six_old _ _ _ _ _ _ _ _ (by omega)).trans HB5.out.2⟩)
  refine hK.out _ _ (⟨HB7.out.1.cell 0, HB7.out.2.cell 0⟩) (fun hHeld => ?_)
  clear hK K
  try simp only [Act.put]
  refine wpAnyH_done (by kernel_rfl) ?_ _
  clear hHeld
  go_wp2_with fail
  have HSix := Lib.hid (six_has (HS5.out).res (.int .i64 op) (.string nm) (.string ⟨#[]⟩) (.int .i64 0) (.int .i64 0) (.slice (some ⟨w4.heap.size, 0, none⟩) 1 1))
  have HFn := Lib.hid (show Rd (ExR w.heap.size) w g E (withinP E op one l) (.returned (.agg #[.int .i64 op, .string nm, .string ⟨#[]⟩, .int .i64 0, .int .i64 0, .slice (some ⟨w4.heap.size, 0, none⟩) 1 1])) (six (w4.alloc (.cells #[.int .i64 x.op, .string x.name, .string x.value, .int .i64 x.n, .int .i64 x.extra, .slice A' x.kids.length c'] 27)) w.heap.size (.int .i64 op) (.string nm) (.string ⟨#[]⟩) (.int .i64 0) (.int .i64 0) (.slice (some ⟨w4.heap.size, 0, none⟩) 1 1)) from Rd.ok (x := .mk op nm e0 0 0 [x]) (r := r2) (by unfold withinP; rw [HQ1.out]; show ((inP E one r).bind _) = _; rw [HQ2.out]; rfl) (six_aw (HS5.out).aw (.inr (.inr (Nat.le_refl _))) _ _ _ _ _ _) ⟨_, rfl, six_lay (S := fun b => w.heap.size + 1 ≤ b) (ks := [x]) (lay_one HX.out (by have := HS4.out.lt; exact this) (HV.out.later ((Below.refl _ _).alloc (Nat.le_refl _) _))) (fun b hb => ⟨by omega, by omega⟩) _ _ _ _ _ _⟩ (six_par (HS5.out).par hlt _ _ _ _ _ _))
  show bodyPost _ _ _ _ _ (six (w4.alloc (.cells #[.int .i64 x.op, .string x.name, .string x.value, .int .i64 x.n, .int .i64 x.extra, .slice A' x.kids.length c'] 27)) w.heap.size (.int .i64 op) (.string nm) (.string ⟨#[]⟩) (.int .i64 0) (.int .i64 0) (.slice (some ⟨w4.heap.size, 0, none⟩) 1 1))
  generalize six (w4.alloc (.cells #[.int .i64 x.op, .string x.name, .string x.value, .int .i64 x.n, .int .i64 x.extra, .slice A' x.kids.length c'] 27)) w.heap.size (.int .i64 op) (.string nm) (.string ⟨#[]⟩) (.int .i64 0) (.int .i64 0) (.slice (some ⟨w4.heap.size, 0, none⟩) 1 1) = W6 at *
  obtain ⟨d6, f6⟩ := HSix.out.facts
  refine bodyPost_ret (v := .agg #[.int .i64 op, .string nm, .string ⟨#[]⟩, .int .i64 0, .int .i64 0, .slice (some ⟨w4.heap.size, 0, none⟩) 1 1]) (by simp [results, Tryz.results146, go_sem, d6]) rfl ?_
  exact HFn.out
end Go.Proofs.YtcpakaiblelmlaaGreatDoor
namespace Go.Proofs.YtcpakaiblelmlaaGreatDoor
open Go Go.RowKit
set_option maxRecDepth 100000 in
set_option maxHeartbeats 8000000 in
theorem over_any (w0 : World) (g bp : Nat) (E : Int) (l : List Fnd) (w : World) (hb0 : Below w0.heap.size w0 w) (hg : w0.heap.size ≤ g) (h : Par w g E l) (_hm : l.length + 1 ≤ 1000000) (hp : Has w bp 112 #[.pointer (some ⟨g, 0, none⟩)]) (hpg : bp ≠ g) (hv : Evs w0) :
    Calls Tryz.prog 151 #[.pointer (some ⟨bp, 0, none⟩)] w (Rd (ExR w.heap.size) w g E (overP E l)) := by
  have hlt := h.lt
  have hpl := hp.lt
  have HS0 := Lib.hid (StP.start (T := 27) (cs := zEx) h)
  have HB0 := Lib.hid (hp.alloc (.cells zEx 27))
  have hmx : Tryz.prog.follows .mixedOrders = true := by kernel_rfl
  go_enter Tryz.func151, Tryz.ntmps151
  go_wp2_with fail
  refine wp_region_held_drew (S := fun W => W.cell? ⟨bp, 0, none⟩ = some (.pointer (some ⟨g, 0, none⟩))) (by kernel_rfl) (HB0.out.cell 0) (fun hHeld => ?_)
  refine plI [(0, false), (2, false)] ?_
  repeat ((first | ((with_reducible show Plan ((_, true) :: _) _); refine plF ?_) | (refine plR (v := ?_) ?_ ?_; rotate_left; focus (intro W hSW; (try dsimp only at hSW); go_simp; all_goals (with_reducible rfl)))); try simp only [Act.put, List.setIfInBounds_toArray, List.set_cons_zero, List.set_cons_succ])
  refine plE ?_
  refine wpAnyH_ready (rs := [1]) (by kernel_rfl) (by simp) ?_
  refine AllReadyH.cons (o := ⟨_, _, _, _, _, _⟩) rfl (fun K hK => ?_) AllReadyH.nil
  go_simp
  go_at_call 98; refine (pname_any g E l _ (HS0.out.drew).par).mono ?_; rintro e w2 hd; rcases hd.cases with ⟨er, at', hq, rfl, ha⟩ | ⟨nm, r, v, hq, rfl, rfl, ha, hpr⟩
  (exact ⟨rfl, Rd.bad (by unfold overP; rw [hq]; rfl) ((HS0.out.drew).aw.trans ha)⟩)
  have HQ1 := Lib.hid hq; have HS1 := Lib.hid ((HS0.out.drew).next hlt ha hpr); have HB1 := Lib.hid ((HB0.out).aw ha hpg hpg); clear hq ha hpr hd
  refine hK.out _ _ (HB1.out.cell 0) (fun hHeld => ?_)
  clear hK K
  try simp only [Act.put, List.setIfInBounds_toArray, List.set_cons_zero, List.set_cons_succ]
  refine wpAnyH_ready (rs := [3]) (by kernel_rfl) (by simp) ?_
  refine AllReadyH.cons (o := ⟨_, _, _, _, _, _⟩) rfl (fun K hK => ?_) AllReadyH.nil
  go_simp
  go_at_call 150; refine (number_any w0 hv g E 0 r _ ((HS1.out).aw.below hb0 hg hg) (HS1.out).par).mono ?_; rintro e w4 hd; rcases hd.cases with ⟨er, at', hq, rfl, ha⟩ | ⟨nn, r2, v, hq, rfl, rfl, ha, hpr⟩
  (exact ⟨rfl, Rd.bad (by unfold overP; rw [HQ1.out]; show ((numP E 0 r).bind _) = _; rw [hq]; rfl) ((HS1.out).aw.trans ha)⟩)
  have HQ2 := Lib.hid hq; have HS3 := Lib.hid ((HS1.out).next hlt ha hpr); have HB3 := Lib.hid ((HB1.out).aw ha hpg hpg); obtain ⟨dr, fr⟩ := HS3.out.res.facts; clear hq ha hpr hd
  refine hK.out _ _ (HB3.out.cell 0) (fun hHeld => ?_)
  clear hK K
  try simp only [Act.put, List.setIfInBounds_toArray, List.set_cons_zero, List.set_cons_succ]
  refine plI [(4, false)] ?_
  repeat ((first | ((with_reducible show Plan ((_, true) :: _) _); refine plF ?_) | (refine plR (v := ?_) ?_ ?_; rotate_left; focus (intro W hSW; (try dsimp only at hSW); go_simp; all_goals (with_reducible rfl)))); try simp only [Act.put, List.setIfInBounds_toArray, List.set_cons_zero, List.set_cons_succ])
  refine plE ?_
  refine wpAnyH_ready (rs := [5]) (by kernel_rfl) (by simp) ?_
  refine AllReadyH.cons (o := ⟨_, _, _, _, _, _⟩) rfl (fun K hK => ?_) AllReadyH.nil
  go_simp
  have HB5 := Lib.hid (show Has (six w4 w.heap.size (.int .i64 6) (.string nm) (.string ⟨#[]⟩) (.int .i64 nn) (.int .i64 0) (.slice none 0 0)) bp 112 #[.pointer (some ⟨g, 0, none⟩)] from (six_old _ _ _ _ _ _ _ _ (by omega)).trans HB3.out)
  refine hK.out _ _ (HB5.out.cell 0) (fun hHeld => ?_)
  clear hK K
  try simp only [Act.put]
  refine wpAnyH_done (by kernel_rfl) ?_ _
  clear hHeld
  go_wp2_with fail
  have HSix := Lib.hid (six_has (HS3.out).res (.int .i64 6) (.string nm) (.string ⟨#[]⟩) (.int .i64 nn) (.int .i64 0) (.slice none 0 0))
  have HFn := Lib.hid (show Rd (ExR w.heap.size) w g E (overP E l) (.returned (.agg #[.int .i64 6, .string nm, .string ⟨#[]⟩, .int .i64 nn, .int .i64 0, .slice none 0 0])) (six (w4) w.heap.size (.int .i64 6) (.string nm) (.string ⟨#[]⟩) (.int .i64 nn) (.int .i64 0) (.slice none 0 0)) from Rd.ok (x := .mk 6 nm ⟨#[]⟩ nn 0 []) (r := r2) (by unfold overP; rw [HQ1.out]; show ((numP E 0 r).bind _) = _; rw [HQ2.out]; rfl) (six_aw (HS3.out).aw (.inr (.inr (Nat.le_refl _))) _ _ _ _ _ _) ⟨_, rfl, LayS.nil _ _⟩ (six_par (HS3.out).par hlt _ _ _ _ _ _))
  show bodyPost _ _ _ _ _ (six (w4) w.heap.size (.int .i64 6) (.string nm) (.string ⟨#[]⟩) (.int .i64 nn) (.int .i64 0) (.slice none 0 0))
  generalize six (w4) w.heap.size (.int .i64 6) (.string nm) (.string ⟨#[]⟩) (.int .i64 nn) (.int .i64 0) (.slice none 0 0) = W6 at *
  obtain ⟨d6, f6⟩ := HSix.out.facts
  refine bodyPost_ret (v := .agg #[.int .i64 6, .string nm, .string ⟨#[]⟩, .int .i64 nn, .int .i64 0, .slice none 0 0]) (by simp [results, Tryz.results151, go_sem, d6]) rfl ?_
  exact HFn.out
set_option maxRecDepth 100000 in
set_option maxHeartbeats 8000000 in
theorem has_any (w0 : World) (g bp : Nat) (E : Int) (l : List Fnd) (w : World) (_hb0 : Below w0.heap.size w0 w) (_hg : w0.heap.size ≤ g) (h : Par w g E l) (_hm : l.length + 1 ≤ 1000000) (hp : Has w bp 112 #[.pointer (some ⟨g, 0, none⟩)]) (_hpg : bp ≠ g)  :
    Calls Tryz.prog 152 #[.pointer (some ⟨bp, 0, none⟩)] w (Rd (ExR w.heap.size) w g E (hasP E l)) := by
  have hlt := h.lt
  have hpl := hp.lt
  have HS0 := Lib.hid (StP.start (T := 27) (cs := zEx) h)
  have HB0 := Lib.hid (hp.alloc (.cells zEx 27))
  obtain ⟨db, fb⟩ := HB0.out.facts
  have hmx : Tryz.prog.follows .mixedOrders = true := by kernel_rfl
  go_enter Tryz.func152, Tryz.ntmps152
  go_wp2_with (go_at_call 98; refine (pname_any g E l _ (HS0.out).par).mono ?_; rintro e w2 hd; rcases hd.cases with ⟨er, at', hq, rfl, ha⟩ | ⟨nm, r, v, hq, rfl, rfl, ha, hpr⟩; (exact ⟨rfl, Rd.bad (by unfold hasP; rw [hq]; rfl) ((HS0.out).aw.trans ha)⟩); have HQ1 := Lib.hid hq; have HS1 := Lib.hid (HS0.out.next hlt ha hpr); obtain ⟨dr, fr⟩ := HS1.out.res.facts; clear hq ha hpr hd)
  have HSix := Lib.hid (six_has (HS1.out).res (.int .i64 8) (.string nm) (.string ⟨#[]⟩) (.int .i64 0) (.int .i64 0) (.slice none 0 0))
  have HFn := Lib.hid (show Rd (ExR w.heap.size) w g E (hasP E l) (.returned (.agg #[.int .i64 8, .string nm, .string ⟨#[]⟩, .int .i64 0, .int .i64 0, .slice none 0 0])) (six (w2) w.heap.size (.int .i64 8) (.string nm) (.string ⟨#[]⟩) (.int .i64 0) (.int .i64 0) (.slice none 0 0)) from Rd.ok (x := .mk 8 nm ⟨#[]⟩ 0 0 []) (r := r) (by unfold hasP; rw [HQ1.out]; rfl) (six_aw (HS1.out).aw (.inr (.inr (Nat.le_refl _))) _ _ _ _ _ _) ⟨_, rfl, LayS.nil _ _⟩ (six_par (HS1.out).par hlt _ _ _ _ _ _))
  show bodyPost _ _ _ _ _ (six (w2) w.heap.size (.int .i64 8) (.string nm) (.string ⟨#[]⟩) (.int .i64 0) (.int .i64 0) (.slice none 0 0))
  generalize six (w2) w.heap.size (.int .i64 8) (.string nm) (.string ⟨#[]⟩) (.int .i64 0) (.int .i64 0) (.slice none 0 0) = W6 at *
  obtain ⟨d6, f6⟩ := HSix.out.facts
  refine bodyPost_ret (v := .agg #[.int .i64 8, .string nm, .string ⟨#[]⟩, .int .i64 0, .int .i64 0, .slice none 0 0]) (by simp [results, Tryz.results152, go_sem, d6]) rfl ?_
  exact HFn.out
set_option maxRecDepth 100000 in
set_option maxHeartbeats 8000000 in
theorem true_any (g : Nat) (E : Int) (l : List Fnd) (w : World) (h : Par w g E l) :
    Calls Tryz.prog 147 #[] w (Rd (ExR w.heap.size) w g E (.ok (.mk 1 e0 e0 0 0 []) l)) := by
  have hlt := h.lt
  have HS0 := Lib.hid (StP.start (T := 27) (cs := zEx) h)
  have hb : Below w.heap.size w (w.alloc (.cells #[.int .i64 1, .string ⟨#[]⟩, .string ⟨#[]⟩, .int .i64 0, .int .i64 0, .slice none 0 0] 27)) := (Below.refl _ _).alloc (Nat.le_refl _) _
  have HR := Lib.hid (show Rd (ExR w.heap.size) w g E (.ok (.mk 1 e0 e0 0 0 []) l) (.returned (.agg #[.int .i64 1, .string ⟨#[]⟩, .string ⟨#[]⟩, .int .i64 0, .int .i64 0, .slice none 0 0])) (w.alloc (.cells #[.int .i64 1, .string ⟨#[]⟩, .string ⟨#[]⟩, .int .i64 0, .int .i64 0, .slice none 0 0] 27)) from Rd.ok rfl (.of_below hb) ⟨_, rfl, LayS.nil _ _⟩ (h.below hb))
  go_enter Tryz.func147, Tryz.ntmps147
  go_wp2_with fail
  refine bodyPost_ret (v := .agg #[.int .i64 1, .string ⟨#[]⟩, .string ⟨#[]⟩, .int .i64 0, .int .i64 0, .slice none 0 0]) (by simp [results, Tryz.results147, go_sem]) rfl ?_
  exact HR.out
end Go.Proofs.YtcpakaiblelmlaaGreatDoor
namespace Go.Proofs.YtcpakaiblelmlaaGreatDoor
open Go Go.RowKit
set_option maxRecDepth 100000 in
set_option maxHeartbeats 8000000 in
theorem slot_any (w0 : World) (g bp : Nat) (E : Int) (l : List Fnd) (w : World) (_hb0 : Below w0.heap.size w0 w) (_hg : w0.heap.size ≤ g) (h : Par w g E l) (_hm : l.length + 1 ≤ 1000000) (hp : Has w bp 112 #[.pointer (some ⟨g, 0, none⟩)]) (hpg : bp ≠ g)  :
    Calls Tryz.prog 153 #[.pointer (some ⟨bp, 0, none⟩)] w (Rd (ExR w.heap.size) w g E (slotP E l)) := by
  have hlt := h.lt
  have hpl := hp.lt
  have HS0 := Lib.hid (StP.start (T := 27) (cs := zEx) h)
  have HB0 := Lib.hid (hp.alloc (.cells zEx 27))
  obtain ⟨db, fb⟩ := HB0.out.facts
  have hmx : Tryz.prog.follows .mixedOrders = true := by kernel_rfl
  go_enter Tryz.func153, Tryz.ntmps153
  go_wp2_with (first
    | (go_at_call 98; refine (pname_any g E l _ (HS0.out).par).mono ?_; rintro e w2 hd; rcases hd.cases with ⟨er, at', hq, rfl, ha⟩ | ⟨nm, r, v, hq, rfl, rfl, ha, hpr⟩; (exact ⟨rfl, Rd.bad (by unfold slotP; rw [hq]; rfl) ((HS0.out).aw.trans ha)⟩); have HQ1 := Lib.hid hq; have HS1 := Lib.hid (HS0.out.next hlt ha hpr); have HX1 := Lib.hid ((Has.new w2 27 #[.int .i64 9, .string nm, .string ⟨#[]⟩, .int .i64 0, .int .i64 0, .slice none 0 0]).alloc (.cells #[.string ⟨#[105, 115]⟩] 9)); have HS2 := Lib.hid ((HS1.out.alloc (.cells #[.int .i64 9, .string nm, .string ⟨#[]⟩, .int .i64 0, .int .i64 0, .slice none 0 0] 27)).alloc (.cells #[.string ⟨#[105, 115]⟩] 9)); have HC2 := Lib.hid (alloc_cell (w2.alloc (.cells #[.int .i64 9, .string nm, .string ⟨#[]⟩, .int .i64 0, .int .i64 0, .slice none 0 0] 27)) wIs 9 (w2.heap.size + 1) (World.size_alloc _ _).symm); have HB2 := Lib.hid (HB0.out.aw ha hpg hpg); obtain ⟨dbb, fbb⟩ := ((HB2.out.alloc (.cells #[.int .i64 9, .string nm, .string ⟨#[]⟩, .int .i64 0, .int .i64 0, .slice none 0 0] 27))).facts; clear hq ha hpr hd)
    | (go_at_call 97; refine (want_any g E wIs r _ _ _ HS2.out.par HC2.out).mono ?_; rintro e w3 (⟨hq, rfl, rfl⟩ | ⟨hq, rfl, ha, hpr⟩); (exact ⟨rfl, Rd.bad (by unfold slotP; rw [HQ1.out]; show ((wantP E wIs r).bind _) = _; rw [hq]; rfl) HS2.out.aw⟩); have HQ2 := Lib.hid hq; have HX3 := Lib.hid (HX1.out.aw ha (by have := HS1.out.lt; omega) (by have := HS1.out.lt; omega)); have HS3 := Lib.hid (HS2.out.next hlt ha hpr); obtain ⟨dc, fc⟩ := ((((HB2.out.alloc (.cells #[.int .i64 9, .string nm, .string ⟨#[]⟩, .int .i64 0, .int .i64 0, .slice none 0 0] 27)).alloc (.cells #[.string ⟨#[105, 115]⟩] 9)).aw ha hpg hpg)).facts; clear hq ha hpr)
    | (go_at_call 98; refine (pname_any g E r.tail _ (HS3.out).par).mono ?_; rintro e w4 hd; rcases hd.cases with ⟨er, at', hq, rfl, ha⟩ | ⟨nm2, r3, v, hq, rfl, rfl, ha, hpr⟩; (exact ⟨rfl, Rd.bad (by unfold slotP; rw [HQ1.out]; show ((wantP E wIs r).bind _) = _; rw [HQ2.out]; show ((nameP E r.tail).bind _) = _; rw [hq]; rfl) ((HS3.out).aw.trans ha)⟩); have HQ3 := Lib.hid hq; have HX4 := Lib.hid (HX3.out.aw ha (by have := HS1.out.lt; omega) (by have := HS1.out.lt; omega)); have HS4 := Lib.hid (HS3.out.next hlt ha hpr); obtain ⟨dx, fx⟩ := HX4.out.facts; obtain ⟨dr, fr⟩ := HS4.out.res.facts; have hn1 : ¬ w2.heap.size = w.heap.size := (by have := HS1.out.lt; omega); have hn2 : ¬ w.heap.size = w2.heap.size := (by have := HS1.out.lt; omega); clear hq ha hpr hd))
  have HS5 := Lib.hid (show StP w g E 27 zEx r3 (w4.setCell ⟨w2.heap.size, 2, none⟩ (.string nm2)) from ⟨HS4.out.aw.set _ 2 (.inr (.inr (by have := HS1.out.lt; omega))) _, HS4.out.par.on fun b hb => heap_setCell_other w4 ⟨w2.heap.size, 2, none⟩ b _ (by have := HS1.out.lt; show b ≠ w2.heap.size; omega), HS4.out.res.far ⟨w2.heap.size, 2, none⟩ (by have := HS1.out.lt; show w.heap.size ≠ w2.heap.size; omega) _⟩)
  have HSix := Lib.hid (six_has (HS5.out).res (.int .i64 9) (.string nm) (.string nm2) (.int .i64 0) (.int .i64 0) (.slice none 0 0))
  have HFn := Lib.hid (show Rd (ExR w.heap.size) w g E (slotP E l) (.returned (.agg #[.int .i64 9, .string nm, .string nm2, .int .i64 0, .int .i64 0, .slice none 0 0])) (six (w4.setCell ⟨w2.heap.size, 2, none⟩ (.string nm2)) w.heap.size (.int .i64 9) (.string nm) (.string nm2) (.int .i64 0) (.int .i64 0) (.slice none 0 0)) from Rd.ok (x := .mk 9 nm nm2 0 0 []) (r := r3) (by unfold slotP; rw [HQ1.out]; show ((wantP E wIs r).bind _) = _; rw [HQ2.out]; show ((nameP E r.tail).bind _) = _; rw [HQ3.out]; rfl) (six_aw (HS5.out).aw (.inr (.inr (Nat.le_refl _))) _ _ _ _ _ _) ⟨_, rfl, LayS.nil _ _⟩ (six_par (HS5.out).par hlt _ _ _ _ _ _))
  show bodyPost _ _ _ _ _ (six (w4.setCell ⟨w2.heap.size, 2, none⟩ (.string nm2)) w.heap.size (.int .i64 9) (.string nm) (.string nm2) (.int .i64 0) (.int .i64 0) (.slice none 0 0))
  generalize six (w4.setCell ⟨w2.heap.size, 2, none⟩ (.string nm2)) w.heap.size (.int .i64 9) (.string nm) (.string nm2) (.int .i64 0) (.int .i64 0) (.slice none 0 0) = W6 at *
  obtain ⟨d6, f6⟩ := HSix.out.facts
  refine bodyPost_ret (v := .agg #[.int .i64 9, .string nm, .string nm2, .int .i64 0, .int .i64 0, .slice none 0 0]) (by simp [results, Tryz.results153, go_sem, d6]) rfl ?_
  exact HFn.out
end Go.Proofs.YtcpakaiblelmlaaGreatDoor
namespace Go.Proofs.YtcpakaiblelmlaaGreatDoor
open Go Go.RowKit
set_option maxRecDepth 100000 in
set_option maxHeartbeats 8000000 in
theorem atc_any (w0 : World) (g bp : Nat) (E : Int) (l : List Fnd) (w : World) (hb0 : Below w0.heap.size w0 w) (hg : w0.heap.size ≤ g) (h : Par w g E l) (_hm : l.length + 1 ≤ 1000000) (hp : Has w bp 112 #[.pointer (some ⟨g, 0, none⟩)]) (hpg : bp ≠ g) (hv : Evs w0) :
    Calls Tryz.prog 154 #[.pointer (some ⟨bp, 0, none⟩)] w (Rd (ExR w.heap.size) w g E (atP E l)) := by
  have hlt := h.lt
  have hpl := hp.lt
  have HS0 := Lib.hid (StP.start (T := 27) (cs := zEx) h)
  have HB0 := Lib.hid (hp.alloc (.cells zEx 27))
  have HSA := Lib.hid (HS0.out.alloc (.cells #[.string ⟨#[108, 101, 97, 115, 116]⟩] 9))
  have HCA := Lib.hid (alloc_cell (w.alloc (.cells zEx 27)) wLeast 9 (w.heap.size + 1) (World.size_alloc _ _).symm)
  obtain ⟨db, fb⟩ := HB0.out.facts
  have hmx : Tryz.prog.follows .mixedOrders = true := by kernel_rfl
  go_enter Tryz.func154, Tryz.ntmps154
  go_wp2_with (go_at_call 97; refine (want_any g E wLeast l _ _ _ HSA.out.par HCA.out).mono ?_; rintro e w3 (⟨hq, rfl, rfl⟩ | ⟨hq, rfl, ha, hpr⟩); (exact ⟨rfl, Rd.bad (by unfold atP; rw [hq]; rfl) HSA.out.aw⟩); have HQ1 := Lib.hid hq; have HSW := Lib.hid (HSA.out.next hlt ha hpr); have HBW := Lib.hid ((HB0.out.alloc (.cells #[.string ⟨#[108, 101, 97, 115, 116]⟩] 9)).aw ha hpg hpg); clear hq ha hpr)
  refine wp_region_held_drew (S := fun W => W.cell? ⟨bp, 0, none⟩ = some (.pointer (some ⟨g, 0, none⟩))) (by kernel_rfl) (HBW.out.cell 0) (fun hHeld => ?_)
  refine plI [(0, false), (2, false)] ?_
  repeat ((first | ((with_reducible show Plan ((_, true) :: _) _); refine plF ?_) | (refine plR (v := ?_) ?_ ?_; rotate_left; focus (intro W hSW; (try dsimp only at hSW); go_simp; all_goals (with_reducible rfl)))); try simp only [Act.put, List.setIfInBounds_toArray, List.set_cons_zero, List.set_cons_succ])
  refine plE ?_
  refine wpAnyH_ready (rs := [1]) (by kernel_rfl) (by simp) ?_
  refine AllReadyH.cons (o := ⟨_, _, _, _, _, _⟩) rfl (fun K hK => ?_) AllReadyH.nil
  go_simp
  go_at_call 150; refine (number_any w0 hv g E 1 l.tail _ ((HSW.out.drew).aw.below hb0 hg hg) (HSW.out.drew).par).mono ?_; rintro e w4 hd; rcases hd.cases with ⟨er, at', hq, rfl, ha⟩ | ⟨nn, r2, v, hq, rfl, rfl, ha, hpr⟩
  (exact ⟨rfl, Rd.bad (by unfold atP; rw [HQ1.out]; show ((numP E 1 l.tail).bind _) = _; rw [hq]; rfl) ((HSW.out.drew).aw.trans ha)⟩)
  have HQ2 := Lib.hid hq; have HS1 := Lib.hid ((HSW.out.drew).next hlt ha hpr); have HB1 := Lib.hid ((HBW.out).aw ha hpg hpg); clear hq ha hpr hd
  refine hK.out _ _ (HB1.out.cell 0) (fun hHeld => ?_)
  clear hK K
  try simp only [Act.put, List.setIfInBounds_toArray, List.set_cons_zero, List.set_cons_succ]
  refine wpAnyH_ready (rs := [3]) (by kernel_rfl) (by simp) ?_
  refine AllReadyH.cons (o := ⟨_, _, _, _, _, _⟩) rfl (fun K hK => ?_) AllReadyH.nil
  go_simp
  go_at_call 98; refine (pname_any g E r2 _ (HS1.out).par).mono ?_; rintro e w5 hd; rcases hd.cases with ⟨er, at', hq, rfl, ha⟩ | ⟨nm, r3, v, hq, rfl, rfl, ha, hpr⟩
  (exact ⟨rfl, Rd.bad (by unfold atP; rw [HQ1.out]; show ((numP E 1 l.tail).bind _) = _; rw [HQ2.out]; show ((nameP E r2).bind _) = _; rw [hq]; rfl) ((HS1.out).aw.trans ha)⟩)
  have HQ3 := Lib.hid hq; have HS3 := Lib.hid ((HS1.out).next hlt ha hpr); have HB3 := Lib.hid ((HB1.out).aw ha hpg hpg); obtain ⟨dr, fr⟩ := HS3.out.res.facts; clear hq ha hpr hd
  refine hK.out _ _ (HB3.out.cell 0) (fun hHeld => ?_)
  clear hK K
  try simp only [Act.put, List.setIfInBounds_toArray, List.set_cons_zero, List.set_cons_succ]
  refine plI [(4, false)] ?_
  repeat ((first | ((with_reducible show Plan ((_, true) :: _) _); refine plF ?_) | (refine plR (v := ?_) ?_ ?_; rotate_left; focus (intro W hSW; (try dsimp only at hSW); go_simp; all_goals (with_reducible rfl)))); try simp only [Act.put, List.setIfInBounds_toArray, List.set_cons_zero, List.set_cons_succ])
  refine plE ?_
  refine wpAnyH_ready (rs := [5]) (by kernel_rfl) (by simp) ?_
  refine AllReadyH.cons (o := ⟨_, _, _, _, _, _⟩) rfl (fun K hK => ?_) AllReadyH.nil
  go_simp
  have HB5 := Lib.hid (show Has (six w5 w.heap.size (.int .i64 12) (.string nm) (.string ⟨#[]⟩) (.int .i64 nn) (.int .i64 0) (.slice none 0 0)) bp 112 #[.pointer (some ⟨g, 0, none⟩)] from (six_old _ _ _ _ _ _ _ _ (by omega)).trans HB3.out)
  refine hK.out _ _ (HB5.out.cell 0) (fun hHeld => ?_)
  clear hK K
  try simp only [Act.put]
  refine wpAnyH_done (by kernel_rfl) ?_ _
  clear hHeld
  go_wp2_with fail
  have HSix := Lib.hid (six_has (HS3.out).res (.int .i64 12) (.string nm) (.string ⟨#[]⟩) (.int .i64 nn) (.int .i64 0) (.slice none 0 0))
  have HFn := Lib.hid (show Rd (ExR w.heap.size) w g E (atP E l) (.returned (.agg #[.int .i64 12, .string nm, .string ⟨#[]⟩, .int .i64 nn, .int .i64 0, .slice none 0 0])) (six (w5) w.heap.size (.int .i64 12) (.string nm) (.string ⟨#[]⟩) (.int .i64 nn) (.int .i64 0) (.slice none 0 0)) from Rd.ok (x := .mk 12 nm ⟨#[]⟩ nn 0 []) (r := r3) (by unfold atP; rw [HQ1.out]; show ((numP E 1 l.tail).bind _) = _; rw [HQ2.out]; show ((nameP E r2).bind _) = _; rw [HQ3.out]; rfl) (six_aw (HS3.out).aw (.inr (.inr (Nat.le_refl _))) _ _ _ _ _ _) ⟨_, rfl, LayS.nil _ _⟩ (six_par (HS3.out).par hlt _ _ _ _ _ _))
  show bodyPost _ _ _ _ _ (six (w5) w.heap.size (.int .i64 12) (.string nm) (.string ⟨#[]⟩) (.int .i64 nn) (.int .i64 0) (.slice none 0 0))
  generalize six (w5) w.heap.size (.int .i64 12) (.string nm) (.string ⟨#[]⟩) (.int .i64 nn) (.int .i64 0) (.slice none 0 0) = W6 at *
  obtain ⟨d6, f6⟩ := HSix.out.facts
  refine bodyPost_ret (v := .agg #[.int .i64 12, .string nm, .string ⟨#[]⟩, .int .i64 nn, .int .i64 0, .slice none 0 0]) (by simp [results, Tryz.results154, go_sem, d6]) rfl ?_
  exact HFn.out
set_option maxRecDepth 100000 in
set_option maxHeartbeats 8000000 in
theorem notf_any (w0 : World) (g bp : Nat) (E : Int) (l : List Fnd) (w : World) (hb0 : Below w0.heap.size w0 w) (hg : w0.heap.size ≤ g) (h : Par w g E l) (_hm : l.length + 1 ≤ 1000000) (hp : Has w bp 112 #[.pointer (some ⟨g, 0, none⟩)]) (hpg : bp ≠ g) (one : List Fnd → Got Ex)
    (hone : ∀ (l' : List Fnd) (W : World), l'.length < l.length + 1 → Below w0.heap.size w0 W → Par W g E l' → Calls Tryz.prog 137 #[.pointer (some ⟨g, 0, none⟩)] W (Rd (ExR W.heap.size) W g E (one l')))
    (_hsh : ∀ l' c r, one l' = .ok c r → r.length ≤ l'.length) :
    Calls Tryz.prog 148 #[.pointer (some ⟨bp, 0, none⟩)] w (Rd (ExR w.heap.size) w g E ((one l).bind fun c r2 => .ok (.mk 2 e0 e0 0 0 [c]) r2)) := by
  have hlt := h.lt
  have hpl := hp.lt
  have HS0 := Lib.hid (StP.start (T := 27) (cs := zEx) h)
  have HB0 := Lib.hid (hp.alloc (.cells zEx 27))
  have HZ := Lib.hid (show (w.alloc (.cells zEx 27)).drew.heap.size = w.heap.size + 1 from World.size_alloc _ _)
  have hmx : Tryz.prog.follows .mixedOrders = true := by kernel_rfl
  go_enter Tryz.func148, Tryz.ntmps148
  go_wp2_with fail
  refine wp_region_held_drew (S := fun W => W.cell? ⟨bp, 0, none⟩ = some (.pointer (some ⟨g, 0, none⟩))) (by kernel_rfl) (HB0.out.cell 0) (fun hHeld => ?_)
  refine plI [(1, false)] ?_
  repeat ((first | ((with_reducible show Plan ((_, true) :: _) _); refine plF ?_) | (refine plR (v := ?_) ?_ ?_; rotate_left; focus (intro W hSW; (try dsimp only at hSW); go_simp; all_goals (with_reducible rfl)))); try simp only [Act.put, List.setIfInBounds_toArray, List.set_cons_zero, List.set_cons_succ])
  refine plE ?_
  refine wpAnyH_ready (rs := [0]) (by kernel_rfl) (by simp) ?_
  refine AllReadyH.cons (o := ⟨_, _, _, _, _, _⟩) rfl (fun K hK => ?_) AllReadyH.nil
  go_simp
  go_at_call 126; refine (of_any 2 _).mono ?_; rintro e w2 ⟨rfl, hb2, hx2⟩
  rw [HZ.out] at hx2
  have HN2 := Lib.hid hx2; have HS2 := Lib.hid (HS0.out.drew.next hlt (.of_below hb2) (HS0.out.drew.par.below hb2)); have HB2 := Lib.hid (HB0.out.drew.below hb2 (by rw [HZ.out]; omega)); have HO := Lib.hid (hone l w2 (Nat.lt_succ_self _) (HS2.out.aw.below hb0 hg hg) HS2.out.par); clear hb2 hx2
  refine hK.out _ _ (HB2.out.cell 0) (fun hHeld => ?_)
  clear hK K
  try simp only [Act.put, List.setIfInBounds_toArray, List.set_cons_zero, List.set_cons_succ]
  refine wpAnyH_ready (rs := [2]) (by kernel_rfl) (by simp) ?_
  refine AllReadyH.cons (o := ⟨_, _, _, _, _, _⟩) rfl (fun K hK => ?_) AllReadyH.nil
  go_simp
  go_at_call 137; refine HO.out.mono ?_; rintro e w4 hd; rcases hd.cases with ⟨er, at', hq, rfl, ha⟩ | ⟨x, r2, v, hq, rfl, ⟨kv, rfl, hv⟩, ha, hpr⟩
  (exact ⟨rfl, Rd.bad (by rw [hq]; rfl) (HS2.out.aw.trans ha)⟩)
  obtain ⟨A', c', rfl, _⟩ := hv.slice
  have HQ2 := Lib.hid hq; have HV := Lib.hid (hv.mono (T := fun b => w.heap.size + 1 ≤ b) fun b hb _ => Nat.le_trans HS2.out.lt hb); have HS4 := Lib.hid (HS2.out.next hlt ha hpr); have HB4 := Lib.hid (HB2.out.aw ha hpg hpg); have HN4 := Lib.hid (HN2.out.aw ha (by omega) (by omega)); clear hq hv ha hpr hd HO
  refine hK.out _ _ (HB4.out.cell 0) (fun hHeld => ?_)
  clear hK K
  try simp only [Act.put, List.setIfInBounds_toArray, List.set_cons_zero, List.set_cons_succ]
  refine wpAnyH_ready (rs := [3]) (by kernel_rfl) (by simp) ?_
  refine AllReadyH.cons (o := ⟨_, _, _, _, _, _⟩) rfl (fun K hK => ?_) AllReadyH.nil
  go_simp
  have HX := Lib.hid (Has.new w4 27 #[.int .i64 x.op, .string x.name, .string x.value, .int .i64 x.n, .int .i64 x.extra, .slice A' x.kids.length c']); have HS5 := Lib.hid (HS4.out.alloc (.cells #[.int .i64 x.op, .string x.name, .string x.value, .int .i64 x.n, .int .i64 x.extra, .slice A' x.kids.length c'] 27)); have HB5 := Lib.hid (HB4.out.alloc (.cells #[.int .i64 x.op, .string x.name, .string x.value, .int .i64 x.n, .int .i64 x.extra, .slice A' x.kids.length c'] 27)); have HN5 := Lib.hid (HN4.out.alloc (.cells #[.int .i64 x.op, .string x.name, .string x.value, .int .i64 x.n, .int .i64 x.extra, .slice A' x.kids.length c'] 27)); have HL5 := Lib.hid (lay_one (S := fun b => w.heap.size + 1 ≤ b) HX.out HS4.out.lt (HV.out.later ((Below.refl _ _).alloc (Nat.le_refl _) _)))
  refine hK.out _ _ (HB5.out.cell 0) (fun hHeld => ?_)
  clear hK K
  try simp only [Act.put, List.setIfInBounds_toArray, List.set_cons_zero, List.set_cons_succ]
  refine wpAnyH_ready (rs := [4]) (by kernel_rfl) (by simp) ?_
  refine AllReadyH.cons (o := ⟨_, _, _, _, _, _⟩) rfl (fun K hK => ?_) AllReadyH.nil
  go_simp
  go_at_call 138; refine (of1_any 2 _ [x] _ _ HN5.out HL5.out).mono ?_; rintro e w6 ⟨rfl, hb6⟩
  have HL6 := Lib.hid (HL5.out.later hb6); have HS6 := Lib.hid (HS5.out.next hlt (.of_below hb6) (HS5.out.par.below hb6)); have HB6 := Lib.hid (HB5.out.below hb6 HB5.out.lt); obtain ⟨dr, fr⟩ := HS6.out.res.facts; clear hb6
  refine hK.out _ _ (HB6.out.cell 0) (fun hHeld => ?_)
  clear hK K
  try simp only [Act.put, List.setIfInBounds_toArray, List.set_cons_zero, List.set_cons_succ]
  refine wpAnyH_ready (rs := [5]) (by kernel_rfl) (by simp) ?_
  refine AllReadyH.cons (o := ⟨_, _, _, _, _, _⟩) rfl (fun K hK => ?_) AllReadyH.nil
  go_simp
  have HB7 := Lib.hid (show Has (six w6 w.heap.size (.int .i64 2) (.string e0) (.string e0) (.int .i64 0) (.int .i64 0) (.slice (some ⟨w4.heap.size, 0, none⟩) 1 1)) bp 112 #[.pointer (some ⟨g, 0, none⟩)] from (six_old _ _ _ _ _ _ _ _ (by omega)).trans HB6.out)
  refine hK.out _ _ (HB7.out.cell 0) (fun hHeld => ?_)
  clear hK K
  try simp only [Act.put]
  refine wpAnyH_done (by kernel_rfl) ?_ _
  clear hHeld
  go_wp2_with fail
  have HSix := Lib.hid (six_has (HS6.out).res (.int .i64 2) (.string e0) (.string e0) (.int .i64 0) (.int .i64 0) (.slice (some ⟨w4.heap.size, 0, none⟩) 1 1))
  have HFn := Lib.hid (show Rd (ExR w.heap.size) w g E ((one l).bind fun c r2 => .ok (.mk 2 e0 e0 0 0 [c]) r2) (.returned (.agg #[.int .i64 2, .string e0, .string e0, .int .i64 0, .int .i64 0, .slice (some ⟨w4.heap.size, 0, none⟩) 1 1])) (six (w6) w.heap.size (.int .i64 2) (.string e0) (.string e0) (.int .i64 0) (.int .i64 0) (.slice (some ⟨w4.heap.size, 0, none⟩) 1 1)) from Rd.ok (x := .mk 2 e0 e0 0 0 [x]) (r := r2) (by rw [HQ2.out]; rfl) (six_aw (HS6.out).aw (.inr (.inr (Nat.le_refl _))) _ _ _ _ _ _) ⟨_, rfl, six_lay (ks := [x]) HL6.out (fun b hb => ⟨by omega, by omega⟩) _ _ _ _ _ _⟩ (six_par (HS6.out).par hlt _ _ _ _ _ _))
  show bodyPost _ _ _ _ _ (six (w6) w.heap.size (.int .i64 2) (.string e0) (.string e0) (.int .i64 0) (.int .i64 0) (.slice (some ⟨w4.heap.size, 0, none⟩) 1 1))
  generalize six (w6) w.heap.size (.int .i64 2) (.string e0) (.string e0) (.int .i64 0) (.int .i64 0) (.slice (some ⟨w4.heap.size, 0, none⟩) 1 1) = W6 at *
  obtain ⟨d6, f6⟩ := HSix.out.facts
  refine bodyPost_ret (v := .agg #[.int .i64 2, .string e0, .string e0, .int .i64 0, .int .i64 0, .slice (some ⟨w4.heap.size, 0, none⟩) 1 1]) (by simp [results, Tryz.results148, go_sem, d6]) rfl ?_
  exact HFn.out
end Go.Proofs.YtcpakaiblelmlaaGreatDoor
namespace Go.Proofs.YtcpakaiblelmlaaGreatDoor
open Go Go.RowKit
set_option maxRecDepth 100000 in
set_option maxHeartbeats 8000000 in
theorem limit_any (w0 : World) (g bp : Nat) (E : Int) (l : List Fnd) (w : World) (hb0 : Below w0.heap.size w0 w) (hg : w0.heap.size ≤ g) (h : Par w g E l) (_hm : l.length + 1 ≤ 1000000) (hp : Has w bp 112 #[.pointer (some ⟨g, 0, none⟩)]) (hpg : bp ≠ g) (hv : Evs w0) :
    Calls Tryz.prog 149 #[.pointer (some ⟨bp, 0, none⟩)] w (Rd (ExR w.heap.size) w g E (limitP E l)) := by
  have hlt := h.lt
  have hpl := hp.lt
  have HS0 := Lib.hid (StP.start (T := 27) (cs := zEx) h)
  have HB0 := Lib.hid (hp.alloc (.cells zEx 27))
  have hmx : Tryz.prog.follows .mixedOrders = true := by kernel_rfl
  go_enter Tryz.func149, Tryz.ntmps149
  go_wp2_with fail
  refine wp_region_held_drew (S := fun W => W.cell? ⟨bp, 0, none⟩ = some (.pointer (some ⟨g, 0, none⟩))) (by kernel_rfl) (HB0.out.cell 0) (fun hHeld => ?_)
  refine plI [(0, false), (2, false)] ?_
  repeat ((first | ((with_reducible show Plan ((_, true) :: _) _); refine plF ?_) | (refine plR (v := ?_) ?_ ?_; rotate_left; focus (intro W hSW; (try dsimp only at hSW); go_simp; all_goals (with_reducible rfl)))); try simp only [Act.put, List.setIfInBounds_toArray, List.set_cons_zero, List.set_cons_succ])
  refine plE ?_
  refine wpAnyH_ready (rs := [1, 5]) (by kernel_rfl) (by simp) ?_
  refine AllReadyH.cons (o := ⟨_, _, _, _, _, _⟩) rfl (fun K hK => ?_) ?_
  · go_simp
    go_at_call 98; refine (pname_any g E l _ (HS0.out.drew).par).mono ?_; rintro e w2 hd; rcases hd.cases with ⟨er, at', hq, rfl, ha⟩ | ⟨nm, r, v, hq, rfl, rfl, ha, hpr⟩
    (exact ⟨rfl, Rd.bad (by unfold limitP; rw [hq]; rfl) ((HS0.out.drew).aw.trans ha)⟩)
    have HQ1 := Lib.hid hq; have HS1 := Lib.hid ((HS0.out.drew).next hlt ha hpr); have HB1 := Lib.hid ((HB0.out).aw ha hpg hpg)
    clear hq ha hpr hd
    refine hK.out _ _ (HB1.out.cell 0) (fun hHeld => ?_)
    clear hK K
    try simp only [Act.put, List.setIfInBounds_toArray, List.set_cons_zero, List.set_cons_succ]
    refine wpAnyH_ready (rs := [3, 5]) (by kernel_rfl) (by simp) ?_
    refine AllReadyH.cons (o := ⟨_, _, _, _, _, _⟩) rfl (fun K hK => ?_) ?_
    · go_simp
      go_at_call 150; refine (number_any w0 hv g E 0 r _ ((HS1.out).aw.below hb0 hg hg) (HS1.out).par).mono ?_; rintro e w4 hd; rcases hd.cases with ⟨er, at', hq, rfl, ha⟩ | ⟨nn, r2, v, hq, rfl, rfl, ha, hpr⟩
      (exact ⟨rfl, Rd.bad (by unfold limitP; rw [HQ1.out]; show ((numP E 0 r).bind _) = _; rw [hq]; rfl) ((HS1.out).aw.trans ha)⟩)
      have HQ2 := Lib.hid hq; have HS3 := Lib.hid ((HS1.out).next hlt ha hpr); have HB3 := Lib.hid ((HB1.out).aw ha hpg hpg)
      clear hq ha hpr hd
      refine hK.out _ _ (HB3.out.cell 0) (fun hHeld => ?_)
      clear hK K
      try simp only [Act.put, List.setIfInBounds_toArray, List.set_cons_zero, List.set_cons_succ]
      refine plI [(4, false)] ?_
      repeat ((first | ((with_reducible show Plan ((_, true) :: _) _); refine plF ?_) | (refine plR (v := ?_) ?_ ?_; rotate_left; focus (intro W hSW; (try dsimp only at hSW); go_simp; all_goals (with_reducible rfl)))); try simp only [Act.put, List.setIfInBounds_toArray, List.set_cons_zero, List.set_cons_succ])
      refine plE ?_
      refine wpAnyH_ready (rs := [5]) (by kernel_rfl) (by simp) ?_
      refine AllReadyH.cons (o := ⟨_, _, _, _, _, _⟩) rfl (fun K hK => ?_) AllReadyH.nil
      go_simp
      have HX5 := Lib.hid (Has.new (w4) 27 zEx); have HS5 := Lib.hid ((HS3.out).alloc (.cells zEx 27)); have HB5 := Lib.hid ((HB3.out).alloc (.cells zEx 27))
      refine hK.out _ _ (HB5.out.cell 0) (fun hHeld => ?_)
      clear hK K
      try simp only [Act.put, List.setIfInBounds_toArray, List.set_cons_zero, List.set_cons_succ]
      refine wpAnyH_ready (rs := [6]) (by kernel_rfl) (by simp) ?_
      refine AllReadyH.cons (o := ⟨_, _, _, _, _, _⟩) rfl (fun K hK => ?_) AllReadyH.nil
      go_simp
      have HB6 := Lib.hid (HB3.out.alloc (.cells #[.int .i64 5, .string nm, .string ⟨#[]⟩, .int .i64 nn, .int .i64 0, .slice none 0 0] 27)); have HX6 := Lib.hid (Has.new w4 27 #[.int .i64 5, .string nm, .string ⟨#[]⟩, .int .i64 nn, .int .i64 0, .slice none 0 0]); have HS6 := Lib.hid (HS3.out.alloc (.cells #[.int .i64 5, .string nm, .string ⟨#[]⟩, .int .i64 nn, .int .i64 0, .slice none 0 0] 27)); have HLB := Lib.hid (show w.heap.size < w4.heap.size by have := HS1.out.lt; have := HS3.out.lt; omega)
      refine hK.out _ _ (HB6.out.cell 0) (fun hHeld => ?_)
      clear hK K
      try simp only [Act.put]
      refine wpAnyH_done (by kernel_rfl) ?_ _
      clear hHeld
      change Exit.then _ _ _ _ (w4.alloc (.cells #[.int .i64 5, .string nm, .string ⟨#[]⟩, .int .i64 nn, .int .i64 0, .slice none 0 0] 27))
      generalize w4.alloc (.cells #[.int .i64 5, .string nm, .string ⟨#[]⟩, .int .i64 nn, .int .i64 0, .slice none 0 0] 27) = W7 at *
      generalize w4.heap.size = B at *
      have hlb := HLB.out
      have hnb1 : ¬ B = w.heap.size := (by omega)
      have hnb2 : ¬ w.heap.size = B := (by omega)
      obtain ⟨db, fb⟩ := HB6.out.facts
      obtain ⟨d7, f7⟩ := HX6.out.facts
      obtain ⟨dr, fr⟩ := HS6.out.res.facts
      clear HS0 HB0 HS1 HB1 HS3 HB3 HX5 HS5 HB5
      cases hsk : skipB wPlus r2 with
      | false =>
        go_wp2_with (go_at_call 122; refine (skip_no g E wPlus r2 _ HS6.out.par hsk).mono ?_; rintro e w8 ⟨rfl, rfl⟩)
        have HSix := Lib.hid (six_has (HS6.out).res (.int .i64 5) (.string nm) (.string ⟨#[]⟩) (.int .i64 nn) (.int .i64 0) (.slice none 0 0))
        have HFn := Lib.hid (show Rd (ExR w.heap.size) w g E (limitP E l) (.returned (.agg #[.int .i64 5, .string nm, .string ⟨#[]⟩, .int .i64 nn, .int .i64 0, .slice none 0 0])) (six (w8) w.heap.size (.int .i64 5) (.string nm) (.string ⟨#[]⟩) (.int .i64 nn) (.int .i64 0) (.slice none 0 0)) from Rd.ok (x := .mk 5 nm ⟨#[]⟩ nn 0 []) (r := r2) (by unfold limitP; rw [HQ1.out]; show ((numP E 0 r).bind _) = _; rw [HQ2.out]; show (if skipB wPlus r2 then _ else _) = _; rw [if_neg (by rw [hsk]; exact Bool.false_ne_true)]; rfl) (six_aw (HS6.out).aw (.inr (.inr (Nat.le_refl _))) _ _ _ _ _ _) ⟨_, rfl, LayS.nil _ _⟩ (six_par (HS6.out).par hlt _ _ _ _ _ _))
        show bodyPost _ _ _ _ _ (six (w8) w.heap.size (.int .i64 5) (.string nm) (.string ⟨#[]⟩) (.int .i64 nn) (.int .i64 0) (.slice none 0 0))
        generalize six (w8) w.heap.size (.int .i64 5) (.string nm) (.string ⟨#[]⟩) (.int .i64 nn) (.int .i64 0) (.slice none 0 0) = W6 at *
        obtain ⟨d6, f6⟩ := HSix.out.facts
        refine bodyPost_ret (v := .agg #[.int .i64 5, .string nm, .string ⟨#[]⟩, .int .i64 nn, .int .i64 0, .slice none 0 0]) (by simp [results, Tryz.results149, go_sem, d6]) rfl ?_
        exact HFn.out
      | true =>
        go_wp2_with (first
          | (go_at_call 122; refine (skip_yes g E wPlus r2 _ HS6.out.par hsk).mono ?_; rintro e w8 ⟨rfl, ha, hpr⟩; have HS8 := Lib.hid (HS6.out.next hlt ha hpr); have HX8 := Lib.hid (HX6.out.aw ha (by omega) (by omega)); obtain ⟨dc, fc⟩ := (HB6.out.aw ha hpg hpg).facts; clear ha hpr)
          | (go_at_call 150; refine (number_any w0 hv g E 0 r2.tail _ ((HS8.out).aw.below hb0 hg hg) (HS8.out).par).mono ?_; rintro e w9 hd; rcases hd.cases with ⟨er, at', hq, rfl, ha⟩ | ⟨xx, r3, v, hq, rfl, rfl, ha, hpr⟩; (exact ⟨rfl, Rd.bad (by unfold limitP; rw [HQ1.out]; show ((numP E 0 r).bind _) = _; rw [HQ2.out]; show (if skipB wPlus r2 then _ else _) = _; rw [if_pos hsk]; show ((numP E 0 r2.tail).bind _) = _; rw [hq]; rfl) ((HS8.out).aw.trans ha)⟩); have HQ3 := Lib.hid hq; have HX9 := Lib.hid (HX8.out.aw ha (by omega) (by omega)); have HS9 := Lib.hid (HS8.out.next hlt ha hpr); obtain ⟨dx, fx⟩ := HX9.out.facts; obtain ⟨ds, fs⟩ := HS9.out.res.facts; clear hq ha hpr hd))
        have HST := Lib.hid (show StP w g E 27 zEx r3 (w9.setCell ⟨B, 4, none⟩ (.int .i64 xx)) from ⟨HS9.out.aw.set _ 4 (.inr (.inr (by omega))) _, HS9.out.par.on fun b hb => heap_setCell_other w9 ⟨B, 4, none⟩ b _ (by show b ≠ B; omega), HS9.out.res.far ⟨B, 4, none⟩ (by show w.heap.size ≠ B; omega) _⟩)
        have HSix := Lib.hid (six_has (HST.out).res (.int .i64 5) (.string nm) (.string ⟨#[]⟩) (.int .i64 nn) (.int .i64 xx) (.slice none 0 0))
        have HFn := Lib.hid (show Rd (ExR w.heap.size) w g E (limitP E l) (.returned (.agg #[.int .i64 5, .string nm, .string ⟨#[]⟩, .int .i64 nn, .int .i64 xx, .slice none 0 0])) (six (w9.setCell ⟨B, 4, none⟩ (.int .i64 xx)) w.heap.size (.int .i64 5) (.string nm) (.string ⟨#[]⟩) (.int .i64 nn) (.int .i64 xx) (.slice none 0 0)) from Rd.ok (x := .mk 5 nm ⟨#[]⟩ nn xx []) (r := r3) (by unfold limitP; rw [HQ1.out]; show ((numP E 0 r).bind _) = _; rw [HQ2.out]; show (if skipB wPlus r2 then _ else _) = _; rw [if_pos hsk]; show ((numP E 0 r2.tail).bind _) = _; rw [HQ3.out]; rfl) (six_aw (HST.out).aw (.inr (.inr (Nat.le_refl _))) _ _ _ _ _ _) ⟨_, rfl, LayS.nil _ _⟩ (six_par (HST.out).par hlt _ _ _ _ _ _))
        show bodyPost _ _ _ _ _ (six (w9.setCell ⟨B, 4, none⟩ (.int .i64 xx)) w.heap.size (.int .i64 5) (.string nm) (.string ⟨#[]⟩) (.int .i64 nn) (.int .i64 xx) (.slice none 0 0))
        generalize six (w9.setCell ⟨B, 4, none⟩ (.int .i64 xx)) w.heap.size (.int .i64 5) (.string nm) (.string ⟨#[]⟩) (.int .i64 nn) (.int .i64 xx) (.slice none 0 0) = W6 at *
        obtain ⟨d6, f6⟩ := HSix.out.facts
        refine bodyPost_ret (v := .agg #[.int .i64 5, .string nm, .string ⟨#[]⟩, .int .i64 nn, .int .i64 xx, .slice none 0 0]) (by simp [results, Tryz.results149, go_sem, d6]) rfl ?_
        exact HFn.out
    refine AllReadyH.cons (o := ⟨_, _, _, _, _, _⟩) rfl (fun K hK => ?_) AllReadyH.nil
    go_simp
    have HX5 := Lib.hid (Has.new (w2) 27 zEx); have HS5 := Lib.hid ((HS1.out).alloc (.cells zEx 27)); have HB5 := Lib.hid ((HB1.out).alloc (.cells zEx 27))
    refine hK.out _ _ (HB5.out.cell 0) (fun hHeld => ?_)
    clear hK K
    try simp only [Act.put, List.setIfInBounds_toArray, List.set_cons_zero, List.set_cons_succ]
    refine wpAnyH_ready (rs := [3]) (by kernel_rfl) (by simp) ?_
    refine AllReadyH.cons (o := ⟨_, _, _, _, _, _⟩) rfl (fun K hK => ?_) AllReadyH.nil
    go_simp
    go_at_call 150; refine (number_any w0 hv g E 0 r _ ((HS5.out).aw.below hb0 hg hg) (HS5.out).par).mono ?_; rintro e w4 hd; rcases hd.cases with ⟨er, at', hq, rfl, ha⟩ | ⟨nn, r2, v, hq, rfl, rfl, ha, hpr⟩
    (exact ⟨rfl, Rd.bad (by unfold limitP; rw [HQ1.out]; show ((numP E 0 r).bind _) = _; rw [hq]; rfl) ((HS5.out).aw.trans ha)⟩)
    have HQ2 := Lib.hid hq; have HS3 := Lib.hid ((HS5.out).next hlt ha hpr); have HB3 := Lib.hid ((HB5.out).aw ha hpg hpg)
    have HX3 := Lib.hid ((HX5.out).aw ha (by have := HS1.out.lt; omega) (by have := HS1.out.lt; omega)); obtain ⟨dx, fx⟩ := HX3.out.facts
    clear hq ha hpr hd
    refine hK.out _ _ (HB3.out.cell 0) (fun hHeld => ?_)
    clear hK K
    try simp only [Act.put, List.setIfInBounds_toArray, List.set_cons_zero, List.set_cons_succ]
    refine plI [(4, false)] ?_
    repeat ((first | ((with_reducible show Plan ((_, true) :: _) _); refine plF ?_) | (refine plR (v := ?_) ?_ ?_; rotate_left; focus (intro W hSW; (try dsimp only at hSW); go_simp; all_goals (with_reducible rfl)))); try simp only [Act.put, List.setIfInBounds_toArray, List.set_cons_zero, List.set_cons_succ])
    refine plE ?_
    refine wpAnyH_ready (rs := [6]) (by kernel_rfl) (by simp) ?_
    refine AllReadyH.cons (o := ⟨_, _, _, _, _, _⟩) rfl (fun K hK => ?_) AllReadyH.nil
    go_simp
    have HB6 := Lib.hid (show Has (six w4 (w2.heap.size) (.int .i64 5) (.string nm) (.string ⟨#[]⟩) (.int .i64 nn) (.int .i64 0) (.slice none 0 0)) bp 112 #[.pointer (some ⟨g, 0, none⟩)] from (six_old _ _ _ _ _ _ _ _ (by have := HS1.out.lt; have := HS3.out.lt; omega)).trans HB3.out)
    have HX6 := Lib.hid (six_has HX3.out (.int .i64 5) (.string nm) (.string ⟨#[]⟩) (.int .i64 nn) (.int .i64 0) (.slice none 0 0)); have HS6 := Lib.hid (show StP w g E 27 zEx r2 (six w4 (w2.heap.size) (.int .i64 5) (.string nm) (.string ⟨#[]⟩) (.int .i64 nn) (.int .i64 0) (.slice none 0 0)) from ⟨six_aw (HS3.out).aw (.inr (.inr (by have := HS1.out.lt; have := HS3.out.lt; omega))) _ _ _ _ _ _, six_par (HS3.out).par (by have := HS1.out.lt; have := HS3.out.lt; omega) _ _ _ _ _ _, (six_old _ _ _ _ _ _ _ _ (by have := HS1.out.lt; have := HS3.out.lt; omega)).trans (HS3.out).res⟩); have HLB := Lib.hid (show w.heap.size < w2.heap.size by have := HS1.out.lt; have := HS3.out.lt; omega)
    refine hK.out _ _ (HB6.out.cell 0) (fun hHeld => ?_)
    clear hK K
    try simp only [Act.put]
    refine wpAnyH_done (by kernel_rfl) ?_ _
    clear hHeld
    change Exit.then _ _ _ _ (six w4 (w2.heap.size) (.int .i64 5) (.string nm) (.string ⟨#[]⟩) (.int .i64 nn) (.int .i64 0) (.slice none 0 0))
    generalize six w4 (w2.heap.size) (.int .i64 5) (.string nm) (.string ⟨#[]⟩) (.int .i64 nn) (.int .i64 0) (.slice none 0 0) = W7 at *
    generalize w2.heap.size = B at *
    have hlb := HLB.out
    have hnb1 : ¬ B = w.heap.size := (by omega)
    have hnb2 : ¬ w.heap.size = B := (by omega)
    obtain ⟨db, fb⟩ := HB6.out.facts
    obtain ⟨d7, f7⟩ := HX6.out.facts
    obtain ⟨dr, fr⟩ := HS6.out.res.facts
    clear HS0 HB0 HS1 HB1 HS3 HB3 HX5 HS5 HB5
    cases hsk : skipB wPlus r2 with
    | false =>
      go_wp2_with (go_at_call 122; refine (skip_no g E wPlus r2 _ HS6.out.par hsk).mono ?_; rintro e w8 ⟨rfl, rfl⟩)
      have HSix := Lib.hid (six_has (HS6.out).res (.int .i64 5) (.string nm) (.string ⟨#[]⟩) (.int .i64 nn) (.int .i64 0) (.slice none 0 0))
      have HFn := Lib.hid (show Rd (ExR w.heap.size) w g E (limitP E l) (.returned (.agg #[.int .i64 5, .string nm, .string ⟨#[]⟩, .int .i64 nn, .int .i64 0, .slice none 0 0])) (six (w8) w.heap.size (.int .i64 5) (.string nm) (.string ⟨#[]⟩) (.int .i64 nn) (.int .i64 0) (.slice none 0 0)) from Rd.ok (x := .mk 5 nm ⟨#[]⟩ nn 0 []) (r := r2) (by unfold limitP; rw [HQ1.out]; show ((numP E 0 r).bind _) = _; rw [HQ2.out]; show (if skipB wPlus r2 then _ else _) = _; rw [if_neg (by rw [hsk]; exact Bool.false_ne_true)]; rfl) (six_aw (HS6.out).aw (.inr (.inr (Nat.le_refl _))) _ _ _ _ _ _) ⟨_, rfl, LayS.nil _ _⟩ (six_par (HS6.out).par hlt _ _ _ _ _ _))
      show bodyPost _ _ _ _ _ (six (w8) w.heap.size (.int .i64 5) (.string nm) (.string ⟨#[]⟩) (.int .i64 nn) (.int .i64 0) (.slice none 0 0))
      generalize six (w8) w.heap.size (.int .i64 5) (.string nm) (.string ⟨#[]⟩) (.int .i64 nn) (.int .i64 0) (.slice none 0 0) = W6 at *
      obtain ⟨d6, f6⟩ := HSix.out.facts
      refine bodyPost_ret (v := .agg #[.int .i64 5, .string nm, .string ⟨#[]⟩, .int .i64 nn, .int .i64 0, .slice none 0 0]) (by simp [results, Tryz.results149, go_sem, d6]) rfl ?_
      exact HFn.out
    | true =>
      go_wp2_with (first
        | (go_at_call 122; refine (skip_yes g E wPlus r2 _ HS6.out.par hsk).mono ?_; rintro e w8 ⟨rfl, ha, hpr⟩; have HS8 := Lib.hid (HS6.out.next hlt ha hpr); have HX8 := Lib.hid (HX6.out.aw ha (by omega) (by omega)); obtain ⟨dc, fc⟩ := (HB6.out.aw ha hpg hpg).facts; clear ha hpr)
        | (go_at_call 150; refine (number_any w0 hv g E 0 r2.tail _ ((HS8.out).aw.below hb0 hg hg) (HS8.out).par).mono ?_; rintro e w9 hd; rcases hd.cases with ⟨er, at', hq, rfl, ha⟩ | ⟨xx, r3, v, hq, rfl, rfl, ha, hpr⟩; (exact ⟨rfl, Rd.bad (by unfold limitP; rw [HQ1.out]; show ((numP E 0 r).bind _) = _; rw [HQ2.out]; show (if skipB wPlus r2 then _ else _) = _; rw [if_pos hsk]; show ((numP E 0 r2.tail).bind _) = _; rw [hq]; rfl) ((HS8.out).aw.trans ha)⟩); have HQ3 := Lib.hid hq; have HX9 := Lib.hid (HX8.out.aw ha (by omega) (by omega)); have HS9 := Lib.hid (HS8.out.next hlt ha hpr); obtain ⟨dx, fx⟩ := HX9.out.facts; obtain ⟨ds, fs⟩ := HS9.out.res.facts; clear hq ha hpr hd))
      have HST := Lib.hid (show StP w g E 27 zEx r3 (w9.setCell ⟨B, 4, none⟩ (.int .i64 xx)) from ⟨HS9.out.aw.set _ 4 (.inr (.inr (by omega))) _, HS9.out.par.on fun b hb => heap_setCell_other w9 ⟨B, 4, none⟩ b _ (by show b ≠ B; omega), HS9.out.res.far ⟨B, 4, none⟩ (by show w.heap.size ≠ B; omega) _⟩)
      have HSix := Lib.hid (six_has (HST.out).res (.int .i64 5) (.string nm) (.string ⟨#[]⟩) (.int .i64 nn) (.int .i64 xx) (.slice none 0 0))
      have HFn := Lib.hid (show Rd (ExR w.heap.size) w g E (limitP E l) (.returned (.agg #[.int .i64 5, .string nm, .string ⟨#[]⟩, .int .i64 nn, .int .i64 xx, .slice none 0 0])) (six (w9.setCell ⟨B, 4, none⟩ (.int .i64 xx)) w.heap.size (.int .i64 5) (.string nm) (.string ⟨#[]⟩) (.int .i64 nn) (.int .i64 xx) (.slice none 0 0)) from Rd.ok (x := .mk 5 nm ⟨#[]⟩ nn xx []) (r := r3) (by unfold limitP; rw [HQ1.out]; show ((numP E 0 r).bind _) = _; rw [HQ2.out]; show (if skipB wPlus r2 then _ else _) = _; rw [if_pos hsk]; show ((numP E 0 r2.tail).bind _) = _; rw [HQ3.out]; rfl) (six_aw (HST.out).aw (.inr (.inr (Nat.le_refl _))) _ _ _ _ _ _) ⟨_, rfl, LayS.nil _ _⟩ (six_par (HST.out).par hlt _ _ _ _ _ _))
      show bodyPost _ _ _ _ _ (six (w9.setCell ⟨B, 4, none⟩ (.int .i64 xx)) w.heap.size (.int .i64 5) (.string nm) (.string ⟨#[]⟩) (.int .i64 nn) (.int .i64 xx) (.slice none 0 0))
      generalize six (w9.setCell ⟨B, 4, none⟩ (.int .i64 xx)) w.heap.size (.int .i64 5) (.string nm) (.string ⟨#[]⟩) (.int .i64 nn) (.int .i64 xx) (.slice none 0 0) = W6 at *
      obtain ⟨d6, f6⟩ := HSix.out.facts
      refine bodyPost_ret (v := .agg #[.int .i64 5, .string nm, .string ⟨#[]⟩, .int .i64 nn, .int .i64 xx, .slice none 0 0]) (by simp [results, Tryz.results149, go_sem, d6]) rfl ?_
      exact HFn.out
  refine AllReadyH.cons (o := ⟨_, _, _, _, _, _⟩) rfl (fun K hK => ?_) AllReadyH.nil
  go_simp
  have HX5 := Lib.hid (Has.new (w.alloc (.cells zEx 27)) 27 zEx); have HS5 := Lib.hid ((HS0.out.drew).alloc (.cells zEx 27)); have HB5 := Lib.hid ((HB0.out).alloc (.cells zEx 27))
  rw [show (w.alloc (.cells zEx 27)).heap.size = w.heap.size + 1 from World.size_alloc _ _] at HX5
  refine hK.out _ _ (HB5.out.cell 0) (fun hHeld => ?_)
  clear hK K
  try simp only [Act.put, List.setIfInBounds_toArray, List.set_cons_zero, List.set_cons_succ]
  refine wpAnyH_ready (rs := [1]) (by kernel_rfl) (by simp) ?_
  refine AllReadyH.cons (o := ⟨_, _, _, _, _, _⟩) rfl (fun K hK => ?_) AllReadyH.nil
  go_simp
  go_at_call 98; refine (pname_any g E l _ (HS5.out).par).mono ?_; rintro e w2 hd; rcases hd.cases with ⟨er, at', hq, rfl, ha⟩ | ⟨nm, r, v, hq, rfl, rfl, ha, hpr⟩
  (exact ⟨rfl, Rd.bad (by unfold limitP; rw [hq]; rfl) ((HS5.out).aw.trans ha)⟩)
  have HQ1 := Lib.hid hq; have HS1 := Lib.hid ((HS5.out).next hlt ha hpr); have HB1 := Lib.hid ((HB5.out).aw ha hpg hpg)
  have HX1 := Lib.hid ((HX5.out).aw ha (by omega) (by omega))
  clear hq ha hpr hd
  refine hK.out _ _ (HB1.out.cell 0) (fun hHeld => ?_)
  clear hK K
  try simp only [Act.put, List.setIfInBounds_toArray, List.set_cons_zero, List.set_cons_succ]
  refine wpAnyH_ready (rs := [3]) (by kernel_rfl) (by simp) ?_
  refine AllReadyH.cons (o := ⟨_, _, _, _, _, _⟩) rfl (fun K hK => ?_) AllReadyH.nil
  go_simp
  go_at_call 150; refine (number_any w0 hv g E 0 r _ ((HS1.out).aw.below hb0 hg hg) (HS1.out).par).mono ?_; rintro e w4 hd; rcases hd.cases with ⟨er, at', hq, rfl, ha⟩ | ⟨nn, r2, v, hq, rfl, rfl, ha, hpr⟩
  (exact ⟨rfl, Rd.bad (by unfold limitP; rw [HQ1.out]; show ((numP E 0 r).bind _) = _; rw [hq]; rfl) ((HS1.out).aw.trans ha)⟩)
  have HQ2 := Lib.hid hq; have HS3 := Lib.hid ((HS1.out).next hlt ha hpr); have HB3 := Lib.hid ((HB1.out).aw ha hpg hpg)
  have HX3 := Lib.hid ((HX1.out).aw ha (by have := HS1.out.lt; omega) (by have := HS1.out.lt; omega)); obtain ⟨dx, fx⟩ := HX3.out.facts
  clear hq ha hpr hd
  refine hK.out _ _ (HB3.out.cell 0) (fun hHeld => ?_)
  clear hK K
  try simp only [Act.put, List.setIfInBounds_toArray, List.set_cons_zero, List.set_cons_succ]
  refine plI [(4, false)] ?_
  repeat ((first | ((with_reducible show Plan ((_, true) :: _) _); refine plF ?_) | (refine plR (v := ?_) ?_ ?_; rotate_left; focus (intro W hSW; (try dsimp only at hSW); go_simp; all_goals (with_reducible rfl)))); try simp only [Act.put, List.setIfInBounds_toArray, List.set_cons_zero, List.set_cons_succ])
  refine plE ?_
  refine wpAnyH_ready (rs := [6]) (by kernel_rfl) (by simp) ?_
  refine AllReadyH.cons (o := ⟨_, _, _, _, _, _⟩) rfl (fun K hK => ?_) AllReadyH.nil
  go_simp
  have HB6 := Lib.hid (show Has (six w4 (w.heap.size + 1) (.int .i64 5) (.string nm) (.string ⟨#[]⟩) (.int .i64 nn) (.int .i64 0) (.slice none 0 0)) bp 112 #[.pointer (some ⟨g, 0, none⟩)] from (six_old _ _ _ _ _ _ _ _ (by omega)).trans HB3.out)
  have HX6 := Lib.hid (six_has HX3.out (.int .i64 5) (.string nm) (.string ⟨#[]⟩) (.int .i64 nn) (.int .i64 0) (.slice none 0 0)); have HS6 := Lib.hid (show StP w g E 27 zEx r2 (six w4 (w.heap.size + 1) (.int .i64 5) (.string nm) (.string ⟨#[]⟩) (.int .i64 nn) (.int .i64 0) (.slice none 0 0)) from ⟨six_aw (HS3.out).aw (.inr (.inr (by omega))) _ _ _ _ _ _, six_par (HS3.out).par (by omega) _ _ _ _ _ _, (six_old _ _ _ _ _ _ _ _ (by omega)).trans (HS3.out).res⟩); have HLB := Lib.hid (show w.heap.size < w.heap.size + 1 by omega)
  refine hK.out _ _ (HB6.out.cell 0) (fun hHeld => ?_)
  clear hK K
  try simp only [Act.put]
  refine wpAnyH_done (by kernel_rfl) ?_ _
  clear hHeld
  change Exit.then _ _ _ _ (six w4 (w.heap.size + 1) (.int .i64 5) (.string nm) (.string ⟨#[]⟩) (.int .i64 nn) (.int .i64 0) (.slice none 0 0))
  generalize six w4 (w.heap.size + 1) (.int .i64 5) (.string nm) (.string ⟨#[]⟩) (.int .i64 nn) (.int .i64 0) (.slice none 0 0) = W7 at *
  generalize w.heap.size + 1 = B at *
  have hlb := HLB.out
  have hnb1 : ¬ B = w.heap.size := (by omega)
  have hnb2 : ¬ w.heap.size = B := (by omega)
  obtain ⟨db, fb⟩ := HB6.out.facts
  obtain ⟨d7, f7⟩ := HX6.out.facts
  obtain ⟨dr, fr⟩ := HS6.out.res.facts
  clear HS0 HB0 HS1 HB1 HS3 HB3 HX5 HS5 HB5
  cases hsk : skipB wPlus r2 with
  | false =>
    go_wp2_with (go_at_call 122; refine (skip_no g E wPlus r2 _ HS6.out.par hsk).mono ?_; rintro e w8 ⟨rfl, rfl⟩)
    have HSix := Lib.hid (six_has (HS6.out).res (.int .i64 5) (.string nm) (.string ⟨#[]⟩) (.int .i64 nn) (.int .i64 0) (.slice none 0 0))
    have HFn := Lib.hid (show Rd (ExR w.heap.size) w g E (limitP E l) (.returned (.agg #[.int .i64 5, .string nm, .string ⟨#[]⟩, .int .i64 nn, .int .i64 0, .slice none 0 0])) (six (w8) w.heap.size (.int .i64 5) (.string nm) (.string ⟨#[]⟩) (.int .i64 nn) (.int .i64 0) (.slice none 0 0)) from Rd.ok (x := .mk 5 nm ⟨#[]⟩ nn 0 []) (r := r2) (by unfold limitP; rw [HQ1.out]; show ((numP E 0 r).bind _) = _; rw [HQ2.out]; show (if skipB wPlus r2 then _ else _) = _; rw [if_neg (by rw [hsk]; exact Bool.false_ne_true)]; rfl) (six_aw (HS6.out).aw (.inr (.inr (Nat.le_refl _))) _ _ _ _ _ _) ⟨_, rfl, LayS.nil _ _⟩ (six_par (HS6.out).par hlt _ _ _ _ _ _))
    show bodyPost _ _ _ _ _ (six (w8) w.heap.size (.int .i64 5) (.string nm) (.string ⟨#[]⟩) (.int .i64 nn) (.int .i64 0) (.slice none 0 0))
    generalize six (w8) w.heap.size (.int .i64 5) (.string nm) (.string ⟨#[]⟩) (.int .i64 nn) (.int .i64 0) (.slice none 0 0) = W6 at *
    obtain ⟨d6, f6⟩ := HSix.out.facts
    refine bodyPost_ret (v := .agg #[.int .i64 5, .string nm, .string ⟨#[]⟩, .int .i64 nn, .int .i64 0, .slice none 0 0]) (by simp [results, Tryz.results149, go_sem, d6]) rfl ?_
    exact HFn.out
  | true =>
    go_wp2_with (first
      | (go_at_call 122; refine (skip_yes g E wPlus r2 _ HS6.out.par hsk).mono ?_; rintro e w8 ⟨rfl, ha, hpr⟩; have HS8 := Lib.hid (HS6.out.next hlt ha hpr); have HX8 := Lib.hid (HX6.out.aw ha (by omega) (by omega)); obtain ⟨dc, fc⟩ := (HB6.out.aw ha hpg hpg).facts; clear ha hpr)
      | (go_at_call 150; refine (number_any w0 hv g E 0 r2.tail _ ((HS8.out).aw.below hb0 hg hg) (HS8.out).par).mono ?_; rintro e w9 hd; rcases hd.cases with ⟨er, at', hq, rfl, ha⟩ | ⟨xx, r3, v, hq, rfl, rfl, ha, hpr⟩; (exact ⟨rfl, Rd.bad (by unfold limitP; rw [HQ1.out]; show ((numP E 0 r).bind _) = _; rw [HQ2.out]; show (if skipB wPlus r2 then _ else _) = _; rw [if_pos hsk]; show ((numP E 0 r2.tail).bind _) = _; rw [hq]; rfl) ((HS8.out).aw.trans ha)⟩); have HQ3 := Lib.hid hq; have HX9 := Lib.hid (HX8.out.aw ha (by omega) (by omega)); have HS9 := Lib.hid (HS8.out.next hlt ha hpr); obtain ⟨dx, fx⟩ := HX9.out.facts; obtain ⟨ds, fs⟩ := HS9.out.res.facts; clear hq ha hpr hd))
    have HST := Lib.hid (show StP w g E 27 zEx r3 (w9.setCell ⟨B, 4, none⟩ (.int .i64 xx)) from ⟨HS9.out.aw.set _ 4 (.inr (.inr (by omega))) _, HS9.out.par.on fun b hb => heap_setCell_other w9 ⟨B, 4, none⟩ b _ (by show b ≠ B; omega), HS9.out.res.far ⟨B, 4, none⟩ (by show w.heap.size ≠ B; omega) _⟩)
    have HSix := Lib.hid (six_has (HST.out).res (.int .i64 5) (.string nm) (.string ⟨#[]⟩) (.int .i64 nn) (.int .i64 xx) (.slice none 0 0))
    have HFn := Lib.hid (show Rd (ExR w.heap.size) w g E (limitP E l) (.returned (.agg #[.int .i64 5, .string nm, .string ⟨#[]⟩, .int .i64 nn, .int .i64 xx, .slice none 0 0])) (six (w9.setCell ⟨B, 4, none⟩ (.int .i64 xx)) w.heap.size (.int .i64 5) (.string nm) (.string ⟨#[]⟩) (.int .i64 nn) (.int .i64 xx) (.slice none 0 0)) from Rd.ok (x := .mk 5 nm ⟨#[]⟩ nn xx []) (r := r3) (by unfold limitP; rw [HQ1.out]; show ((numP E 0 r).bind _) = _; rw [HQ2.out]; show (if skipB wPlus r2 then _ else _) = _; rw [if_pos hsk]; show ((numP E 0 r2.tail).bind _) = _; rw [HQ3.out]; rfl) (six_aw (HST.out).aw (.inr (.inr (Nat.le_refl _))) _ _ _ _ _ _) ⟨_, rfl, LayS.nil _ _⟩ (six_par (HST.out).par hlt _ _ _ _ _ _))
    show bodyPost _ _ _ _ _ (six (w9.setCell ⟨B, 4, none⟩ (.int .i64 xx)) w.heap.size (.int .i64 5) (.string nm) (.string ⟨#[]⟩) (.int .i64 nn) (.int .i64 xx) (.slice none 0 0))
    generalize six (w9.setCell ⟨B, 4, none⟩ (.int .i64 xx)) w.heap.size (.int .i64 5) (.string nm) (.string ⟨#[]⟩) (.int .i64 nn) (.int .i64 xx) (.slice none 0 0) = W6 at *
    obtain ⟨d6, f6⟩ := HSix.out.facts
    refine bodyPost_ret (v := .agg #[.int .i64 5, .string nm, .string ⟨#[]⟩, .int .i64 nn, .int .i64 xx, .slice none 0 0]) (by simp [results, Tryz.results149, go_sem, d6]) rfl ?_
    exact HFn.out
end Go.Proofs.YtcpakaiblelmlaaGreatDoor
