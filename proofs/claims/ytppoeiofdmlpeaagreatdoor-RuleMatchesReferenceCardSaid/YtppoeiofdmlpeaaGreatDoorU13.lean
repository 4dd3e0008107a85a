/- The parser's and, cond. Condition: what reads one thing keeps its contract. The parser's inside: a condition in parentheses. Condition: what reads one thing keeps its contract. The closures of the parser's forms. Condition: what reads one thing keeps its contract. Further closures of the parser's forms. Condition: what reads one thing keeps its contract; the error variables of strconv hold something. Further closures of the parser's forms. Condition: what reads one thing keeps its contract; the error variables of strconv hold something. Further closures of the parser's forms. Condition: what reads one thing keeps its contract; the error variables of strconv hold something. Further closures of the parser's forms. Condition: what reads one thing keeps its contract; the error variables of strconv hold something. -/
import Derived.Test.YtppoeiofdmlpeaaGreatDoorU02
import Derived.Test.YtppoeiofdmlpeaaGreatDoorU12
namespace Go.Proofs.YtppoeiofdmlpeaaGreatDoor
open Go Go.RowKit
theorem moreP_len {word : ByteArray} {one : List Fnd → Got Ex} (hsh : ∀ l' c r, one l' = .ok c r → r.length ≤ l'.length) : ∀ (n : Nat) (l : List Fnd) (cs : List Ex) (r : List Fnd), moreP word one n l = .ok cs r → r.length ≤ l.length
  | 0, l, cs, r, h => by injection h with _ h; subst h; exact Nat.le_refl _
  | n + 1, l, cs, r, h => by
    cases hs : skipB word l with
    | false => rw [moreP_zero hs] at h; injection h with _ h; subst h; exact Nat.le_refl _
    | true =>
      have ht := tail_len hs
      rw [moreP_succ hs] at h
      cases h1 : one l.tail with
      | bad e a => rw [h1] at h; cases h
      | ok x r1 =>
        rw [h1] at h
        have h' : (moreP word one n r1).bind (fun cs r2 => .ok (x :: cs) r2) = .ok cs r := h
        cases h2 : moreP word one n r1 with
        | bad e a => rw [h2] at h'; cases h'
        | ok y r2 =>
          rw [h2] at h'
          have h3 : Got.ok (x :: y) r2 = .ok cs r := h'
          injection h3 with _ h3
          subst h3
          have := hsh _ _ _ h1
          have := moreP_len hsh n r1 y _ h2
          omega
theorem serP_len {word : ByteArray} {op : Int} {one : List Fnd → Got Ex} (hsh : ∀ l' c r, one l' = .ok c r → r.length ≤ l'.length) (l : List Fnd) (c : Ex) (r : List Fnd) (h : serP word op one l = .ok c r) : r.length ≤ l.length := by
  unfold serP at h
  cases h1 : one l with
  | bad e a => rw [h1] at h; cases h
  | ok x r1 =>
    rw [h1] at h
    have h' : (moreP word one r1.length r1).bind (fun cs r2 => .ok (oneOf op x cs) r2) = .ok c r := h
    cases h2 : moreP word one r1.length r1 with
    | bad e a => rw [h2] at h'; cases h'
    | ok y r2 =>
      rw [h2] at h'
      have h3 : Got.ok (oneOf op x y) r2 = .ok c r := h'
      injection h3 with _ h3
      subst h3
      have := hsh _ _ _ h1
      have := moreP_len hsh _ r1 y _ h2
      omega
set_option maxRecDepth 100000 in
set_option maxHeartbeats 8000000 in
theorem and_any (w0 : World) (g : Nat) (E : Int) (one : List Fnd → Got Ex) (l : List Fnd) (w : World) (hb0 : Below w0.heap.size w0 w) (hg : w0.heap.size ≤ g) (h : Par w g E l) (hm : l.length + 1 ≤ 1000000)
    (hone : ∀ (l' : List Fnd) (W : World), l'.length ≤ l.length → Below w0.heap.size w0 W → Par W g E l' → Calls Tryz.prog 89 #[.pointer (some ⟨g, 0, none⟩)] W (Rd (ExR W.heap.size) W g E (one l')))
    (hsh : ∀ l' c r, one l' = .ok c r → r.length ≤ l'.length) :
    Calls Tryz.prog 74 #[.pointer (some ⟨g, 0, none⟩)] w (Rd (ExR w.heap.size) w g E (andP one l)) := by
  have hlt := h.lt
  have hA1 : Aw g g w (w.alloc (.cells #[.int .i64 0, .string ⟨#[]⟩, .string ⟨#[]⟩, .int .i64 0, .int .i64 0, .slice none 0 0] 24)) := (Aw.refl _ _ _).alloc _
  have hR1 := Has.new w 24 #[.int .i64 0, .string ⟨#[]⟩, .string ⟨#[]⟩, .int .i64 0, .int .i64 0, .slice none 0 0]
  have hP1 := h.below ((Below.refl w.heap.size w).alloc (Nat.le_refl _) (.cells #[.int .i64 0, .string ⟨#[]⟩, .string ⟨#[]⟩, .int .i64 0, .int .i64 0, .slice none 0 0] 24))
  have hzz : (w.alloc (.cells #[.int .i64 0, .string ⟨#[]⟩, .string ⟨#[]⟩, .int .i64 0, .int .i64 0, .slice none 0 0] 24)).heap.size = w.heap.size + 1 := World.size_alloc _ _
  have HW := Lib.hid (⟨hA1, hR1, hP1, hzz⟩ : Aw g g w (w.alloc (.cells #[.int .i64 0, .string ⟨#[]⟩, .string ⟨#[]⟩, .int .i64 0, .int .i64 0, .slice none 0 0] 24)) ∧ Has (w.alloc (.cells #[.int .i64 0, .string ⟨#[]⟩, .string ⟨#[]⟩, .int .i64 0, .int .i64 0, .slice none 0 0] 24)) w.heap.size 24 #[.int .i64 0, .string ⟨#[]⟩, .string ⟨#[]⟩, .int .i64 0, .int .i64 0, .slice none 0 0] ∧ Par (w.alloc (.cells #[.int .i64 0, .string ⟨#[]⟩, .string ⟨#[]⟩, .int .i64 0, .int .i64 0, .slice none 0 0] 24)) g E l ∧ (w.alloc (.cells #[.int .i64 0, .string ⟨#[]⟩, .string ⟨#[]⟩, .int .i64 0, .int .i64 0, .slice none 0 0] 24)).heap.size = w.heap.size + 1)
  clear hA1 hR1 hP1 hzz
  have hF := enters_of Tryz.func89 (by kernel_rfl) rfl
  go_enter Tryz.func74, Tryz.ntmps74
  go_wp2_with (first
    | (go_at_call 75; refine (of_any 3 _).mono ?_; rintro e w2 ⟨rfl, hb2, hx2⟩; rw [HW.out.2.2.2] at hx2; have HB := Lib.hid (⟨hb2, hx2⟩ : _ ∧ _); clear hb2 hx2)
    | (go_at_call 73; refine (series_any w0 g 89 _ 1000000 E 3 wAnd one l w2 hF ((HW.out.1.trans (.of_below HB.out.1)).below hb0 hg hg) hg (HW.out.2.2.1.below HB.out.1) HB.out.2 (by omega) hm (Nat.le_refl _) (fun l' W h1 h2 h3 => hone l' W h1 h2 h3) hsh).mono ?_; rintro e w3 hd; rcases hd.cases with ⟨er, at', hq, rfl, ha⟩ | ⟨x, r, v, hq, rfl, ⟨kv, rfl, hv⟩, ha, hp⟩; (exact ⟨rfl, Rd.bad hq ((HW.out.1.trans (.of_below HB.out.1)).trans ha)⟩); obtain ⟨A', c', rfl, _⟩ := hv.slice; have HR := Lib.hid ((HW.out.2.1.below HB.out.1 HW.out.2.1.lt).aw ha (by omega) (by omega)); have HFn := Lib.hid (show Rd (ExR w.heap.size) w g E (andP one l) (.returned (.agg #[.int .i64 x.op, .string x.name, .string x.value, .int .i64 x.n, .int .i64 x.extra, .slice A' x.kids.length c'])) (six w3 w.heap.size (.int .i64 x.op) (.string x.name) (.string x.value) (.int .i64 x.n) (.int .i64 x.extra) (.slice A' x.kids.length c')) from Rd.ok hq (six_aw ((HW.out.1.trans (.of_below HB.out.1)).trans ha) (.inr (.inr (Nat.le_refl _))) _ _ _ _ _ _) ⟨_, rfl, six_lay hv (fun b hb => ⟨by have h1 := HB.out.1.size; have h2 := HW.out.2.2.2; omega, by have h1 := HB.out.1.size; have h2 := HW.out.2.2.2; omega⟩) _ _ _ _ _ _⟩ (six_par hp hlt _ _ _ _ _ _)); obtain ⟨d3, f3⟩ := HR.out.facts; clear hq hv ha hp hd))
  have HSix := Lib.hid (six_has HR.out (.int .i64 x.op) (.string x.name) (.string x.value) (.int .i64 x.n) (.int .i64 x.extra) (.slice A' x.kids.length c'))
  show bodyPost _ _ _ _ _ (six w3 w.heap.size (.int .i64 x.op) (.string x.name) (.string x.value) (.int .i64 x.n) (.int .i64 x.extra) (.slice A' x.kids.length c'))
  generalize six w3 w.heap.size (.int .i64 x.op) (.string x.name) (.string x.value) (.int .i64 x.n) (.int .i64 x.extra) (.slice A' x.kids.length c') = W6 at *
  obtain ⟨d6, f6⟩ := HSix.out.facts
  refine bodyPost_ret (v := .agg #[.int .i64 x.op, .string x.name, .string x.value, .int .i64 x.n, .int .i64 x.extra, .slice A' x.kids.length c']) (by simp [results, Tryz.results74, go_sem, d6]) rfl ?_
  exact HFn.out
set_option maxRecDepth 100000 in
set_option maxHeartbeats 8000000 in
theorem cond_any (w0 : World) (g : Nat) (E : Int) (one : List Fnd → Got Ex) (l : List Fnd) (w : World) (hb0 : Below w0.heap.size w0 w) (hg : w0.heap.size ≤ g) (h : Par w g E l) (hm : l.length + 1 ≤ 1000000)
    (hone : ∀ (l' : List Fnd) (W : World), l'.length ≤ l.length → Below w0.heap.size w0 W → Par W g E l' → Calls Tryz.prog 89 #[.pointer (some ⟨g, 0, none⟩)] W (Rd (ExR W.heap.size) W g E (one l')))
    (hsh : ∀ l' c r, one l' = .ok c r → r.length ≤ l'.length) :
    Calls Tryz.prog 45 #[.pointer (some ⟨g, 0, none⟩)] w (Rd (ExR w.heap.size) w g E (condP one l)) := by
  have hlt := h.lt
  have hA1 : Aw g g w (w.alloc (.cells #[.int .i64 0, .string ⟨#[]⟩, .string ⟨#[]⟩, .int .i64 0, .int .i64 0, .slice none 0 0] 24)) := (Aw.refl _ _ _).alloc _
  have hR1 := Has.new w 24 #[.int .i64 0, .string ⟨#[]⟩, .string ⟨#[]⟩, .int .i64 0, .int .i64 0, .slice none 0 0]
  have hP1 := h.below ((Below.refl w.heap.size w).alloc (Nat.le_refl _) (.cells #[.int .i64 0, .string ⟨#[]⟩, .string ⟨#[]⟩, .int .i64 0, .int .i64 0, .slice none 0 0] 24))
  have hzz : (w.alloc (.cells #[.int .i64 0, .string ⟨#[]⟩, .string ⟨#[]⟩, .int .i64 0, .int .i64 0, .slice none 0 0] 24)).heap.size = w.heap.size + 1 := World.size_alloc _ _
  have HW := Lib.hid (⟨hA1, hR1, hP1, hzz⟩ : Aw g g w (w.alloc (.cells #[.int .i64 0, .string ⟨#[]⟩, .string ⟨#[]⟩, .int .i64 0, .int .i64 0, .slice none 0 0] 24)) ∧ Has (w.alloc (.cells #[.int .i64 0, .string ⟨#[]⟩, .string ⟨#[]⟩, .int .i64 0, .int .i64 0, .slice none 0 0] 24)) w.heap.size 24 #[.int .i64 0, .string ⟨#[]⟩, .string ⟨#[]⟩, .int .i64 0, .int .i64 0, .slice none 0 0] ∧ Par (w.alloc (.cells #[.int .i64 0, .string ⟨#[]⟩, .string ⟨#[]⟩, .int .i64 0, .int .i64 0, .slice none 0 0] 24)) g E l ∧ (w.alloc (.cells #[.int .i64 0, .string ⟨#[]⟩, .string ⟨#[]⟩, .int .i64 0, .int .i64 0, .slice none 0 0] 24)).heap.size = w.heap.size + 1)
  clear hA1 hR1 hP1 hzz
  have hF := enters_of Tryz.func74 (by kernel_rfl) rfl
  go_enter Tryz.func45, Tryz.ntmps45
  go_wp2_with (first
    | (go_at_call 75; refine (of_any 4 _).mono ?_; rintro e w2 ⟨rfl, hb2, hx2⟩; rw [HW.out.2.2.2] at hx2; have HB := Lib.hid (⟨hb2, hx2⟩ : _ ∧ _); clear hb2 hx2)
    | (go_at_call 73; refine (series_any w0 g 74 _ 1000000 E 4 wOr (andP one) l w2 hF ((HW.out.1.trans (.of_below HB.out.1)).below hb0 hg hg) hg (HW.out.2.2.1.below HB.out.1) HB.out.2 (by omega) hm (Nat.le_refl _) (fun l' W h1 h2 h3 => and_any w0 g E one l' W h2 hg h3 (by omega) (fun l2 W2 h4 h5 h6 => hone l2 W2 (by omega) h5 h6) hsh) (fun l' c r hq => serP_len hsh l' c r hq)).mono ?_; rintro e w3 hd; rcases hd.cases with ⟨er, at', hq, rfl, ha⟩ | ⟨x, r, v, hq, rfl, ⟨kv, rfl, hv⟩, ha, hp⟩; (exact ⟨rfl, Rd.bad hq ((HW.out.1.trans (.of_below HB.out.1)).trans ha)⟩); obtain ⟨A', c', rfl, _⟩ := hv.slice; have HR := Lib.hid ((HW.out.2.1.below HB.out.1 HW.out.2.1.lt).aw ha (by omega) (by omega)); have HFn := Lib.hid (show Rd (ExR w.heap.size) w g E (condP one l) (.returned (.agg #[.int .i64 x.op, .string x.name, .string x.value, .int .i64 x.n, .int .i64 x.extra, .slice A' x.kids.length c'])) (six w3 w.heap.size (.int .i64 x.op) (.string x.name) (.string x.value) (.int .i64 x.n) (.int .i64 x.extra) (.slice A' x.kids.length c')) from Rd.ok hq (six_aw ((HW.out.1.trans (.of_below HB.out.1)).trans ha) (.inr (.inr (Nat.le_refl _))) _ _ _ _ _ _) ⟨_, rfl, six_lay hv (fun b hb => ⟨by have h1 := HB.out.1.size; have h2 := HW.out.2.2.2; omega, by have h1 := HB.out.1.size; have h2 := HW.out.2.2.2; omega⟩) _ _ _ _ _ _⟩ (six_par hp hlt _ _ _ _ _ _)); obtain ⟨d3, f3⟩ := HR.out.facts; clear hq hv ha hp hd))
  have HSix := Lib.hid (six_has HR.out (.int .i64 x.op) (.string x.name) (.string x.value) (.int .i64 x.n) (.int .i64 x.extra) (.slice A' x.kids.length c'))
  show bodyPost _ _ _ _ _ (six w3 w.heap.size (.int .i64 x.op) (.string x.name) (.string x.value) (.int .i64 x.n) (.int .i64 x.extra) (.slice A' x.kids.length c'))
  generalize six w3 w.heap.size (.int .i64 x.op) (.string x.name) (.string x.value) (.int .i64 x.n) (.int .i64 x.extra) (.slice A' x.kids.length c') = W6 at *
  obtain ⟨d6, f6⟩ := HSix.out.facts
  refine bodyPost_ret (v := .agg #[.int .i64 x.op, .string x.name, .string x.value, .int .i64 x.n, .int .i64 x.extra, .slice A' x.kids.length c']) (by simp [results, Tryz.results45, go_sem, d6]) rfl ?_
  exact HFn.out
end Go.Proofs.YtppoeiofdmlpeaaGreatDoor
namespace Go.Proofs.YtppoeiofdmlpeaaGreatDoor
open Go Go.RowKit
/-- What is known between the steps of a method: nothing but the object turned, and the result's block is as it was. -/
structure StP (w : World) (g : Nat) (E : Int) (T : Nat) (cs : Array Value) (l : List Fnd) (W : World) : Prop where
  aw : Aw g g w W
  par : Par W g E l
  res : Has W w.heap.size T cs
theorem StP.start {w : World} {g T : Nat} {E : Int} {cs : Array Value} {l : List Fnd} (h : Par w g E l) : StP w g E T cs l (w.alloc (.cells cs T)) :=
  ⟨(Aw.refl _ _ _).alloc _, h.below ((Below.refl _ _).alloc (Nat.le_refl _) _), Has.new _ _ _⟩
theorem StP.lt {w W : World} {g T : Nat} {E : Int} {cs : Array Value} {l : List Fnd} (h : StP w g E T cs l W) : w.heap.size + 1 ≤ W.heap.size := h.res.lt
theorem StP.alloc {w W : World} {g T : Nat} {E : Int} {cs : Array Value} {l : List Fnd} (h : StP w g E T cs l W) (o : Obj) : StP w g E T cs l (W.alloc o) :=
  ⟨h.aw.alloc o, h.par.below ((Below.refl _ _).alloc (Nat.le_refl _) _), h.res.alloc o⟩
theorem StP.next {w W W' : World} {g T : Nat} {E : Int} {cs : Array Value} {l l' : List Fnd} (h : StP w g E T cs l W) (hg : g < w.heap.size) (ha : Aw g g W W') (hp : Par W' g E l') : StP w g E T cs l' W' :=
  ⟨h.aw.trans ha, hp, h.res.aw ha (by omega) (by omega)⟩
theorem StP.drew {w W : World} {g T : Nat} {E : Int} {cs : Array Value} {l : List Fnd} (h : StP w g E T cs l W) : StP w g E T cs l W.drew := ⟨h.aw, h.par, h.res⟩
theorem alloc_cell (W : World) (s : ByteArray) (T n : Nat) (hn : n = W.heap.size) : (W.alloc (.cells #[.string s] T)).cell? ⟨n, 0, none⟩ = some (.string s) := by
  subst hn; exact (Has.new W T #[.string s]).cell 0
abbrev zEx : Array Value := #[.int .i64 0, .string ⟨#[]⟩, .string ⟨#[]⟩, .int .i64 0, .int .i64 0, .slice none 0 0]
theorem wantP_len {E : Int} {s : ByteArray} {l r : List Fnd} {u : Unit} (h : wantP E s l = .ok u r) : r.length + 1 = l.length ∧ r = l.tail := by
  cases hs : skipB s l with
  | true =>
    rw [wantP_yes hs] at h
    injection h with _ h
    subst h
    exact ⟨tail_len hs, rfl⟩
  | false => rw [wantP_no hs] at h; cases h
set_option maxRecDepth 100000 in
set_option maxHeartbeats 8000000 in
theorem inside_any (w0 : World) (g : Nat) (E : Int) (one : List Fnd → Got Ex) (l : List Fnd) (w : World) (hb0 : Below w0.heap.size w0 w) (hg : w0.heap.size ≤ g) (h : Par w g E l) (hm : l.length + 1 ≤ 1000000)
    (hone : ∀ (l' : List Fnd) (W : World), l'.length < l.length → Below w0.heap.size w0 W → Par W g E l' → Calls Tryz.prog 89 #[.pointer (some ⟨g, 0, none⟩)] W (Rd (ExR W.heap.size) W g E (one l')))
    (hsh : ∀ l' c r, one l' = .ok c r → r.length ≤ l'.length) :
    Calls Tryz.prog 101 #[.pointer (some ⟨g, 0, none⟩)] w (Rd (ExR w.heap.size) w g E (inP E one l)) := by
  have hlt := h.lt
  have HS0 := Lib.hid (StP.start (T := 24) (cs := zEx) h)
  have HS1 := Lib.hid (HS0.out.alloc (.cells #[.string ⟨#[40]⟩] 9))
  have HC1 := Lib.hid (alloc_cell (w.alloc (.cells zEx 24)) wOpen 9 (w.heap.size + 1) (World.size_alloc _ _).symm)
  go_enter Tryz.func101, Tryz.ntmps101
  go_wp2_with (first
    | (go_at_call 43; refine (want_any g E wOpen l _ _ _ HS1.out.par HC1.out).mono ?_; rintro e w2 (⟨hq, rfl, rfl⟩ | ⟨hq, rfl, ha, hp⟩); (exact ⟨rfl, Rd.bad (by unfold inP; rw [hq]; rfl) HS1.out.aw⟩); have HQ1 := Lib.hid hq; have HS2 := Lib.hid (HS1.out.next hlt ha hp); clear hq ha hp HS1 HC1)
    | (go_at_call 45; refine (cond_any w0 g E one l.tail w2 (HS2.out.aw.below hb0 hg hg) hg HS2.out.par (by simp; omega) (fun l' W h1 h2 h3 => hone l' W (by have := (wantP_len HQ1.out).1; omega) h2 h3) hsh).mono ?_; rintro e w3 hd; rcases hd.cases with ⟨er, at', hq, rfl, ha⟩ | ⟨x, r, v, hq, rfl, ⟨kv, rfl, hv⟩, ha, hp⟩; (exact ⟨rfl, Rd.bad (by unfold inP; rw [HQ1.out]; show ((condP one l.tail).bind _) = _; rw [hq]; rfl) (HS2.out.aw.trans ha)⟩); obtain ⟨A', c', rfl, _⟩ := hv.slice; have HQ2 := Lib.hid hq; have HV := Lib.hid (hv.mono (T := fun b => w.heap.size + 1 ≤ b) fun b hb _ => Nat.le_trans HS2.out.lt hb); have HS3 := Lib.hid (HS2.out.next hlt ha hp); have HX3 := Lib.hid ((Has.new w3 24 #[.int .i64 x.op, .string x.name, .string x.value, .int .i64 x.n, .int .i64 x.extra, .slice A' x.kids.length c']).alloc (.cells #[.string ⟨#[41]⟩] 9)); have HS4 := Lib.hid ((HS3.out.alloc (.cells #[.int .i64 x.op, .string x.name, .string x.value, .int .i64 x.n, .int .i64 x.extra, .slice A' x.kids.length c'] 24)).alloc (.cells #[.string ⟨#[41]⟩] 9)); have HC4 := Lib.hid (alloc_cell (w3.alloc (.cells #[.int .i64 x.op, .string x.name, .string x.value, .int .i64 x.n, .int .i64 x.extra, .slice A' x.kids.length c'] 24)) wShut 9 (w3.heap.size + 1) (World.size_alloc _ _).symm); clear hq hv ha hp hd)
    | (go_at_call 43; refine (want_any g E wShut r _ _ _ HS4.out.par HC4.out).mono ?_; rintro e w5 (⟨hq, rfl, rfl⟩ | ⟨hq, rfl, ha, hp⟩); (exact ⟨rfl, Rd.bad (by unfold inP; rw [HQ1.out]; show ((condP one l.tail).bind _) = _; rw [HQ2.out]; show ((wantP E wShut r).bind _) = _; rw [hq]; rfl) HS4.out.aw⟩); have HQ3 := Lib.hid hq; have HX5 := Lib.hid (HX3.out.aw ha (by have := HS3.out.lt; omega) (by have := HS3.out.lt; omega)); obtain ⟨dx, fx⟩ := HX5.out.facts; have HV5 := Lib.hid (((HV.out.later ((Below.refl _ _).alloc (Nat.le_refl _) _)).later ((Below.refl _ _).alloc (Nat.le_refl _) _)).on (T := fun b => w.heap.size + 1 ≤ b) (fun b hb hl => ha.2.2.2.2 b hl (by omega) (by omega)) fun b hb _ => hb); have HS5 := Lib.hid (HS4.out.next hlt ha hp); obtain ⟨dr, fr⟩ := HS5.out.res.facts; clear hq ha hp))
  have HSix := Lib.hid (six_has HS5.out.res (.int .i64 x.op) (.string x.name) (.string x.value) (.int .i64 x.n) (.int .i64 x.extra) (.slice A' x.kids.length c'))
  have HFn := Lib.hid (show Rd (ExR w.heap.size) w g E (inP E one l) (.returned (.agg #[.int .i64 x.op, .string x.name, .string x.value, .int .i64 x.n, .int .i64 x.extra, .slice A' x.kids.length c'])) (six w5 w.heap.size (.int .i64 x.op) (.string x.name) (.string x.value) (.int .i64 x.n) (.int .i64 x.extra) (.slice A' x.kids.length c')) from Rd.ok (r := r.tail) (by unfold inP; rw [HQ1.out]; show ((condP one l.tail).bind _) = _; rw [HQ2.out]; show ((wantP E wShut r).bind _) = _; rw [HQ3.out]; rfl) (six_aw HS5.out.aw (.inr (.inr (Nat.le_refl _))) _ _ _ _ _ _) ⟨_, rfl, six_lay HV5.out (fun b hb => ⟨by omega, by omega⟩) _ _ _ _ _ _⟩ (six_par HS5.out.par hlt _ _ _ _ _ _))
  show bodyPost _ _ _ _ _ (six w5 w.heap.size (.int .i64 x.op) (.string x.name) (.string x.value) (.int .i64 x.n) (.int .i64 x.extra) (.slice A' x.kids.length c'))
  generalize six w5 w.heap.size (.int .i64 x.op) (.string x.name) (.string x.value) (.int .i64 x.n) (.int .i64 x.extra) (.slice A' x.kids.length c') = W6 at *
  obtain ⟨d6, f6⟩ := HSix.out.facts
  refine bodyPost_ret (v := .agg #[.int .i64 x.op, .string x.name, .string x.value, .int .i64 x.n, .int .i64 x.extra, .slice A' x.kids.length c']) (by simp [results, Tryz.results101, go_sem, d6]) rfl ?_
  exact HFn.out
end Go.Proofs.YtppoeiofdmlpeaaGreatDoor
namespace Go.Proofs.YtppoeiofdmlpeaaGreatDoor
open Go Go.RowKit
theorem nextP_len {E kind : Int} {chk : ByteArray → Bool} {l r : List Fnd} {s : ByteArray} (h : nextP E kind chk l = .ok s r) : r.length + 1 = l.length := by
  cases l with
  | nil => cases h
  | cons t l =>
    have h' : (if t.kind = kind then (if chk t.text then .ok t.text l else .bad 13 t.pos) else .bad 8 t.pos : Got ByteArray) = .ok s r := h
    split at h'
    · split at h'
      · injection h' with _ h'; subst h'; rfl
      · cases h'
    · cases h'
theorem numP_len {E low n : Int} {l r : List Fnd} (h : numP E low l = .ok n r) : r.length + 1 = l.length := by
  unfold numP at h
  cases h1 : nextP E 2 (numB low) l with
  | bad e a => rw [h1] at h; cases h
  | ok s r1 =>
    rw [h1] at h
    have h2 : Got.ok (atoiV s.data.toList) r1 = .ok n r := h
    injection h2 with _ h2
    subst h2
    exact nextP_len h1
/-- A slice of one condition. -/
theorem lay_one {S : Nat → Prop} {W : World} {b : Nat} {c : Ex} {kv : Value} (h : Has W b 24 #[.int .i64 c.op, .string c.name, .string c.value, .int .i64 c.n, .int .i64 c.extra, kv]) (hS : S b) (hk : LayS S W kv c.kids) : LayS S W (.slice (some ⟨b, 0, none⟩) 1 1) [c] := by
  refine .mk (some ⟨b, 0, none⟩) 1 [c] (fun _ => kv) (Nat.le_refl _) (.inr ⟨b, 0, rfl, hS, fun i hi j hj => ?_⟩) fun i hi => ?_
  · have : i = 0 := by simpa using hi
    subst this
    rw [show 0 + (0 * 6 + j) = j by omega, h.cell j]
    rcases j with _ | _ | _ | _ | _ | _ | j
    all_goals first | rfl | omega
  · have : i = 0 := by simpa using hi
    subst this
    exact hk
set_option maxRecDepth 100000 in
set_option maxHeartbeats 8000000 in
theorem within_any (bo : Nat) (op : Int) (one : List Fnd → Got Ex) (w0 : World) (g bp : Nat) (E : Int) (l : List Fnd) (w : World) (hb0 : Below w0.heap.size w0 w) (hg : w0.heap.size ≤ g) (h : Par w g E l) (hm : l.length + 1 ≤ 1000000) (hp : Has w bp 49 #[.pointer (some ⟨g, 0, none⟩)]) (hpg : bp ≠ g) (ho : Has w bo 3 #[.int .i64 op]) (hog : bo ≠ g)
    (hone : ∀ (l' : List Fnd) (W : World), l'.length < l.length + 1 → Below w0.heap.size w0 W → Par W g E l' → Calls Tryz.prog 89 #[.pointer (some ⟨g, 0, none⟩)] W (Rd (ExR W.heap.size) W g E (one l')))
    (hsh : ∀ l' c r, one l' = .ok c r → r.length ≤ l'.length) :
    Calls Tryz.prog 110 #[.pointer (some ⟨bo, 0, none⟩), .pointer (some ⟨bp, 0, none⟩)] w (Rd (ExR w.heap.size) w g E (withinP E op one l)) := by
  have hlt := h.lt
  have hol := ho.lt
  have hpl := hp.lt
  have HS0 := Lib.hid (StP.start (T := 24) (cs := zEx) h)
  have HB0 := Lib.hid (⟨ho.alloc (.cells zEx 24), hp.alloc (.cells zEx 24)⟩ : _ ∧ _)
  have hmx : Tryz.prog.follows .mixedOrders = true := by kernel_rfl
  go_enter Tryz.func110, Tryz.ntmps110
  go_wp2_with fail
  refine wp_region_held_drew (S := fun W => W.cell? ⟨bo, 0, none⟩ = some (.int .i64 op) ∧ W.cell? ⟨bp, 0, none⟩ = some (.pointer (some ⟨g, 0, none⟩))) (by kernel_rfl) (⟨HB0.out.1.cell 0, HB0.out.2.cell 0⟩) (fun hHeld => ?_)
  refine plI [(0, false), (1, false), (3, false)] ?_
  repeat ((first | ((with_reducible show Plan ((_, true) :: _) _); refine plF ?_) | (refine plR (v := ?_) ?_ ?_; rotate_left; focus (intro W hSW; (try dsimp only at hSW); go_simp; all_goals (with_reducible rfl)))); try simp only [Act.put, List.setIfInBounds_toArray, List.set_cons_zero, List.set_cons_succ])
  refine plE ?_
  refine wpAnyH_ready (rs := [2]) (by kernel_rfl) (by simp) ?_
  refine AllReadyH.cons (o := ⟨_, _, _, _, _, _⟩) rfl (fun K hK => ?_) AllReadyH.nil
  go_simp
  go_at_call 44; refine (pname_any g E l _ (HS0.out.drew).par).mono ?_; rintro e w2 hd; rcases hd.cases with ⟨er, at', hq, rfl, ha⟩ | ⟨nm, r, v, hq, rfl, rfl, ha, hpr⟩
  · exact ⟨rfl, Rd.bad (by unfold withinP; rw [hq]; rfl) ((HS0.out.drew).aw.trans ha)⟩
  have HQ1 := Lib.hid hq; have HS2 := Lib.hid ((HS0.out.drew).next hlt ha hpr); have HB2 := Lib.hid (⟨(HB0.out).1.aw ha hog hog, (HB0.out).2.aw ha hpg hpg⟩ : _ ∧ _); clear hq ha hpr hd
  refine hK.out _ _ (⟨HB2.out.1.cell 0, HB2.out.2.cell 0⟩) (fun hHeld => ?_)
  clear hK K
  try simp only [Act.put, List.setIfInBounds_toArray, List.set_cons_zero, List.set_cons_succ]
  refine wpAnyH_ready (rs := [4]) (by kernel_rfl) (by simp) ?_
  refine AllReadyH.cons (o := ⟨_, _, _, _, _, _⟩) rfl (fun K hK => ?_) AllReadyH.nil
  go_simp
  go_at_call 101; refine (inside_any w0 g E one r w2 (HS2.out.aw.below hb0 hg hg) hg HS2.out.par (by have := nextP_len HQ1.out; omega) (fun l' W h1 h2 h3 => hone l' W (by have := nextP_len HQ1.out; omega) h2 h3) hsh).mono ?_; rintro e w4 hd; rcases hd.cases with ⟨er, at', hq, rfl, ha⟩ | ⟨x, r2, v, hq, rfl, ⟨kv, rfl, hv⟩, ha, hpr⟩
  · exact ⟨rfl, Rd.bad (by unfold withinP; rw [HQ1.out]; show ((inP E one r).bind _) = _; rw [hq]; rfl) (HS2.out.aw.trans ha)⟩
  obtain ⟨A', c', rfl, _⟩ := hv.slice
  have HQ2 := Lib.hid hq; have HV := Lib.hid (hv.mono (T := fun b => w.heap.size + 1 ≤ b) fun b hb _ => Nat.le_trans HS2.out.lt hb); have HS4 := Lib.hid (HS2.out.next hlt ha hpr); have HB4 := Lib.hid (⟨HB2.out.1.aw ha hog hog, HB2.out.2.aw ha hpg hpg⟩ : _ ∧ _); clear hq hv ha hpr hd
  refine hK.out _ _ (⟨HB4.out.1.cell 0, HB4.out.2.cell 0⟩) (fun hHeld => ?_)
  clear hK K
  try simp only [Act.put, List.setIfInBounds_toArray, List.set_cons_zero, List.set_cons_succ]
  refine wpAnyH_ready (rs := [5]) (by kernel_rfl) (by simp) ?_
  refine AllReadyH.cons (o := ⟨_, _, _, _, _, _⟩) rfl (fun K hK => ?_) AllReadyH.nil
  go_simp
  have HX := Lib.hid (Has.new w4 24 #[.int .i64 x.op, .string x.name, .string x.value, .int .i64 x.n, .int .i64 x.extra, .slice A' x.kids.length c']); have HS5 := Lib.hid (HS4.out.alloc (.cells #[.int .i64 x.op, .string x.name, .string x.value, .int .i64 x.n, .int .i64 x.extra, .slice A' x.kids.length c'] 24)); have HB5 := Lib.hid (⟨HB4.out.1.alloc (.cells #[.int .i64 x.op, .string x.name, .string x.value, .int .i64 x.n, .int .i64 x.extra, .slice A' x.kids.length c'] 24), HB4.out.2.alloc (.cells #[.int .i64 x.op, .string x.name, .string x.value, .int .i64 x.n, .int .i64 x.extra, .slice A' x.kids.length c'] 24)⟩ : _ ∧ _); obtain ⟨dr, fr⟩ := HS5.out.res.facts
  refine hK.out _ _ (⟨HB5.out.1.cell 0, HB5.out.2.cell 0⟩) (fun hHeld => ?_)
  clear hK K
  try simp only [Act.put, List.setIfInBounds_toArray, List.set_cons_zero, List.set_cons_succ]
  refine plI [(6, false)] ?_
  repeat ((first | ((with_reducible show Plan ((_, true) :: _) _); refine plF ?_) | (refine plR (v := ?_) ?_ ?_; rotate_left; focus (intro W hSW; (try dsimp only at hSW); go_simp; all_goals (with_reducible rfl)))); try simp only [Act.put, List.setIfInBounds_toArray, List.set_cons_zero, List.set_cons_succ])
  refine plE ?_
  refine wpAnyH_ready (rs := [7]) (by kernel_rfl) (by simp) ?_
  refine AllReadyH.cons (o := ⟨_, _, _, _, _, _⟩) rfl (fun K hK => ?_) AllReadyH.nil
  go_simp
  have HB7 := Lib.hid (show Has (six (w4.alloc (.cells #[.int .i64 x.op, .string x.name, .string x.value, .int .i64 x.n, .int .i64 x.extra, .slice A' x.kids.length c'] 24)) w.heap.size (.int .i64 op) (.string nm) (.string ⟨#[]⟩) (.int .i64 0) (.int .i64 0) (.slice (some ⟨w4.heap.size, 0, none⟩) 1 1)) bo 3 #[.int .i64 op] ∧ Has (six (w4.alloc (.cells #[.int .i64 x.op, .string x.name, .string x.value, .int .i64 x.n, .int .i64 x.extra, .slice A' x.kids.length c'] 24)) w.heap.size (.int .i64 op) (.string nm) (.string ⟨#[]⟩) (.int .i64 0) (.int .i64 0) (.slice (some ⟨w4.heap.size, 0, none⟩) 1 1)) bp 49 #[.pointer (some ⟨g, 0, none⟩)] from ⟨(six_old _ _ _ _ _ _ _ _ (by omega)).trans HB5.out.1, (six_old _ _ _ _ _ _ _ _ (by omega)).trans HB5.out.2⟩)
  refine hK.out _ _ (⟨HB7.out.1.cell 0, HB7.out.2.cell 0⟩) (fun hHeld => ?_)
  clear hK K
  try simp only [Act.put]
  refine wpAnyH_done (by kernel_rfl) ?_ _
  clear hHeld
  go_wp2_with fail
  have HSix := Lib.hid (six_has (HS5.out).res (.int .i64 op) (.string nm) (.string ⟨#[]⟩) (.int .i64 0) (.int .i64 0) (.slice (some ⟨w4.heap.size, 0, none⟩) 1 1))
  have HFn := Lib.hid (show Rd (ExR w.heap.size) w g E (withinP E op one l) (.returned (.agg #[.int .i64 op, .string nm, .string ⟨#[]⟩, .int .i64 0, .int .i64 0, .slice (some ⟨w4.heap.size, 0, none⟩) 1 1])) (six (w4.alloc (.cells #[.int .i64 x.op, .string x.name, .string x.value, .int .i64 x.n, .int .i64 x.extra, .slice A' x.kids.length c'] 24)) w.heap.size (.int .i64 op) (.string nm) (.string ⟨#[]⟩) (.int .i64 0) (.int .i64 0) (.slice (some ⟨w4.heap.size, 0, none⟩) 1 1)) from Rd.ok (x := .mk op nm e0 0 0 [x]) (r := r2) (by unfold withinP; rw [HQ1.out]; show ((inP E one r).bind _) = _; rw [HQ2.out]; rfl) (six_aw (HS5.out).aw (.inr (.inr (Nat.le_refl _))) _ _ _ _ _ _) ⟨_, rfl, six_lay (S := fun b => w.heap.size + 1 ≤ b) (ks := [x]) (lay_one HX.out (by have := HS4.out.lt; exact this) (HV.out.later ((Below.refl _ _).alloc (Nat.le_refl _) _))) (fun b hb => ⟨by omega, by omega⟩) _ _ _ _ _ _⟩ (six_par (HS5.out).par hlt _ _ _ _ _ _))
  show bodyPost _ _ _ _ _ (six (w4.alloc (.cells #[.int .i64 x.op, .string x.name, .string x.value, .int .i64 x.n, .int .i64 x.extra, .slice A' x.kids.length c'] 24)) w.heap.size (.int .i64 op) (.string nm) (.string ⟨#[]⟩) (.int .i64 0) (.int .i64 0) (.slice (some ⟨w4.heap.size, 0, none⟩) 1 1))
  generalize six (w4.alloc (.cells #[.int .i64 x.op, .string x.name, .string x.value, .int .i64 x.n, .int .i64 x.extra, .slice A' x.kids.length c'] 24)) w.heap.size (.int .i64 op) (.string nm) (.string ⟨#[]⟩) (.int .i64 0) (.int .i64 0) (.slice (some ⟨w4.heap.size, 0, none⟩) 1 1) = W6 at *
  obtain ⟨d6, f6⟩ := HSix.out.facts
  refine bodyPost_ret (v := .agg #[.int .i64 op, .string nm, .string ⟨#[]⟩, .int .i64 0, .int .i64 0, .slice (some ⟨w4.heap.size, 0, none⟩) 1 1]) (by simp [results, Tryz.results110, go_sem, d6]) rfl ?_
  exact HFn.out
end Go.Proofs.YtppoeiofdmlpeaaGreatDoor
namespace Go.Proofs.YtppoeiofdmlpeaaGreatDoor
open Go Go.RowKit
set_option maxRecDepth 100000 in
set_option maxHeartbeats 8000000 in
theorem over_any (w0 : World) (g bp : Nat) (E : Int) (l : List Fnd) (w : World) (hb0 : Below w0.heap.size w0 w) (hg : w0.heap.size ≤ g) (h : Par w g E l) (_hm : l.length + 1 ≤ 1000000) (hp : Has w bp 49 #[.pointer (some ⟨g, 0, none⟩)]) (hpg : bp ≠ g) (hv : Evs w0) :
    Calls Tryz.prog 115 #[.pointer (some ⟨bp, 0, none⟩)] w (Rd (ExR w.heap.size) w g E (overP E l)) := by
  have hlt := h.lt
  have hpl := hp.lt
  have HS0 := Lib.hid (StP.start (T := 24) (cs := zEx) h)
  have HB0 := Lib.hid (hp.alloc (.cells zEx 24))
  have hmx : Tryz.prog.follows .mixedOrders = true := by kernel_rfl
  go_enter Tryz.func115, Tryz.ntmps115
  go_wp2_with fail
  refine wp_region_held_drew (S := fun W => W.cell? ⟨bp, 0, none⟩ = some (.pointer (some ⟨g, 0, none⟩))) (by kernel_rfl) (HB0.out.cell 0) (fun hHeld => ?_)
  refine plI [(0, false), (2, false)] ?_
  repeat ((first | ((with_reducible show Plan ((_, true) :: _) _); refine plF ?_) | (refine plR (v := ?_) ?_ ?_; rotate_left; focus (intro W hSW; (try dsimp only at hSW); go_simp; all_goals (with_reducible rfl)))); try simp only [Act.put, List.setIfInBounds_toArray, List.set_cons_zero, List.set_cons_succ])
  refine plE ?_
  refine wpAnyH_ready (rs := [1]) (by kernel_rfl) (by simp) ?_
  refine AllReadyH.cons (o := ⟨_, _, _, _, _, _⟩) rfl (fun K hK => ?_) AllReadyH.nil
  go_simp
  go_at_call 44; refine (pname_any g E l _ (HS0.out.drew).par).mono ?_; rintro e w2 hd; rcases hd.cases with ⟨er, at', hq, rfl, ha⟩ | ⟨nm, r, v, hq, rfl, rfl, ha, hpr⟩
  (exact ⟨rfl, Rd.bad (by unfold overP; rw [hq]; rfl) ((HS0.out.drew).aw.trans ha)⟩)
  have HQ1 := Lib.hid hq; have HS1 := Lib.hid ((HS0.out.drew).next hlt ha hpr); have HB1 := Lib.hid ((HB0.out).aw ha hpg hpg); clear hq ha hpr hd
  refine hK.out _ _ (HB1.out.cell 0) (fun hHeld => ?_)
  clear hK K
  try simp only [Act.put, List.setIfInBounds_toArray, List.set_cons_zero, List.set_cons_succ]
  refine wpAnyH_ready (rs := [3]) (by kernel_rfl) (by simp) ?_
  refine AllReadyH.cons (o := ⟨_, _, _, _, _, _⟩) rfl (fun K hK => ?_) AllReadyH.nil
  go_simp
  go_at_call 114; refine (number_any w0 hv g E 0 r _ ((HS1.out).aw.below hb0 hg hg) (HS1.out).par).mono ?_; rintro e w4 hd; rcases hd.cases with ⟨er, at', hq, rfl, ha⟩ | ⟨nn, r2, v, hq, rfl, rfl, ha, hpr⟩
  (exact ⟨rfl, Rd.bad (by unfold overP; rw [HQ1.out]; show ((numP E 0 r).bind _) = _; rw [hq]; rfl) ((HS1.out).aw.trans ha)⟩)
  have HQ2 := Lib.hid hq; have HS3 := Lib.hid ((HS1.out).next hlt ha hpr); have HB3 := Lib.hid ((HB1.out).aw ha hpg hpg); obtain ⟨dr, fr⟩ := HS3.out.res.facts; clear hq ha hpr hd
  refine hK.out _ _ (HB3.out.cell 0) (fun hHeld => ?_)
  clear hK K
  try simp only [Act.put, List.setIfInBounds_toArray, List.set_cons_zero, List.set_cons_succ]
  refine plI [(4, false)] ?_
  repeat ((first | ((with_reducible show Plan ((_, true) :: _) _); refine plF ?_) | (refine plR (v := ?_) ?_ ?_; rotate_left; focus (intro W hSW; (try dsimp only at hSW); go_simp; all_goals (with_reducible rfl)))); try simp only [Act.put, List.setIfInBounds_toArray, List.set_cons_zero, List.set_cons_succ])
  refine plE ?_
  refine wpAnyH_ready (rs := [5]) (by kernel_rfl) (by simp) ?_
  refine AllReadyH.cons (o := ⟨_, _, _, _, _, _⟩) rfl (fun K hK => ?_) AllReadyH.nil
  go_simp
  have HB5 := Lib.hid (show Has (six w4 w.heap.size (.int .i64 6) (.string nm) (.string ⟨#[]⟩) (.int .i64 nn) (.int .i64 0) (.slice none 0 0)) bp 49 #[.pointer (some ⟨g, 0, none⟩)] from (six_old _ _ _ _ _ _ _ _ (by omega)).trans HB3.out)
  refine hK.out _ _ (HB5.out.cell 0) (fun hHeld => ?_)
  clear hK K
  try simp only [Act.put]
  refine wpAnyH_done (by kernel_rfl) ?_ _
  clear hHeld
  go_wp2_with fail
  have HSix := Lib.hid (six_has (HS3.out).res (.int .i64 6) (.string nm) (.string ⟨#[]⟩) (.int .i64 nn) (.int .i64 0) (.slice none 0 0))
  have HFn := Lib.hid (show Rd (ExR w.heap.size) w g E (overP E l) (.returned (.agg #[.int .i64 6, .string nm, .string ⟨#[]⟩, .int .i64 nn, .int .i64 0, .slice none 0 0])) (six (w4) w.heap.size (.int .i64 6) (.string nm) (.string ⟨#[]⟩) (.int .i64 nn) (.int .i64 0) (.slice none 0 0)) from Rd.ok (x := .mk 6 nm ⟨#[]⟩ nn 0 []) (r := r2) (by unfold overP; rw [HQ1.out]; show ((numP E 0 r).bind _) = _; rw [HQ2.out]; rfl) (six_aw (HS3.out).aw (.inr (.inr (Nat.le_refl _))) _ _ _ _ _ _) ⟨_, rfl, LayS.nil _ _⟩ (six_par (HS3.out).par hlt _ _ _ _ _ _))
  show bodyPost _ _ _ _ _ (six (w4) w.heap.size (.int .i64 6) (.string nm) (.string ⟨#[]⟩) (.int .i64 nn) (.int .i64 0) (.slice none 0 0))
  generalize six (w4) w.heap.size (.int .i64 6) (.string nm) (.string ⟨#[]⟩) (.int .i64 nn) (.int .i64 0) (.slice none 0 0) = W6 at *
  obtain ⟨d6, f6⟩ := HSix.out.facts
  refine bodyPost_ret (v := .agg #[.int .i64 6, .string nm, .string ⟨#[]⟩, .int .i64 nn, .int .i64 0, .slice none 0 0]) (by simp [results, Tryz.results115, go_sem, d6]) rfl ?_
  exact HFn.out
set_option maxRecDepth 100000 in
set_option maxHeartbeats 8000000 in
theorem has_any (w0 : World) (g bp : Nat) (E : Int) (l : List Fnd) (w : World) (_hb0 : Below w0.heap.size w0 w) (_hg : w0.heap.size ≤ g) (h : Par w g E l) (_hm : l.length + 1 ≤ 1000000) (hp : Has w bp 49 #[.pointer (some ⟨g, 0, none⟩)]) (_hpg : bp ≠ g)  :
    Calls Tryz.prog 116 #[.pointer (some ⟨bp, 0, none⟩)] w (Rd (ExR w.heap.size) w g E (hasP E l)) := by
  have hlt := h.lt
  have hpl := hp.lt
  have HS0 := Lib.hid (StP.start (T := 24) (cs := zEx) h)
  have HB0 := Lib.hid (hp.alloc (.cells zEx 24))
  obtain ⟨db, fb⟩ := HB0.out.facts
  have hmx : Tryz.prog.follows .mixedOrders = true := by kernel_rfl
  go_enter Tryz.func116, Tryz.ntmps116
  go_wp2_with (go_at_call 44; refine (pname_any g E l _ (HS0.out).par).mono ?_; rintro e w2 hd; rcases hd.cases with ⟨er, at', hq, rfl, ha⟩ | ⟨nm, r, v, hq, rfl, rfl, ha, hpr⟩; (exact ⟨rfl, Rd.bad (by unfold hasP; rw [hq]; rfl) ((HS0.out).aw.trans ha)⟩); have HQ1 := Lib.hid hq; have HS1 := Lib.hid (HS0.out.next hlt ha hpr); obtain ⟨dr, fr⟩ := HS1.out.res.facts; clear hq ha hpr hd)
  have HSix := Lib.hid (six_has (HS1.out).res (.int .i64 8) (.string nm) (.string ⟨#[]⟩) (.int .i64 0) (.int .i64 0) (.slice none 0 0))
  have HFn := Lib.hid (show Rd (ExR w.heap.size) w g E (hasP E l) (.returned (.agg #[.int .i64 8, .string nm, .string ⟨#[]⟩, .int .i64 0, .int .i64 0, .slice none 0 0])) (six (w2) w.heap.size (.int .i64 8) (.string nm) (.string ⟨#[]⟩) (.int .i64 0) (.int .i64 0) (.slice none 0 0)) from Rd.ok (x := .mk 8 nm ⟨#[]⟩ 0 0 []) (r := r) (by unfold hasP; rw [HQ1.out]; rfl) (six_aw (HS1.out).aw (.inr (.inr (Nat.le_refl _))) _ _ _ _ _ _) ⟨_, rfl, LayS.nil _ _⟩ (six_par (HS1.out).par hlt _ _ _ _ _ _))
  show bodyPost _ _ _ _ _ (six (w2) w.heap.size (.int .i64 8) (.string nm) (.string ⟨#[]⟩) (.int .i64 0) (.int .i64 0) (.slice none 0 0))
  generalize six (w2) w.heap.size (.int .i64 8) (.string nm) (.string ⟨#[]⟩) (.int .i64 0) (.int .i64 0) (.slice none 0 0) = W6 at *
  obtain ⟨d6, f6⟩ := HSix.out.facts
  refine bodyPost_ret (v := .agg #[.int .i64 8, .string nm, .string ⟨#[]⟩, .int .i64 0, .int .i64 0, .slice none 0 0]) (by simp [results, Tryz.results116, go_sem, d6]) rfl ?_
  exact HFn.out
set_option maxRecDepth 100000 in
set_option maxHeartbeats 8000000 in
theorem true_any (g : Nat) (E : Int) (l : List Fnd) (w : World) (h : Par w g E l) :
    Calls Tryz.prog 111 #[] w (Rd (ExR w.heap.size) w g E (.ok (.mk 1 e0 e0 0 0 []) l)) := by
  have hlt := h.lt
  have HS0 := Lib.hid (StP.start (T := 24) (cs := zEx) h)
  have hb : Below w.heap.size w (w.alloc (.cells #[.int .i64 1, .string ⟨#[]⟩, .string ⟨#[]⟩, .int .i64 0, .int .i64 0, .slice none 0 0] 24)) := (Below.refl _ _).alloc (Nat.le_refl _) _
  have HR := Lib.hid (show Rd (ExR w.heap.size) w g E (.ok (.mk 1 e0 e0 0 0 []) l) (.returned (.agg #[.int .i64 1, .string ⟨#[]⟩, .string ⟨#[]⟩, .int .i64 0, .int .i64 0, .slice none 0 0])) (w.alloc (.cells #[.int .i64 1, .string ⟨#[]⟩, .string ⟨#[]⟩, .int .i64 0, .int .i64 0, .slice none 0 0] 24)) from Rd.ok rfl (.of_below hb) ⟨_, rfl, LayS.nil _ _⟩ (h.below hb))
  go_enter Tryz.func111, Tryz.ntmps111
  go_wp2_with fail
  refine bodyPost_ret (v := .agg #[.int .i64 1, .string ⟨#[]⟩, .string ⟨#[]⟩, .int .i64 0, .int .i64 0, .slice none 0 0]) (by simp [results, Tryz.results111, go_sem]) rfl ?_
  exact HR.out
end Go.Proofs.YtppoeiofdmlpeaaGreatDoor
namespace Go.Proofs.YtppoeiofdmlpeaaGreatDoor
open Go Go.RowKit
set_option maxRecDepth 100000 in
set_option maxHeartbeats 8000000 in
theorem slot_any (w0 : World) (g bp : Nat) (E : Int) (l : List Fnd) (w : World) (_hb0 : Below w0.heap.size w0 w) (_hg : w0.heap.size ≤ g) (h : Par w g E l) (_hm : l.length + 1 ≤ 1000000) (hp : Has w bp 49 #[.pointer (some ⟨g, 0, none⟩)]) (hpg : bp ≠ g)  :
    Calls Tryz.prog 117 #[.pointer (some ⟨bp, 0, none⟩)] w (Rd (ExR w.heap.size) w g E (slotP E l)) := by
  have hlt := h.lt
  have hpl := hp.lt
  have HS0 := Lib.hid (StP.start (T := 24) (cs := zEx) h)
  have HB0 := Lib.hid (hp.alloc (.cells zEx 24))
  obtain ⟨db, fb⟩ := HB0.out.facts
  have hmx : Tryz.prog.follows .mixedOrders = true := by kernel_rfl
  go_enter Tryz.func117, Tryz.ntmps117
  go_wp2_with (first
    | (go_at_call 44; refine (pname_any g E l _ (HS0.out).par).mono ?_; rintro e w2 hd; rcases hd.cases with ⟨er, at', hq, rfl, ha⟩ | ⟨nm, r, v, hq, rfl, rfl, ha, hpr⟩; (exact ⟨rfl, Rd.bad (by unfold slotP; rw [hq]; rfl) ((HS0.out).aw.trans ha)⟩); have HQ1 := Lib.hid hq; have HS1 := Lib.hid (HS0.out.next hlt ha hpr); have HX1 := Lib.hid ((Has.new w2 24 #[.int .i64 9, .string nm, .string ⟨#[]⟩, .int .i64 0, .int .i64 0, .slice none 0 0]).alloc (.cells #[.string ⟨#[105, 115]⟩] 9)); have HS2 := Lib.hid ((HS1.out.alloc (.cells #[.int .i64 9, .string nm, .string ⟨#[]⟩, .int .i64 0, .int .i64 0, .slice none 0 0] 24)).alloc (.cells #[.string ⟨#[105, 115]⟩] 9)); have HC2 := Lib.hid (alloc_cell (w2.alloc (.cells #[.int .i64 9, .string nm, .string ⟨#[]⟩, .int .i64 0, .int .i64 0, .slice none 0 0] 24)) wIs 9 (w2.heap.size + 1) (World.size_alloc _ _).symm); have HB2 := Lib.hid (HB0.out.aw ha hpg hpg); obtain ⟨dbb, fbb⟩ := ((HB2.out.alloc (.cells #[.int .i64 9, .string nm, .string ⟨#[]⟩, .int .i64 0, .int .i64 0, .slice none 0 0] 24))).facts; clear hq ha hpr hd)
    | (go_at_call 43; refine (want_any g E wIs r _ _ _ HS2.out.par HC2.out).mono ?_; rintro e w3 (⟨hq, rfl, rfl⟩ | ⟨hq, rfl, ha, hpr⟩); (exact ⟨rfl, Rd.bad (by unfold slotP; rw [HQ1.out]; show ((wantP E wIs r).bind _) = _; rw [hq]; rfl) HS2.out.aw⟩); have HQ2 := Lib.hid hq; have HX3 := Lib.hid (HX1.out.aw ha (by have := HS1.out.lt; omega) (by have := HS1.out.lt; omega)); have HS3 := Lib.hid (HS2.out.next hlt ha hpr); obtain ⟨dc, fc⟩ := ((((HB2.out.alloc (.cells #[.int .i64 9, .string nm, .string ⟨#[]⟩, .int .i64 0, .int .i64 0, .slice none 0 0] 24)).alloc (.cells #[.string ⟨#[105, 115]⟩] 9)).aw ha hpg hpg)).facts; clear hq ha hpr)
    | (go_at_call 44; refine (pname_any g E r.tail _ (HS3.out).par).mono ?_; rintro e w4 hd; rcases hd.cases with ⟨er, at', hq, rfl, ha⟩ | ⟨nm2, r3, v, hq, rfl, rfl, ha, hpr⟩; (exact ⟨rfl, Rd.bad (by unfold slotP; rw [HQ1.out]; show ((wantP E wIs r).bind _) = _; rw [HQ2.out]; show ((nameP E r.tail).bind _) = _; rw [hq]; rfl) ((HS3.out).aw.trans ha)⟩); have HQ3 := Lib.hid hq; have HX4 := Lib.hid (HX3.out.aw ha (by have := HS1.out.lt; omega) (by have := HS1.out.lt; omega)); have HS4 := Lib.hid (HS3.out.next hlt ha hpr); obtain ⟨dx, fx⟩ := HX4.out.facts; obtain ⟨dr, fr⟩ := HS4.out.res.facts; have hn1 : ¬ w2.heap.size = w.heap.size := (by have := HS1.out.lt; omega); have hn2 : ¬ w.heap.size = w2.heap.size := (by have := HS1.out.lt; omega); clear hq ha hpr hd))
  have HS5 := Lib.hid (show StP w g E 24 zEx r3 (w4.setCell ⟨w2.heap.size, 2, none⟩ (.string nm2)) from ⟨HS4.out.aw.set _ 2 (.inr (.inr (by have := HS1.out.lt; omega))) _, HS4.out.par.on fun b hb => heap_setCell_other w4 ⟨w2.heap.size, 2, none⟩ b _ (by have := HS1.out.lt; show b ≠ w2.heap.size; omega), HS4.out.res.far ⟨w2.heap.size, 2, none⟩ (by have := HS1.out.lt; show w.heap.size ≠ w2.heap.size; omega) _⟩)
  have HSix := Lib.hid (six_has (HS5.out).res (.int .i64 9) (.string nm) (.string nm2) (.int .i64 0) (.int .i64 0) (.slice none 0 0))
  have HFn := Lib.hid (show Rd (ExR w.heap.size) w g E (slotP E l) (.returned (.agg #[.int .i64 9, .string nm, .string nm2, .int .i64 0, .int .i64 0, .slice none 0 0])) (six (w4.setCell ⟨w2.heap.size, 2, none⟩ (.string nm2)) w.heap.size (.int .i64 9) (.string nm) (.string nm2) (.int .i64 0) (.int .i64 0) (.slice none 0 0)) from Rd.ok (x := .mk 9 nm nm2 0 0 []) (r := r3) (by unfold slotP; rw [HQ1.out]; show ((wantP E wIs r).bind _) = _; rw [HQ2.out]; show ((nameP E r.tail).bind _) = _; rw [HQ3.out]; rfl) (six_aw (HS5.out).aw (.inr (.inr (Nat.le_refl _))) _ _ _ _ _ _) ⟨_, rfl, LayS.nil _ _⟩ (six_par (HS5.out).par hlt _ _ _ _ _ _))
  show bodyPost _ _ _ _ _ (six (w4.setCell ⟨w2.heap.size, 2, none⟩ (.string nm2)) w.heap.size (.int .i64 9) (.string nm) (.string nm2) (.int .i64 0) (.int .i64 0) (.slice none 0 0))
  generalize six (w4.setCell ⟨w2.heap.size, 2, none⟩ (.string nm2)) w.heap.size (.int .i64 9) (.string nm) (.string nm2) (.int .i64 0) (.int .i64 0) (.slice none 0 0) = W6 at *
  obtain ⟨d6, f6⟩ := HSix.out.facts
  refine bodyPost_ret (v := .agg #[.int .i64 9, .string nm, .string nm2, .int .i64 0, .int .i64 0, .slice none 0 0]) (by simp [results, Tryz.results117, go_sem, d6]) rfl ?_
  exact HFn.out
end Go.Proofs.YtppoeiofdmlpeaaGreatDoor
namespace Go.Proofs.YtppoeiofdmlpeaaGreatDoor
open Go Go.RowKit
set_option maxRecDepth 100000 in
set_option maxHeartbeats 8000000 in
theorem atc_any (w0 : World) (g bp : Nat) (E : Int) (l : List Fnd) (w : World) (hb0 : Below w0.heap.size w0 w) (hg : w0.heap.size ≤ g) (h : Par w g E l) (_hm : l.length + 1 ≤ 1000000) (hp : Has w bp 49 #[.pointer (some ⟨g, 0, none⟩)]) (hpg : bp ≠ g) (hv : Evs w0) :
    Calls Tryz.prog 118 #[.pointer (some ⟨bp, 0, none⟩)] w (Rd (ExR w.heap.size) w g E (atP E l)) := by
  have hlt := h.lt
  have hpl := hp.lt
  have HS0 := Lib.hid (StP.start (T := 24) (cs := zEx) h)
  have HB0 := Lib.hid (hp.alloc (.cells zEx 24))
  have HSA := Lib.hid (HS0.out.alloc (.cells #[.string ⟨#[108, 101, 97, 115, 116]⟩] 9))
  have HCA := Lib.hid (alloc_cell (w.alloc (.cells zEx 24)) wLeast 9 (w.heap.size + 1) (World.size_alloc _ _).symm)
  obtain ⟨db, fb⟩ := HB0.out.facts
  have hmx : Tryz.prog.follows .mixedOrders = true := by kernel_rfl
  go_enter Tryz.func118, Tryz.ntmps118
  go_wp2_with (go_at_call 43; refine (want_any g E wLeast l _ _ _ HSA.out.par HCA.out).mono ?_; rintro e w3 (⟨hq, rfl, rfl⟩ | ⟨hq, rfl, ha, hpr⟩); (exact ⟨rfl, Rd.bad (by unfold atP; rw [hq]; rfl) HSA.out.aw⟩); have HQ1 := Lib.hid hq; have HSW := Lib.hid (HSA.out.next hlt ha hpr); have HBW := Lib.hid ((HB0.out.alloc (.cells #[.string ⟨#[108, 101, 97, 115, 116]⟩] 9)).aw ha hpg hpg); clear hq ha hpr)
  refine wp_region_held_drew (S := fun W => W.cell? ⟨bp, 0, none⟩ = some (.pointer (some ⟨g, 0, none⟩))) (by kernel_rfl) (HBW.out.cell 0) (fun hHeld => ?_)
  refine plI [(0, false), (2, false)] ?_
  repeat ((first | ((with_reducible show Plan ((_, true) :: _) _); refine plF ?_) | (refine plR (v := ?_) ?_ ?_; rotate_left; focus (intro W hSW; (try dsimp only at hSW); go_simp; all_goals (with_reducible rfl)))); try simp only [Act.put, List.setIfInBounds_toArray, List.set_cons_zero, List.set_cons_succ])
  refine plE ?_
  refine wpAnyH_ready (rs := [1]) (by kernel_rfl) (by simp) ?_
  refine AllReadyH.cons (o := ⟨_, _, _, _, _, _⟩) rfl (fun K hK => ?_) AllReadyH.nil
  go_simp
  go_at_call 114; refine (number_any w0 hv g E 1 l.tail _ ((HSW.out.drew).aw.below hb0 hg hg) (HSW.out.drew).par).mono ?_; rintro e w4 hd; rcases hd.cases with ⟨er, at', hq, rfl, ha⟩ | ⟨nn, r2, v, hq, rfl, rfl, ha, hpr⟩
  (exact ⟨rfl, Rd.bad (by unfold atP; rw [HQ1.out]; show ((numP E 1 l.tail).bind _) = _; rw [hq]; rfl) ((HSW.out.drew).aw.trans ha)⟩)
  have HQ2 := Lib.hid hq; have HS1 := Lib.hid ((HSW.out.drew).next hlt ha hpr); have HB1 := Lib.hid ((HBW.out).aw ha hpg hpg); clear hq ha hpr hd
  refine hK.out _ _ (HB1.out.cell 0) (fun hHeld => ?_)
  clear hK K
  try simp only [Act.put, List.setIfInBounds_toArray, List.set_cons_zero, List.set_cons_succ]
  refine wpAnyH_ready (rs := [3]) (by kernel_rfl) (by simp) ?_
  refine AllReadyH.cons (o := ⟨_, _, _, _, _, _⟩) rfl (fun K hK => ?_) AllReadyH.nil
  go_simp
  go_at_call 44; refine (pname_any g E r2 _ (HS1.out).par).mono ?_; rintro e w5 hd; rcases hd.cases with ⟨er, at', hq, rfl, ha⟩ | ⟨nm, r3, v, hq, rfl, rfl, ha, hpr⟩
  (exact ⟨rfl, Rd.bad (by unfold atP; rw [HQ1.out]; show ((numP E 1 l.tail).bind _) = _; rw [HQ2.out]; show ((nameP E r2).bind _) = _; rw [hq]; rfl) ((HS1.out).aw.trans ha)⟩)
  have HQ3 := Lib.hid hq; have HS3 := Lib.hid ((HS1.out).next hlt ha hpr); have HB3 := Lib.hid ((HB1.out).aw ha hpg hpg); obtain ⟨dr, fr⟩ := HS3.out.res.facts; clear hq ha hpr hd
  refine hK.out _ _ (HB3.out.cell 0) (fun hHeld => ?_)
  clear hK K
  try simp only [Act.put, List.setIfInBounds_toArray, List.set_cons_zero, List.set_cons_succ]
  refine plI [(4, false)] ?_
  repeat ((first | ((with_reducible show Plan ((_, true) :: _) _); refine plF ?_) | (refine plR (v := ?_) ?_ ?_; rotate_left; focus (intro W hSW; (try dsimp only at hSW); go_simp; all_goals (with_reducible rfl)))); try simp only [Act.put, List.setIfInBounds_toArray, List.set_cons_zero, List.set_cons_succ])
  refine plE ?_
  refine wpAnyH_ready (rs := [5]) (by kernel_rfl) (by simp) ?_
  refine AllReadyH.cons (o := ⟨_, _, _, _, _, _⟩) rfl (fun K hK => ?_) AllReadyH.nil
  go_simp
  have HB5 := Lib.hid (show Has (six w5 w.heap.size (.int .i64 12) (.string nm) (.string ⟨#[]⟩) (.int .i64 nn) (.int .i64 0) (.slice none 0 0)) bp 49 #[.pointer (some ⟨g, 0, none⟩)] from (six_old _ _ _ _ _ _ _ _ (by omega)).trans HB3.out)
  refine hK.out _ _ (HB5.out.cell 0) (fun hHeld => ?_)
  clear hK K
  try simp only [Act.put]
  refine wpAnyH_done (by kernel_rfl) ?_ _
  clear hHeld
  go_wp2_with fail
  have HSix := Lib.hid (six_has (HS3.out).res (.int .i64 12) (.string nm) (.string ⟨#[]⟩) (.int .i64 nn) (.int .i64 0) (.slice none 0 0))
  have HFn := Lib.hid (show Rd (ExR w.heap.size) w g E (atP E l) (.returned (.agg #[.int .i64 12, .string nm, .string ⟨#[]⟩, .int .i64 nn, .int .i64 0, .slice none 0 0])) (six (w5) w.heap.size (.int .i64 12) (.string nm) (.string ⟨#[]⟩) (.int .i64 nn) (.int .i64 0) (.slice none 0 0)) from Rd.ok (x := .mk 12 nm ⟨#[]⟩ nn 0 []) (r := r3) (by unfold atP; rw [HQ1.out]; show ((numP E 1 l.tail).bind _) = _; rw [HQ2.out]; show ((nameP E r2).bind _) = _; rw [HQ3.out]; rfl) (six_aw (HS3.out).aw (.inr (.inr (Nat.le_refl _))) _ _ _ _ _ _) ⟨_, rfl, LayS.nil _ _⟩ (six_par (HS3.out).par hlt _ _ _ _ _ _))
  show bodyPost _ _ _ _ _ (six (w5) w.heap.size (.int .i64 12) (.string nm) (.string ⟨#[]⟩) (.int .i64 nn) (.int .i64 0) (.slice none 0 0))
  generalize six (w5) w.heap.size (.int .i64 12) (.string nm) (.string ⟨#[]⟩) (.int .i64 nn) (.int .i64 0) (.slice none 0 0) = W6 at *
  obtain ⟨d6, f6⟩ := HSix.out.facts
  refine bodyPost_ret (v := .agg #[.int .i64 12, .string nm, .string ⟨#[]⟩, .int .i64 nn, .int .i64 0, .slice none 0 0]) (by simp [results, Tryz.results118, go_sem, d6]) rfl ?_
  exact HFn.out
set_option maxRecDepth 100000 in
set_option maxHeartbeats 8000000 in
theorem notf_any (w0 : World) (g bp : Nat) (E : Int) (l : List Fnd) (w : World) (hb0 : Below w0.heap.size w0 w) (hg : w0.heap.size ≤ g) (h : Par w g E l) (_hm : l.length + 1 ≤ 1000000) (hp : Has w bp 49 #[.pointer (some ⟨g, 0, none⟩)]) (hpg : bp ≠ g) (one : List Fnd → Got Ex)
    (hone : ∀ (l' : List Fnd) (W : World), l'.length < l.length + 1 → Below w0.heap.size w0 W → Par W g E l' → Calls Tryz.prog 89 #[.pointer (some ⟨g, 0, none⟩)] W (Rd (ExR W.heap.size) W g E (one l')))
    (_hsh : ∀ l' c r, one l' = .ok c r → r.length ≤ l'.length) :
    Calls Tryz.prog 112 #[.pointer (some ⟨bp, 0, none⟩)] w (Rd (ExR w.heap.size) w g E ((one l).bind fun c r2 => .ok (.mk 2 e0 e0 0 0 [c]) r2)) := by
  have hlt := h.lt
  have hpl := hp.lt
  have HS0 := Lib.hid (StP.start (T := 24) (cs := zEx) h)
  have HB0 := Lib.hid (hp.alloc (.cells zEx 24))
  have HZ := Lib.hid (show (w.alloc (.cells zEx 24)).drew.heap.size = w.heap.size + 1 from World.size_alloc _ _)
  have hmx : Tryz.prog.follows .mixedOrders = true := by kernel_rfl
  go_enter Tryz.func112, Tryz.ntmps112
  go_wp2_with fail
  refine wp_region_held_drew (S := fun W => W.cell? ⟨bp, 0, none⟩ = some (.pointer (some ⟨g, 0, none⟩))) (by kernel_rfl) (HB0.out.cell 0) (fun hHeld => ?_)
  refine plI [(1, false)] ?_
  repeat ((first | ((with_reducible show Plan ((_, true) :: _) _); refine plF ?_) | (refine plR (v := ?_) ?_ ?_; rotate_left; focus (intro W hSW; (try dsimp only at hSW); go_simp; all_goals (with_reducible rfl)))); try simp only [Act.put, List.setIfInBounds_toArray, List.set_cons_zero, List.set_cons_succ])
  refine plE ?_
  refine wpAnyH_ready (rs := [0]) (by kernel_rfl) (by simp) ?_
  refine AllReadyH.cons (o := ⟨_, _, _, _, _, _⟩) rfl (fun K hK => ?_) AllReadyH.nil
  go_simp
  go_at_call 75; refine (of_any 2 _).mono ?_; rintro e w2 ⟨rfl, hb2, hx2⟩
  rw [HZ.out] at hx2
  have HN2 := Lib.hid hx2; have HS2 := Lib.hid (HS0.out.drew.next hlt (.of_below hb2) (HS0.out.drew.par.below hb2)); have HB2 := Lib.hid (HB0.out.drew.below hb2 (by rw [HZ.out]; omega)); have HO := Lib.hid (hone l w2 (Nat.lt_succ_self _) (HS2.out.aw.below hb0 hg hg) HS2.out.par); clear hb2 hx2
  refine hK.out _ _ (HB2.out.cell 0) (fun hHeld => ?_)
  clear hK K
  try simp only [Act.put, List.setIfInBounds_toArray, List.set_cons_zero, List.set_cons_succ]
  refine wpAnyH_ready (rs := [2]) (by kernel_rfl) (by simp) ?_
  refine AllReadyH.cons (o := ⟨_, _, _, _, _, _⟩) rfl (fun K hK => ?_) AllReadyH.nil
  go_simp
  go_at_call 89; refine HO.out.mono ?_; rintro e w4 hd; rcases hd.cases with ⟨er, at', hq, rfl, ha⟩ | ⟨x, r2, v, hq, rfl, ⟨kv, rfl, hv⟩, ha, hpr⟩
  (exact ⟨rfl, Rd.bad (by rw [hq]; rfl) (HS2.out.aw.trans ha)⟩)
  obtain ⟨A', c', rfl, _⟩ := hv.slice
  have HQ2 := Lib.hid hq; have HV := Lib.hid (hv.mono (T := fun b => w.heap.size + 1 ≤ b) fun b hb _ => Nat.le_trans HS2.out.lt hb); have HS4 := Lib.hid (HS2.out.next hlt ha hpr); have HB4 := Lib.hid (HB2.out.aw ha hpg hpg); have HN4 := Lib.hid (HN2.out.aw ha (by omega) (by omega)); clear hq hv ha hpr hd HO
  refine hK.out _ _ (HB4.out.cell 0) (fun hHeld => ?_)
  clear hK K
  try simp only [Act.put, List.setIfInBounds_toArray, List.set_cons_zero, List.set_cons_succ]
  refine wpAnyH_ready (rs := [3]) (by kernel_rfl) (by simp) ?_
  refine AllReadyH.cons (o := ⟨_, _, _, _, _, _⟩) rfl (fun K hK => ?_) AllReadyH.nil
  go_simp
  have HX := Lib.hid (Has.new w4 24 #[.int .i64 x.op, .string x.name, .string x.value, .int .i64 x.n, .int .i64 x.extra, .slice A' x.kids.length c']); have HS5 := Lib.hid (HS4.out.alloc (.cells #[.int .i64 x.op, .string x.name, .string x.value, .int .i64 x.n, .int .i64 x.extra, .slice A' x.kids.length c'] 24)); have HB5 := Lib.hid (HB4.out.alloc (.cells #[.int .i64 x.op, .string x.name, .string x.value, .int .i64 x.n, .int .i64 x.extra, .slice A' x.kids.length c'] 24)); have HN5 := Lib.hid (HN4.out.alloc (.cells #[.int .i64 x.op, .string x.name, .string x.value, .int .i64 x.n, .int .i64 x.extra, .slice A' x.kids.length c'] 24)); have HL5 := Lib.hid (lay_one (S := fun b => w.heap.size + 1 ≤ b) HX.out HS4.out.lt (HV.out.later ((Below.refl _ _).alloc (Nat.le_refl _) _)))
  refine hK.out _ _ (HB5.out.cell 0) (fun hHeld => ?_)
  clear hK K
  try simp only [Act.put, List.setIfInBounds_toArray, List.set_cons_zero, List.set_cons_succ]
  refine wpAnyH_ready (rs := [4]) (by kernel_rfl) (by simp) ?_
  refine AllReadyH.cons (o := ⟨_, _, _, _, _, _⟩) rfl (fun K hK => ?_) AllReadyH.nil
  go_simp
  go_at_call 90; refine (of1_any 2 _ [x] _ _ HN5.out HL5.out).mono ?_; rintro e w6 ⟨rfl, hb6⟩
  have HL6 := Lib.hid (HL5.out.later hb6); have HS6 := Lib.hid (HS5.out.next hlt (.of_below hb6) (HS5.out.par.below hb6)); have HB6 := Lib.hid (HB5.out.below hb6 HB5.out.lt); obtain ⟨dr, fr⟩ := HS6.out.res.facts; clear hb6
  refine hK.out _ _ (HB6.out.cell 0) (fun hHeld => ?_)
  clear hK K
  try simp only [Act.put, List.setIfInBounds_toArray, List.set_cons_zero, List.set_cons_succ]
  refine wpAnyH_ready (rs := [5]) (by kernel_rfl) (by simp) ?_
  refine AllReadyH.cons (o := ⟨_, _, _, _, _, _⟩) rfl (fun K hK => ?_) AllReadyH.nil
  go_simp
  have HB7 := Lib.hid (show Has (six w6 w.heap.size (.int .i64 2) (.string e0) (.string e0) (.int .i64 0) (.int .i64 0) (.slice (some ⟨w4.heap.size, 0, none⟩) 1 1)) bp 49 #[.pointer (some ⟨g, 0, none⟩)] from (six_old _ _ _ _ _ _ _ _ (by omega)).trans HB6.out)
  refine hK.out _ _ (HB7.out.cell 0) (fun hHeld => ?_)
  clear hK K
  try simp only [Act.put]
  refine wpAnyH_done (by kernel_rfl) ?_ _
  clear hHeld
  go_wp2_with fail
  have HSix := Lib.hid (six_has (HS6.out).res (.int .i64 2) (.string e0) (.string e0) (.int .i64 0) (.int .i64 0) (.slice (some ⟨w4.heap.size, 0, none⟩) 1 1))
  have HFn := Lib.hid (show Rd (ExR w.heap.size) w g E ((one l).bind fun c r2 => .ok (.mk 2 e0 e0 0 0 [c]) r2) (.returned (.agg #[.int .i64 2, .string e0, .string e0, .int .i64 0, .int .i64 0, .slice (some ⟨w4.heap.size, 0, none⟩) 1 1])) (six (w6) w.heap.size (.int .i64 2) (.string e0) (.string e0) (.int .i64 0) (.int .i64 0) (.slice (some ⟨w4.heap.size, 0, none⟩) 1 1)) from Rd.ok (x := .mk 2 e0 e0 0 0 [x]) (r := r2) (by rw [HQ2.out]; rfl) (six_aw (HS6.out).aw (.inr (.inr (Nat.le_refl _))) _ _ _ _ _ _) ⟨_, rfl, six_lay (ks := [x]) HL6.out (fun b hb => ⟨by omega, by omega⟩) _ _ _ _ _ _⟩ (six_par (HS6.out).par hlt _ _ _ _ _ _))
  show bodyPost _ _ _ _ _ (six (w6) w.heap.size (.int .i64 2) (.string e0) (.string e0) (.int .i64 0) (.int .i64 0) (.slice (some ⟨w4.heap.size, 0, none⟩) 1 1))
  generalize six (w6) w.heap.size (.int .i64 2) (.string e0) (.string e0) (.int .i64 0) (.int .i64 0) (.slice (some ⟨w4.heap.size, 0, none⟩) 1 1) = W6 at *
  obtain ⟨d6, f6⟩ := HSix.out.facts
  refine bodyPost_ret (v := .agg #[.int .i64 2, .string e0, .string e0, .int .i64 0, .int .i64 0, .slice (some ⟨w4.heap.size, 0, none⟩) 1 1]) (by simp [results, Tryz.results112, go_sem, d6]) rfl ?_
  exact HFn.out
end Go.Proofs.YtppoeiofdmlpeaaGreatDoor
namespace Go.Proofs.YtppoeiofdmlpeaaGreatDoor
open Go Go.RowKit
set_option maxRecDepth 100000 in
set_option maxHeartbeats 8000000 in
theorem limit_any (w0 : World) (g bp : Nat) (E : Int) (l : List Fnd) (w : World) (hb0 : Below w0.heap.size w0 w) (hg : w0.heap.size ≤ g) (h : Par w g E l) (_hm : l.length + 1 ≤ 1000000) (hp : Has w bp 49 #[.pointer (some ⟨g, 0, none⟩)]) (hpg : bp ≠ g) (hv : Evs w0) :
    Calls Tryz.prog 113 #[.pointer (some ⟨bp, 0, none⟩)] w (Rd (ExR w.heap.size) w g E (limitP E l)) := by
  have hlt := h.lt
  have hpl := hp.lt
  have HS0 := Lib.hid (StP.start (T := 24) (cs := zEx) h)
  have HB0 := Lib.hid (hp.alloc (.cells zEx 24))
  have hmx : Tryz.prog.follows .mixedOrders = true := by kernel_rfl
  go_enter Tryz.func113, Tryz.ntmps113
  go_wp2_with fail
  refine wp_region_held_drew (S := fun W => W.cell? ⟨bp, 0, none⟩ = some (.pointer (some ⟨g, 0, none⟩))) (by kernel_rfl) (HB0.out.cell 0) (fun hHeld => ?_)
  refine plI [(0, false), (2, false)] ?_
  repeat ((first | ((with_reducible show Plan ((_, true) :: _) _); refine plF ?_) | (refine plR (v := ?_) ?_ ?_; rotate_left; focus (intro W hSW; (try dsimp only at hSW); go_simp; all_goals (with_reducible rfl)))); try simp only [Act.put, List.setIfInBounds_toArray, List.set_cons_zero, List.set_cons_succ])
  refine plE ?_
  refine wpAnyH_ready (rs := [1, 5]) (by kernel_rfl) (by simp) ?_
  refine AllReadyH.cons (o := ⟨_, _, _, _, _, _⟩) rfl (fun K hK => ?_) ?_
  · go_simp
    go_at_call 44; refine (pname_any g E l _ (HS0.out.drew).par).mono ?_; rintro e w2 hd; rcases hd.cases with ⟨er, at', hq, rfl, ha⟩ | ⟨nm, r, v, hq, rfl, rfl, ha, hpr⟩
    (exact ⟨rfl, Rd.bad (by unfold limitP; rw [hq]; rfl) ((HS0.out.drew).aw.trans ha)⟩)
    have HQ1 := Lib.hid hq; have HS1 := Lib.hid ((HS0.out.drew).next hlt ha hpr); have HB1 := Lib.hid ((HB0.out).aw ha hpg hpg)
    clear hq ha hpr hd
    refine hK.out _ _ (HB1.out.cell 0) (fun hHeld => ?_)
    clear hK K
    try simp only [Act.put, List.setIfInBounds_toArray, List.set_cons_zero, List.set_cons_succ]
    refine wpAnyH_ready (rs := [3, 5]) (by kernel_rfl) (by simp) ?_
    refine AllReadyH.cons (o := ⟨_, _, _, _, _, _⟩) rfl (fun K hK => ?_) ?_
    · go_simp
      go_at_call 114; refine (number_any w0 hv g E 0 r _ ((HS1.out).aw.below hb0 hg hg) (HS1.out).par).mono ?_; rintro e w4 hd; rcases hd.cases with ⟨er, at', hq, rfl, ha⟩ | ⟨nn, r2, v, hq, rfl, rfl, ha, hpr⟩
      (exact ⟨rfl, Rd.bad (by unfold limitP; rw [HQ1.out]; show ((numP E 0 r).bind _) = _; rw [hq]; rfl) ((HS1.out).aw.trans ha)⟩)
      have HQ2 := Lib.hid hq; have HS3 := Lib.hid ((HS1.out).next hlt ha hpr); have HB3 := Lib.hid ((HB1.out).aw ha hpg hpg)
      clear hq ha hpr hd
      refine hK.out _ _ (HB3.out.cell 0) (fun hHeld => ?_)
      clear hK K
      try simp only [Act.put, List.setIfInBounds_toArray, List.set_cons_zero, List.set_cons_succ]
      refine plI [(4, false)] ?_
      repeat ((first | ((with_reducible show Plan ((_, true) :: _) _); refine plF ?_) | (refine plR (v := ?_) ?_ ?_; rotate_left; focus (intro W hSW; (try dsimp only at hSW); go_simp; all_goals (with_reducible rfl)))); try simp only [Act.put, List.setIfInBounds_toArray, List.set_cons_zero, List.set_cons_succ])
      refine plE ?_
      refine wpAnyH_ready (rs := [5]) (by kernel_rfl) (by simp) ?_
      refine AllReadyH.cons (o := ⟨_, _, _, _, _, _⟩) rfl (fun K hK => ?_) AllReadyH.nil
      go_simp
      have HX5 := Lib.hid (Has.new (w4) 24 zEx); have HS5 := Lib.hid ((HS3.out).alloc (.cells zEx 24)); have HB5 := Lib.hid ((HB3.out).alloc (.cells zEx 24))
      refine hK.out _ _ (HB5.out.cell 0) (fun hHeld => ?_)
      clear hK K
      try simp only [Act.put, List.setIfInBounds_toArray, List.set_cons_zero, List.set_cons_succ]
      refine wpAnyH_ready (rs := [6]) (by kernel_rfl) (by simp) ?_
      refine AllReadyH.cons (o := ⟨_, _, _, _, _, _⟩) rfl (fun K hK => ?_) AllReadyH.nil
      go_simp
      have HB6 := Lib.hid (HB3.out.alloc (.cells #[.int .i64 5, .string nm, .string ⟨#[]⟩, .int .i64 nn, .int .i64 0, .slice none 0 0] 24)); have HX6 := Lib.hid (Has.new w4 24 #[.int .i64 5, .string nm, .string ⟨#[]⟩, .int .i64 nn, .int .i64 0, .slice none 0 0]); have HS6 := Lib.hid (HS3.out.alloc (.cells #[.int .i64 5, .string nm, .string ⟨#[]⟩, .int .i64 nn, .int .i64 0, .slice none 0 0] 24)); have HLB := Lib.hid (show w.heap.size < w4.heap.size by have := HS1.out.lt; have := HS3.out.lt; omega)
      refine hK.out _ _ (HB6.out.cell 0) (fun hHeld => ?_)
      clear hK K
      try simp only [Act.put]
      refine wpAnyH_done (by kernel_rfl) ?_ _
      clear hHeld
      change Exit.then _ _ _ _ (w4.alloc (.cells #[.int .i64 5, .string nm, .string ⟨#[]⟩, .int .i64 nn, .int .i64 0, .slice none 0 0] 24))
      generalize w4.alloc (.cells #[.int .i64 5, .string nm, .string ⟨#[]⟩, .int .i64 nn, .int .i64 0, .slice none 0 0] 24) = W7 at *
      generalize w4.heap.size = B at *
      have hlb := HLB.out
      have hnb1 : ¬ B = w.heap.size := (by omega)
      have hnb2 : ¬ w.heap.size = B := (by omega)
      obtain ⟨db, fb⟩ := HB6.out.facts
      obtain ⟨d7, f7⟩ := HX6.out.facts
      obtain ⟨dr, fr⟩ := HS6.out.res.facts
      clear HS0 HB0 HS1 HB1 HS3 HB3 HX5 HS5 HB5
      cases hsk : skipB wPlus r2 with
      | false =>
        go_wp2_with (go_at_call 71; refine (skip_no g E wPlus r2 _ HS6.out.par hsk).mono ?_; rintro e w8 ⟨rfl, rfl⟩)
        have HSix := Lib.hid (six_has (HS6.out).res (.int .i64 5) (.string nm) (.string ⟨#[]⟩) (.int .i64 nn) (.int .i64 0) (.slice none 0 0))
        have HFn := Lib.hid (show Rd (ExR w.heap.size) w g E (limitP E l) (.returned (.agg #[.int .i64 5, .string nm, .string ⟨#[]⟩, .int .i64 nn, .int .i64 0, .slice none 0 0])) (six (w8) w.heap.size (.int .i64 5) (.string nm) (.string ⟨#[]⟩) (.int .i64 nn) (.int .i64 0) (.slice none 0 0)) from Rd.ok (x := .mk 5 nm ⟨#[]⟩ nn 0 []) (r := r2) (by unfold limitP; rw [HQ1.out]; show ((numP E 0 r).bind _) = _; rw [HQ2.out]; show (if skipB wPlus r2 then _ else _) = _; rw [if_neg (by rw [hsk]; exact Bool.false_ne_true)]; rfl) (six_aw (HS6.out).aw (.inr (.inr (Nat.le_refl _))) _ _ _ _ _ _) ⟨_, rfl, LayS.nil _ _⟩ (six_par (HS6.out).par hlt _ _ _ _ _ _))
        show bodyPost _ _ _ _ _ (six (w8) w.heap.size (.int .i64 5) (.string nm) (.string ⟨#[]⟩) (.int .i64 nn) (.int .i64 0) (.slice none 0 0))
        generalize six (w8) w.heap.size (.int .i64 5) (.string nm) (.string ⟨#[]⟩) (.int .i64 nn) (.int .i64 0) (.slice none 0 0) = W6 at *
        obtain ⟨d6, f6⟩ := HSix.out.facts
        refine bodyPost_ret (v := .agg #[.int .i64 5, .string nm, .string ⟨#[]⟩, .int .i64 nn, .int .i64 0, .slice none 0 0]) (by simp [results, Tryz.results113, go_sem, d6]) rfl ?_
        exact HFn.out
      | true =>
        go_wp2_with (first
          | (go_at_call 71; refine (skip_yes g E wPlus r2 _ HS6.out.par hsk).mono ?_; rintro e w8 ⟨rfl, ha, hpr⟩; have HS8 := Lib.hid (HS6.out.next hlt ha hpr); have HX8 := Lib.hid (HX6.out.aw ha (by omega) (by omega)); obtain ⟨dc, fc⟩ := (HB6.out.aw ha hpg hpg).facts; clear ha hpr)
          | (go_at_call 114; refine (number_any w0 hv g E 0 r2.tail _ ((HS8.out).aw.below hb0 hg hg) (HS8.out).par).mono ?_; rintro e w9 hd; rcases hd.cases with ⟨er, at', hq, rfl, ha⟩ | ⟨xx, r3, v, hq, rfl, rfl, ha, hpr⟩; (exact ⟨rfl, Rd.bad (by unfold limitP; rw [HQ1.out]; show ((numP E 0 r).bind _) = _; rw [HQ2.out]; show (if skipB wPlus r2 then _ else _) = _; rw [if_pos hsk]; show ((numP E 0 r2.tail).bind _) = _; rw [hq]; rfl) ((HS8.out).aw.trans ha)⟩); have HQ3 := Lib.hid hq; have HX9 := Lib.hid (HX8.out.aw ha (by omega) (by omega)); have HS9 := Lib.hid (HS8.out.next hlt ha hpr); obtain ⟨dx, fx⟩ := HX9.out.facts; obtain ⟨ds, fs⟩ := HS9.out.res.facts; clear hq ha hpr hd))
        have HST := Lib.hid (show StP w g E 24 zEx r3 (w9.setCell ⟨B, 4, none⟩ (.int .i64 xx)) from ⟨HS9.out.aw.set _ 4 (.inr (.inr (by omega))) _, HS9.out.par.on fun b hb => heap_setCell_other w9 ⟨B, 4, none⟩ b _ (by show b ≠ B; omega), HS9.out.res.far ⟨B, 4, none⟩ (by show w.heap.size ≠ B; omega) _⟩)
        have HSix := Lib.hid (six_has (HST.out).res (.int .i64 5) (.string nm) (.string ⟨#[]⟩) (.int .i64 nn) (.int .i64 xx) (.slice none 0 0))
        have HFn := Lib.hid (show Rd (ExR w.heap.size) w g E (limitP E l) (.returned (.agg #[.int .i64 5, .string nm, .string ⟨#[]⟩, .int .i64 nn, .int .i64 xx, .slice none 0 0])) (six (w9.setCell ⟨B, 4, none⟩ (.int .i64 xx)) w.heap.size (.int .i64 5) (.string nm) (.string ⟨#[]⟩) (.int .i64 nn) (.int .i64 xx) (.slice none 0 0)) from Rd.ok (x := .mk 5 nm ⟨#[]⟩ nn xx []) (r := r3) (by unfold limitP; rw [HQ1.out]; show ((numP E 0 r).bind _) = _; rw [HQ2.out]; show (if skipB wPlus r2 then _ else _) = _; rw [if_pos hsk]; show ((numP E 0 r2.tail).bind _) = _; rw [HQ3.out]; rfl) (six_aw (HST.out).aw (.inr (.inr (Nat.le_refl _))) _ _ _ _ _ _) ⟨_, rfl, LayS.nil _ _⟩ (six_par (HST.out).par hlt _ _ _ _ _ _))
        show bodyPost _ _ _ _ _ (six (w9.setCell ⟨B, 4, none⟩ (.int .i64 xx)) w.heap.size (.int .i64 5) (.string nm) (.string ⟨#[]⟩) (.int .i64 nn) (.int .i64 xx) (.slice none 0 0))
        generalize six (w9.setCell ⟨B, 4, none⟩ (.int .i64 xx)) w.heap.size (.int .i64 5) (.string nm) (.string ⟨#[]⟩) (.int .i64 nn) (.int .i64 xx) (.slice none 0 0) = W6 at *
        obtain ⟨d6, f6⟩ := HSix.out.facts
        refine bodyPost_ret (v := .agg #[.int .i64 5, .string nm, .string ⟨#[]⟩, .int .i64 nn, .int .i64 xx, .slice none 0 0]) (by simp [results, Tryz.results113, go_sem, d6]) rfl ?_
        exact HFn.out
    refine AllReadyH.cons (o := ⟨_, _, _, _, _, _⟩) rfl (fun K hK => ?_) AllReadyH.nil
    go_simp
    have HX5 := Lib.hid (Has.new (w2) 24 zEx); have HS5 := Lib.hid ((HS1.out).alloc (.cells zEx 24)); have HB5 := Lib.hid ((HB1.out).alloc (.cells zEx 24))
    refine hK.out _ _ (HB5.out.cell 0) (fun hHeld => ?_)
    clear hK K
    try simp only [Act.put, List.setIfInBounds_toArray, List.set_cons_zero, List.set_cons_succ]
    refine wpAnyH_ready (rs := [3]) (by kernel_rfl) (by simp) ?_
    refine AllReadyH.cons (o := ⟨_, _, _, _, _, _⟩) rfl (fun K hK => ?_) AllReadyH.nil
    go_simp
    go_at_call 114; refine (number_any w0 hv g E 0 r _ ((HS5.out).aw.below hb0 hg hg) (HS5.out).par).mono ?_; rintro e w4 hd; rcases hd.cases with ⟨er, at', hq, rfl, ha⟩ | ⟨nn, r2, v, hq, rfl, rfl, ha, hpr⟩
    (exact ⟨rfl, Rd.bad (by unfold limitP; rw [HQ1.out]; show ((numP E 0 r).bind _) = _; rw [hq]; rfl) ((HS5.out).aw.trans ha)⟩)
    have HQ2 := Lib.hid hq; have HS3 := Lib.hid ((HS5.out).next hlt ha hpr); have HB3 := Lib.hid ((HB5.out).aw ha hpg hpg)
    have HX3 := Lib.hid ((HX5.out).aw ha (by have := HS1.out.lt; omega) (by have := HS1.out.lt; omega)); obtain ⟨dx, fx⟩ := HX3.out.facts
    clear hq ha hpr hd
    refine hK.out _ _ (HB3.out.cell 0) (fun hHeld => ?_)
    clear hK K
    try simp only [Act.put, List.setIfInBounds_toArray, List.set_cons_zero, List.set_cons_succ]
    refine plI [(4, false)] ?_
    repeat ((first | ((with_reducible show Plan ((_, true) :: _) _); refine plF ?_) | (refine plR (v := ?_) ?_ ?_; rotate_left; focus (intro W hSW; (try dsimp only at hSW); go_simp; all_goals (with_reducible rfl)))); try simp only [Act.put, List.setIfInBounds_toArray, List.set_cons_zero, List.set_cons_succ])
    refine plE ?_
    refine wpAnyH_ready (rs := [6]) (by kernel_rfl) (by simp) ?_
    refine AllReadyH.cons (o := ⟨_, _, _, _, _, _⟩) rfl (fun K hK => ?_) AllReadyH.nil
    go_simp
    have HB6 := Lib.hid (show Has (six w4 (w2.heap.size) (.int .i64 5) (.string nm) (.string ⟨#[]⟩) (.int .i64 nn) (.int .i64 0) (.slice none 0 0)) bp 49 #[.pointer (some ⟨g, 0, none⟩)] from (six_old _ _ _ _ _ _ _ _ (by have := HS1.out.lt; have := HS3.out.lt; omega)).trans HB3.out)
    have HX6 := Lib.hid (six_has HX3.out (.int .i64 5) (.string nm) (.string ⟨#[]⟩) (.int .i64 nn) (.int .i64 0) (.slice none 0 0)); have HS6 := Lib.hid (show StP w g E 24 zEx r2 (six w4 (w2.heap.size) (.int .i64 5) (.string nm) (.string ⟨#[]⟩) (.int .i64 nn) (.int .i64 0) (.slice none 0 0)) from ⟨six_aw (HS3.out).aw (.inr (.inr (by have := HS1.out.lt; have := HS3.out.lt; omega))) _ _ _ _ _ _, six_par (HS3.out).par (by have := HS1.out.lt; have := HS3.out.lt; omega) _ _ _ _ _ _, (six_old _ _ _ _ _ _ _ _ (by have := HS1.out.lt; have := HS3.out.lt; omega)).trans (HS3.out).res⟩); have HLB := Lib.hid (show w.heap.size < w2.heap.size by have := HS1.out.lt; have := HS3.out.lt; omega)
    refine hK.out _ _ (HB6.out.cell 0) (fun hHeld => ?_)
    clear hK K
    try simp only [Act.put]
    refine wpAnyH_done (by kernel_rfl) ?_ _
    clear hHeld
    change Exit.then _ _ _ _ (six w4 (w2.heap.size) (.int .i64 5) (.string nm) (.string ⟨#[]⟩) (.int .i64 nn) (.int .i64 0) (.slice none 0 0))
    generalize six w4 (w2.heap.size) (.int .i64 5) (.string nm) (.string ⟨#[]⟩) (.int .i64 nn) (.int .i64 0) (.slice none 0 0) = W7 at *
    generalize w2.heap.size = B at *
    have hlb := HLB.out
    have hnb1 : ¬ B = w.heap.size := (by omega)
    have hnb2 : ¬ w.heap.size = B := (by omega)
    obtain ⟨db, fb⟩ := HB6.out.facts
    obtain ⟨d7, f7⟩ := HX6.out.facts
    obtain ⟨dr, fr⟩ := HS6.out.res.facts
    clear HS0 HB0 HS1 HB1 HS3 HB3 HX5 HS5 HB5
    cases hsk : skipB wPlus r2 with
    | false =>
      go_wp2_with (go_at_call 71; refine (skip_no g E wPlus r2 _ HS6.out.par hsk).mono ?_; rintro e w8 ⟨rfl, rfl⟩)
      have HSix := Lib.hid (six_has (HS6.out).res (.int .i64 5) (.string nm) (.string ⟨#[]⟩) (.int .i64 nn) (.int .i64 0) (.slice none 0 0))
      have HFn := Lib.hid (show Rd (ExR w.heap.size) w g E (limitP E l) (.returned (.agg #[.int .i64 5, .string nm, .string ⟨#[]⟩, .int .i64 nn, .int .i64 0, .slice none 0 0])) (six (w8) w.heap.size (.int .i64 5) (.string nm) (.string ⟨#[]⟩) (.int .i64 nn) (.int .i64 0) (.slice none 0 0)) from Rd.ok (x := .mk 5 nm ⟨#[]⟩ nn 0 []) (r := r2) (by unfold limitP; rw [HQ1.out]; show ((numP E 0 r).bind _) = _; rw [HQ2.out]; show (if skipB wPlus r2 then _ else _) = _; rw [if_neg (by rw [hsk]; exact Bool.false_ne_true)]; rfl) (six_aw (HS6.out).aw (.inr (.inr (Nat.le_refl _))) _ _ _ _ _ _) ⟨_, rfl, LayS.nil _ _⟩ (six_par (HS6.out).par hlt _ _ _ _ _ _))
      show bodyPost _ _ _ _ _ (six (w8) w.heap.size (.int .i64 5) (.string nm) (.string ⟨#[]⟩) (.int .i64 nn) (.int .i64 0) (.slice none 0 0))
      generalize six (w8) w.heap.size (.int .i64 5) (.string nm) (.string ⟨#[]⟩) (.int .i64 nn) (.int .i64 0) (.slice none 0 0) = W6 at *
      obtain ⟨d6, f6⟩ := HSix.out.facts
      refine bodyPost_ret (v := .agg #[.int .i64 5, .string nm, .string ⟨#[]⟩, .int .i64 nn, .int .i64 0, .slice none 0 0]) (by simp [results, Tryz.results113, go_sem, d6]) rfl ?_
      exact HFn.out
    | true =>
      go_wp2_with (first
        | (go_at_call 71; refine (skip_yes g E wPlus r2 _ HS6.out.par hsk).mono ?_; rintro e w8 ⟨rfl, ha, hpr⟩; have HS8 := Lib.hid (HS6.out.next hlt ha hpr); have HX8 := Lib.hid (HX6.out.aw ha (by omega) (by omega)); obtain ⟨dc, fc⟩ := (HB6.out.aw ha hpg hpg).facts; clear ha hpr)
        | (go_at_call 114; refine (number_any w0 hv g E 0 r2.tail _ ((HS8.out).aw.below hb0 hg hg) (HS8.out).par).mono ?_; rintro e w9 hd; rcases hd.cases with ⟨er, at', hq, rfl, ha⟩ | ⟨xx, r3, v, hq, rfl, rfl, ha, hpr⟩; (exact ⟨rfl, Rd.bad (by unfold limitP; rw [HQ1.out]; show ((numP E 0 r).bind _) = _; rw [HQ2.out]; show (if skipB wPlus r2 then _ else _) = _; rw [if_pos hsk]; show ((numP E 0 r2.tail).bind _) = _; rw [hq]; rfl) ((HS8.out).aw.trans ha)⟩); have HQ3 := Lib.hid hq; have HX9 := Lib.hid (HX8.out.aw ha (by omega) (by omega)); have HS9 := Lib.hid (HS8.out.next hlt ha hpr); obtain ⟨dx, fx⟩ := HX9.out.facts; obtain ⟨ds, fs⟩ := HS9.out.res.facts; clear hq ha hpr hd))
      have HST := Lib.hid (show StP w g E 24 zEx r3 (w9.setCell ⟨B, 4, none⟩ (.int .i64 xx)) from ⟨HS9.out.aw.set _ 4 (.inr (.inr (by omega))) _, HS9.out.par.on fun b hb => heap_setCell_other w9 ⟨B, 4, none⟩ b _ (by show b ≠ B; omega), HS9.out.res.far ⟨B, 4, none⟩ (by show w.heap.size ≠ B; omega) _⟩)
      have HSix := Lib.hid (six_has (HST.out).res (.int .i64 5) (.string nm) (.string ⟨#[]⟩) (.int .i64 nn) (.int .i64 xx) (.slice none 0 0))
      have HFn := Lib.hid (show Rd (ExR w.heap.size) w g E (limitP E l) (.returned (.agg #[.int .i64 5, .string nm, .string ⟨#[]⟩, .int .i64 nn, .int .i64 xx, .slice none 0 0])) (six (w9.setCell ⟨B, 4, none⟩ (.int .i64 xx)) w.heap.size (.int .i64 5) (.string nm) (.string ⟨#[]⟩) (.int .i64 nn) (.int .i64 xx) (.slice none 0 0)) from Rd.ok (x := .mk 5 nm ⟨#[]⟩ nn xx []) (r := r3) (by unfold limitP; rw [HQ1.out]; show ((numP E 0 r).bind _) = _; rw [HQ2.out]; show (if skipB wPlus r2 then _ else _) = _; rw [if_pos hsk]; show ((numP E 0 r2.tail).bind _) = _; rw [HQ3.out]; rfl) (six_aw (HST.out).aw (.inr (.inr (Nat.le_refl _))) _ _ _ _ _ _) ⟨_, rfl, LayS.nil _ _⟩ (six_par (HST.out).par hlt _ _ _ _ _ _))
      show bodyPost _ _ _ _ _ (six (w9.setCell ⟨B, 4, none⟩ (.int .i64 xx)) w.heap.size (.int .i64 5) (.string nm) (.string ⟨#[]⟩) (.int .i64 nn) (.int .i64 xx) (.slice none 0 0))
      generalize six (w9.setCell ⟨B, 4, none⟩ (.int .i64 xx)) w.heap.size (.int .i64 5) (.string nm) (.string ⟨#[]⟩) (.int .i64 nn) (.int .i64 xx) (.slice none 0 0) = W6 at *
      obtain ⟨d6, f6⟩ := HSix.out.facts
      refine bodyPost_ret (v := .agg #[.int .i64 5, .string nm, .string ⟨#[]⟩, .int .i64 nn, .int .i64 xx, .slice none 0 0]) (by simp [results, Tryz.results113, go_sem, d6]) rfl ?_
      exact HFn.out
  refine AllReadyH.cons (o := ⟨_, _, _, _, _, _⟩) rfl (fun K hK => ?_) AllReadyH.nil
  go_simp
  have HX5 := Lib.hid (Has.new (w.alloc (.cells zEx 24)) 24 zEx); have HS5 := Lib.hid ((HS0.out.drew).alloc (.cells zEx 24)); have HB5 := Lib.hid ((HB0.out).alloc (.cells zEx 24))
  rw [show (w.alloc (.cells zEx 24)).heap.size = w.heap.size + 1 from World.size_alloc _ _] at HX5
  refine hK.out _ _ (HB5.out.cell 0) (fun hHeld => ?_)
  clear hK K
  try simp only [Act.put, List.setIfInBounds_toArray, List.set_cons_zero, List.set_cons_succ]
  refine wpAnyH_ready (rs := [1]) (by kernel_rfl) (by simp) ?_
  refine AllReadyH.cons (o := ⟨_, _, _, _, _, _⟩) rfl (fun K hK => ?_) AllReadyH.nil
  go_simp
  go_at_call 44; refine (pname_any g E l _ (HS5.out).par).mono ?_; rintro e w2 hd; rcases hd.cases with ⟨er, at', hq, rfl, ha⟩ | ⟨nm, r, v, hq, rfl, rfl, ha, hpr⟩
  (exact ⟨rfl, Rd.bad (by unfold limitP; rw [hq]; rfl) ((HS5.out).aw.trans ha)⟩)
  have HQ1 := Lib.hid hq; have HS1 := Lib.hid ((HS5.out).next hlt ha hpr); have HB1 := Lib.hid ((HB5.out).aw ha hpg hpg)
  have HX1 := Lib.hid ((HX5.out).aw ha (by omega) (by omega))
  clear hq ha hpr hd
  refine hK.out _ _ (HB1.out.cell 0) (fun hHeld => ?_)
  clear hK K
  try simp only [Act.put, List.setIfInBounds_toArray, List.set_cons_zero, List.set_cons_succ]
  refine wpAnyH_ready (rs := [3]) (by kernel_rfl) (by simp) ?_
  refine AllReadyH.cons (o := ⟨_, _, _, _, _, _⟩) rfl (fun K hK => ?_) AllReadyH.nil
  go_simp
  go_at_call 114; refine (number_any w0 hv g E 0 r _ ((HS1.out).aw.below hb0 hg hg) (HS1.out).par).mono ?_; rintro e w4 hd; rcases hd.cases with ⟨er, at', hq, rfl, ha⟩ | ⟨nn, r2, v, hq, rfl, rfl, ha, hpr⟩
  (exact ⟨rfl, Rd.bad (by unfold limitP; rw [HQ1.out]; show ((numP E 0 r).bind _) = _; rw [hq]; rfl) ((HS1.out).aw.trans ha)⟩)
  have HQ2 := Lib.hid hq; have HS3 := Lib.hid ((HS1.out).next hlt ha hpr); have HB3 := Lib.hid ((HB1.out).aw ha hpg hpg)
  have HX3 := Lib.hid ((HX1.out).aw ha (by have := HS1.out.lt; omega) (by have := HS1.out.lt; omega)); obtain ⟨dx, fx⟩ := HX3.out.facts
  clear hq ha hpr hd
  refine hK.out _ _ (HB3.out.cell 0) (fun hHeld => ?_)
  clear hK K
  try simp only [Act.put, List.setIfInBounds_toArray, List.set_cons_zero, List.set_cons_succ]
  refine plI [(4, false)] ?_
  repeat ((first | ((with_reducible show Plan ((_, true) :: _) _); refine plF ?_) | (refine plR (v := ?_) ?_ ?_; rotate_left; focus (intro W hSW; (try dsimp only at hSW); go_simp; all_goals (with_reducible rfl)))); try simp only [Act.put, List.setIfInBounds_toArray, List.set_cons_zero, List.set_cons_succ])
  refine plE ?_
  refine wpAnyH_ready (rs := [6]) (by kernel_rfl) (by simp) ?_
  refine AllReadyH.cons (o := ⟨_, _, _, _, _, _⟩) rfl (fun K hK => ?_) AllReadyH.nil
  go_simp
  have HB6 := Lib.hid (show Has (six w4 (w.heap.size + 1) (.int .i64 5) (.string nm) (.string ⟨#[]⟩) (.int .i64 nn) (.int .i64 0) (.slice none 0 0)) bp 49 #[.pointer (some ⟨g, 0, none⟩)] from (six_old _ _ _ _ _ _ _ _ (by omega)).trans HB3.out)
  have HX6 := Lib.hid (six_has HX3.out (.int .i64 5) (.string nm) (.string ⟨#[]⟩) (.int .i64 nn) (.int .i64 0) (.slice none 0 0)); have HS6 := Lib.hid (show StP w g E 24 zEx r2 (six w4 (w.heap.size + 1) (.int .i64 5) (.string nm) (.string ⟨#[]⟩) (.int .i64 nn) (.int .i64 0) (.slice none 0 0)) from ⟨six_aw (HS3.out).aw (.inr (.inr (by omega))) _ _ _ _ _ _, six_par (HS3.out).par (by omega) _ _ _ _ _ _, (six_old _ _ _ _ _ _ _ _ (by omega)).trans (HS3.out).res⟩); have HLB := Lib.hid (show w.heap.size < w.heap.size + 1 by omega)
  refine hK.out _ _ (HB6.out.cell 0) (fun hHeld => ?_)
  clear hK K
  try simp only [Act.put]
  refine wpAnyH_done (by kernel_rfl) ?_ _
  clear hHeld
  change Exit.then _ _ _ _ (six w4 (w.heap.size + 1) (.int .i64 5) (.string nm) (.string ⟨#[]⟩) (.int .i64 nn) (.int .i64 0) (.slice none 0 0))
  generalize six w4 (w.heap.size + 1) (.int .i64 5) (.string nm) (.string ⟨#[]⟩) (.int .i64 nn) (.int .i64 0) (.slice none 0 0) = W7 at *
  generalize w.heap.size + 1 = B at *
  have hlb := HLB.out
  have hnb1 : ¬ B = w.heap.size := (by omega)
  have hnb2 : ¬ w.heap.size = B := (by omega)
  obtain ⟨db, fb⟩ := HB6.out.facts
  obtain ⟨d7, f7⟩ := HX6.out.facts
  obtain ⟨dr, fr⟩ := HS6.out.res.facts
  clear HS0 HB0 HS1 HB1 HS3 HB3 HX5 HS5 HB5
  cases hsk : skipB wPlus r2 with
  | false =>
    go_wp2_with (go_at_call 71; refine (skip_no g E wPlus r2 _ HS6.out.par hsk).mono ?_; rintro e w8 ⟨rfl, rfl⟩)
    have HSix := Lib.hid (six_has (HS6.out).res (.int .i64 5) (.string nm) (.string ⟨#[]⟩) (.int .i64 nn) (.int .i64 0) (.slice none 0 0))
    have HFn := Lib.hid (show Rd (ExR w.heap.size) w g E (limitP E l) (.returned (.agg #[.int .i64 5, .string nm, .string ⟨#[]⟩, .int .i64 nn, .int .i64 0, .slice none 0 0])) (six (w8) w.heap.size (.int .i64 5) (.string nm) (.string ⟨#[]⟩) (.int .i64 nn) (.int .i64 0) (.slice none 0 0)) from Rd.ok (x := .mk 5 nm ⟨#[]⟩ nn 0 []) (r := r2) (by unfold limitP; rw [HQ1.out]; show ((numP E 0 r).bind _) = _; rw [HQ2.out]; show (if skipB wPlus r2 then _ else _) = _; rw [if_neg (by rw [hsk]; exact Bool.false_ne_true)]; rfl) (six_aw (HS6.out).aw (.inr (.inr (Nat.le_refl _))) _ _ _ _ _ _) ⟨_, rfl, LayS.nil _ _⟩ (six_par (HS6.out).par hlt _ _ _ _ _ _))
    show bodyPost _ _ _ _ _ (six (w8) w.heap.size (.int .i64 5) (.string nm) (.string ⟨#[]⟩) (.int .i64 nn) (.int .i64 0) (.slice none 0 0))
    generalize six (w8) w.heap.size (.int .i64 5) (.string nm) (.string ⟨#[]⟩) (.int .i64 nn) (.int .i64 0) (.slice none 0 0) = W6 at *
    obtain ⟨d6, f6⟩ := HSix.out.facts
    refine bodyPost_ret (v := .agg #[.int .i64 5, .string nm, .string ⟨#[]⟩, .int .i64 nn, .int .i64 0, .slice none 0 0]) (by simp [results, Tryz.results113, go_sem, d6]) rfl ?_
    exact HFn.out
  | true =>
    go_wp2_with (first
      | (go_at_call 71; refine (skip_yes g E wPlus r2 _ HS6.out.par hsk).mono ?_; rintro e w8 ⟨rfl, ha, hpr⟩; have HS8 := Lib.hid (HS6.out.next hlt ha hpr); have HX8 := Lib.hid (HX6.out.aw ha (by omega) (by omega)); obtain ⟨dc, fc⟩ := (HB6.out.aw ha hpg hpg).facts; clear ha hpr)
      | (go_at_call 114; refine (number_any w0 hv g E 0 r2.tail _ ((HS8.out).aw.below hb0 hg hg) (HS8.out).par).mono ?_; rintro e w9 hd; rcases hd.cases with ⟨er, at', hq, rfl, ha⟩ | ⟨xx, r3, v, hq, rfl, rfl, ha, hpr⟩; (exact ⟨rfl, Rd.bad (by unfold limitP; rw [HQ1.out]; show ((numP E 0 r).bind _) = _; rw [HQ2.out]; show (if skipB wPlus r2 then _ else _) = _; rw [if_pos hsk]; show ((numP E 0 r2.tail).bind _) = _; rw [hq]; rfl) ((HS8.out).aw.trans ha)⟩); have HQ3 := Lib.hid hq; have HX9 := Lib.hid (HX8.out.aw ha (by omega) (by omega)); have HS9 := Lib.hid (HS8.out.next hlt ha hpr); obtain ⟨dx, fx⟩ := HX9.out.facts; obtain ⟨ds, fs⟩ := HS9.out.res.facts; clear hq ha hpr hd))
    have HST := Lib.hid (show StP w g E 24 zEx r3 (w9.setCell ⟨B, 4, none⟩ (.int .i64 xx)) from ⟨HS9.out.aw.set _ 4 (.inr (.inr (by omega))) _, HS9.out.par.on fun b hb => heap_setCell_other w9 ⟨B, 4, none⟩ b _ (by show b ≠ B; omega), HS9.out.res.far ⟨B, 4, none⟩ (by show w.heap.size ≠ B; omega) _⟩)
    have HSix := Lib.hid (six_has (HST.out).res (.int .i64 5) (.string nm) (.string ⟨#[]⟩) (.int .i64 nn) (.int .i64 xx) (.slice none 0 0))
    have HFn := Lib.hid (show Rd (ExR w.heap.size) w g E (limitP E l) (.returned (.agg #[.int .i64 5, .string nm, .string ⟨#[]⟩, .int .i64 nn, .int .i64 xx, .slice none 0 0])) (six (w9.setCell ⟨B, 4, none⟩ (.int .i64 xx)) w.heap.size (.int .i64 5) (.string nm) (.string ⟨#[]⟩) (.int .i64 nn) (.int .i64 xx) (.slice none 0 0)) from Rd.ok (x := .mk 5 nm ⟨#[]⟩ nn xx []) (r := r3) (by unfold limitP; rw [HQ1.out]; show ((numP E 0 r).bind _) = _; rw [HQ2.out]; show (if skipB wPlus r2 then _ else _) = _; rw [if_pos hsk]; show ((numP E 0 r2.tail).bind _) = _; rw [HQ3.out]; rfl) (six_aw (HST.out).aw (.inr (.inr (Nat.le_refl _))) _ _ _ _ _ _) ⟨_, rfl, LayS.nil _ _⟩ (six_par (HST.out).par hlt _ _ _ _ _ _))
    show bodyPost _ _ _ _ _ (six (w9.setCell ⟨B, 4, none⟩ (.int .i64 xx)) w.heap.size (.int .i64 5) (.string nm) (.string ⟨#[]⟩) (.int .i64 nn) (.int .i64 xx) (.slice none 0 0))
    generalize six (w9.setCell ⟨B, 4, none⟩ (.int .i64 xx)) w.heap.size (.int .i64 5) (.string nm) (.string ⟨#[]⟩) (.int .i64 nn) (.int .i64 xx) (.slice none 0 0) = W6 at *
    obtain ⟨d6, f6⟩ := HSix.out.facts
    refine bodyPost_ret (v := .agg #[.int .i64 5, .string nm, .string ⟨#[]⟩, .int .i64 nn, .int .i64 xx, .slice none 0 0]) (by simp [results, Tryz.results113, go_sem, d6]) rfl ?_
    exact HFn.out
end Go.Proofs.YtppoeiofdmlpeaaGreatDoor
