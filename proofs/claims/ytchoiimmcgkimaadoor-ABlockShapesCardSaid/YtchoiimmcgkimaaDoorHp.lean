/- What lies in memory: objects (each with blocks of its own), plain blocks, and what was there before. No program in sight. -/
import Derived.WalkKit
import Derived.Deep.Draws
namespace Go.Proofs.YtchoiimmcgkimaaDoor
open Go.RowKit
set_option linter.unusedVariables false
set_option maxRecDepth 100000

/-- An object: what it says of the world, on blocks G of its own. -/
structure AObj where
  P : World → (Nat → Prop) → Prop
  loc : ∀ {w w' : World} {G G' : Nat → Prop}, (∀ c, G c → w'.heap[c]? = w.heap[c]?) → (∀ c, G c → G' c) → P w G → P w' G'

/-- w has, above what W had: the objects L and the plain blocks F. -/
structure Hp (W w : World) (L : List AObj) (F : List (Nat × Obj)) : Prop where
  below : Below W.heap.size W w
  own : ∃ o : Nat → Option Nat, (∀ c, o c ≠ none → W.heap.size ≤ c ∧ c < w.heap.size) ∧
    (∀ p ∈ F, W.heap.size ≤ p.1 ∧ o p.1 = none ∧ w.heap[p.1]? = some p.2) ∧ (F.map (·.1)).Nodup ∧
    (∀ (i : Nat) (x : AObj), L[i]? = some x → x.P w (fun c => o c = some i))

theorem Hp.start (W : World) : Hp W W [] [] :=
  ⟨Below.refl _ _, fun _ => none, fun c h => absurd rfl h, fun p hp => by simp at hp, by simp, fun i x h => by simp at h⟩

/-- A step that leaves alone all that was there. -/
theorem Hp.same {W w w' : World} {L : List AObj} {F : List (Nat × Obj)} (h : Hp W w L F) (hb : Below w.heap.size w w') : Hp W w' L F := by
  obtain ⟨b, o, ho, hF, hn, hL⟩ := h
  refine ⟨b.trans (hb.mono b.size), o, fun c hc => ⟨(ho c hc).1, Nat.lt_of_lt_of_le (ho c hc).2 hb.size⟩, fun p hp => ?_, hn, fun i x hx => ?_⟩
  · obtain ⟨h1, h2, h3⟩ := hF p hp
    exact ⟨h1, h2, (hb.block _ (lt_of_block h3)).trans h3⟩
  · exact x.loc (fun c hc => hb.block c (ho c (by rw [hc]; simp)).2) (fun _ h => h) (hL i x hx)

theorem Hp.drew {W w : World} {L : List AObj} {F : List (Nat × Obj)} (h : Hp W w L F) : Hp W w.drew L F := h.same (Below.refl _ _).drew

theorem below_drewN (w : World) (n : Nat) : Below w.heap.size w (w.drewN n) := ⟨rfl, rfl, rfl, Nat.le_refl _, fun _ _ => rfl⟩
theorem Hp.drewN {W w : World} {L : List AObj} {F : List (Nat × Obj)} (h : Hp W w L F) (n : Nat) : Hp W (w.drewN n) L F := h.same (below_drewN w n)

/-- A new block, forgotten. -/
theorem Hp.lost {W w : World} {L : List AObj} {F : List (Nat × Obj)} (h : Hp W w L F) (x : Obj) : Hp W (w.alloc x) L F :=
  h.same ((Below.refl _ _).alloc (Nat.le_refl _) x)

/-- A new plain block. -/
theorem Hp.alloc {W w : World} {L : List AObj} {F : List (Nat × Obj)} (h : Hp W w L F) (x : Obj) : Hp W (w.alloc x) L ((w.heap.size, x) :: F) := by
  obtain ⟨b, o, ho, hF, hn, hL⟩ := h.lost x
  obtain ⟨b0, o0, ho0, hF0, hn0, hL0⟩ := h
  refine ⟨b, o0, fun c hc => ⟨(ho0 c hc).1, Nat.lt_of_lt_of_le (ho0 c hc).2 (by simp)⟩, fun p hp => ?_, ?_, fun i y hy => ?_⟩
  · rcases List.mem_cons.1 hp with rfl | hp
    · refine ⟨b0.size, ?_, by show (w.heap.push x)[w.heap.size]? = some x; simp⟩
      cases e : o0 w.heap.size with
      | none => rfl
      | some k => exact absurd (ho0 w.heap.size (by rw [e]; simp)).2 (by omega)
    · obtain ⟨h1, h2, h3⟩ := hF0 p hp
      exact ⟨h1, h2, (Below.heap_alloc _ _ _ (lt_of_block h3)).trans h3⟩
  · simp only [List.map_cons, List.nodup_cons]
    refine ⟨fun hm => ?_, hn0⟩
    obtain ⟨p, hp, he⟩ := List.mem_map.1 hm
    have := lt_of_block (hF0 p hp).2.2
    omega
  · exact y.loc (fun c hc => Below.heap_alloc _ _ _ (ho0 c (by rw [hc]; simp)).2) (fun _ h => h) (hL0 i y hy)

theorem Hp.drop {W w : World} {L : List AObj} {F : List (Nat × Obj)} {p : Nat × Obj} (h : Hp W w L (p :: F)) : Hp W w L F := by
  obtain ⟨b, o, ho, hF, hn, hL⟩ := h
  exact ⟨b, o, ho, fun q hq => hF q (List.mem_cons_of_mem _ hq), (List.nodup_cons.1 (by simpa using hn)).2, hL⟩

/-- The objects' list may lose its first one. -/
theorem Hp.tail {W w : World} {L : List AObj} {F : List (Nat × Obj)} {y : AObj} (h : Hp W w (y :: L) F) : Hp W w L F := by
  obtain ⟨b, o, ho, hF, hn, hL⟩ := h
  refine ⟨b, fun c => match o c with | some (k + 1) => some k | _ => none, fun c hc => ho c (fun e => hc (by simp only [e])), fun p hp => ?_, hn, fun i x hx => ?_⟩
  · obtain ⟨g1, g2, g3⟩ := hF p hp
    exact ⟨g1, by simp only [g2], g3⟩
  · refine x.loc (fun _ _ => rfl) (fun c hc => ?_) (hL (i + 1) x (by simpa using hx))
    simp only [hc]

theorem Hp.blk {W w : World} {L : List AObj} {F : List (Nat × Obj)} (h : Hp W w L F) {p : Nat × Obj} (hp : p ∈ F) : w.heap[p.1]? = some p.2 := by
  obtain ⟨b, o, ho, hF, hn, hL⟩ := h
  exact (hF p hp).2.2

theorem Hp.old {W w : World} {L : List AObj} {F : List (Nat × Obj)} (h : Hp W w L F) : ∀ b k, b < W.heap.size → w.cell? ⟨b, k, none⟩ = W.cell? ⟨b, k, none⟩ :=
  fun b k hb => h.below.cell (p := ⟨b, k, none⟩) hb

theorem Hp.below_of {W w : World} {L : List AObj} {F : List (Nat × Obj)} (h : Hp W w L F) : Below W.heap.size W w := h.below

/-- A store into a plain block. -/
theorem Hp.set {W w : World} {L : List AObj} {F : List (Nat × Obj)} (h : Hp W w L F) (j : Nat) {b : Nat} {cs : Array Value} {t : TypeId} (hj : F[j]? = some (b, .cells cs t (0, 0))) (k : Nat) (v : Value) :
    Hp W (w.setCell ⟨b, k, none⟩ v) L (F.set j (b, .cells (cs.setIfInBounds k v) t (0, 0))) := by
  obtain ⟨bl, o, ho, hF, hn, hL⟩ := h
  have hmem : (b, Obj.cells cs t (0, 0)) ∈ F := List.mem_of_getElem? hj
  obtain ⟨h1, h2, h3⟩ := hF _ hmem
  have hjl := (List.getElem?_eq_some_iff.1 hj).1
  refine ⟨bl.setCell h1 v, o, fun c hc => by have := ho c hc; simpa [World.setCell] using this, fun p hp => ?_, ?_, fun i x hx => ?_⟩
  · obtain ⟨i, hi⟩ := List.mem_iff_getElem?.1 hp
    by_cases e : i = j
    · subst e
      rw [List.getElem?_set_self hjl] at hi
      obtain rfl := Option.some.inj hi
      refine ⟨h1, h2, ?_⟩
      have hlt := lt_of_block h3
      have h3' : w.heap[b] = .cells cs t (0, 0) := by simpa [Array.getElem?_eq_getElem hlt] using h3
      show (w.heap.modify b _)[b]? = _
      rw [Array.getElem?_eq_getElem (by simpa using hlt), Array.getElem_modify_self, h3']
      rfl
    · rw [List.getElem?_set_ne (fun h => e h.symm)] at hi
      have hpm := List.mem_of_getElem? hi
      obtain ⟨g1, g2, g3⟩ := hF p hpm
      refine ⟨g1, g2, (Below.heap_setCell _ _ _ _ ?_).trans g3⟩
      intro eb
      have hi' := (List.getElem?_eq_some_iff.1 hi).1
      have e1 : (F.map (·.1))[i]'(by simpa using hi') = (F.map (·.1))[j]'(by simpa using hjl) := by
        simp only [List.getElem_map]
        rw [(List.getElem?_eq_some_iff.1 hi).2, (List.getElem?_eq_some_iff.1 hj).2]; exact eb
      exact e (List.getElem_inj hn |>.1 e1)
  · have : (F.set j (b, Obj.cells (cs.setIfInBounds k v) t (0, 0))).map (·.1) = F.map (·.1) := by
      rw [List.map_set]
      apply List.ext_getElem?
      intro i
      rw [List.getElem?_set]
      split
      · rename_i e
        subst e
        rw [List.getElem?_map, hj]
        simp [hjl]
      · rfl
    rw [this]; exact hn
  · refine x.loc (fun c hc => Below.heap_setCell _ _ _ _ ?_) (fun _ h => h) (hL i x hx)
    intro e
    subst e
    rw [h2] at hc; simp at hc

/-- The i-th object is turned; what is new becomes its own. -/
theorem Hp.turn {W w : World} {L : List AObj} {F : List (Nat × Obj)} (h : Hp W w L F) (i : Nat) {x : AObj} (hi : L[i]? = some x) :
    ∃ G : Nat → Prop, x.P w G ∧ (∀ c, G c → W.heap.size ≤ c ∧ c < w.heap.size) ∧
      ∀ (w' : World) (x' : AObj), w'.os = w.os → w'.tape = w.tape → w'.output = w.output → w.heap.size ≤ w'.heap.size → (∀ c, c < w.heap.size → ¬ G c → w'.heap[c]? = w.heap[c]?) →
        x'.P w' (fun c => G c ∨ (w.heap.size ≤ c ∧ c < w'.heap.size)) → Hp W w' (L.set i x') F := by
  obtain ⟨b, o, ho, hF, hn, hL⟩ := h
  have hil := (List.getElem?_eq_some_iff.1 hi).1
  refine ⟨fun c => o c = some i, hL i x hi, fun c hc => ho c (by rw [hc]; simp), fun w' x' e1 e2 e3 hs hk hP => ?_⟩
  refine ⟨⟨e1.trans b.os, e2.trans b.tape, e3.trans b.output, Nat.le_trans b.size hs, fun k hk' => ?_⟩, fun c => if c < w.heap.size then o c else if c < w'.heap.size then some i else none, fun c hc => ?_, fun p hp => ?_, hn, fun k y hy => ?_⟩
  · rw [hk k (Nat.lt_of_lt_of_le hk' b.size) (fun e => by have := (ho k (by rw [e]; simp)).1; omega)]
    exact b.block k hk'
  · have hbs := b.size
    replace hc : (if c < w.heap.size then o c else if c < w'.heap.size then some i else none) ≠ none := hc
    by_cases h1 : c < w.heap.size
    · rw [if_pos h1] at hc; have := ho c hc; omega
    · rw [if_neg h1] at hc
      by_cases h2 : c < w'.heap.size
      · omega
      · rw [if_neg h2] at hc; exact absurd rfl hc
  · obtain ⟨g1, g2, g3⟩ := hF p hp
    have hlt := lt_of_block g3
    refine ⟨g1, by simp [hlt, g2], (hk _ hlt (by show ¬ o p.1 = some i; rw [g2]; simp)).trans g3⟩
  · by_cases e : k = i
    · subst e
      rw [List.getElem?_set_self hil] at hy
      obtain rfl := Option.some.inj hy
      refine x'.loc (fun _ _ => rfl) (fun c hc => ?_) hP
      rcases hc with hc | ⟨h1, h2⟩
      · have := ho c (by rw [hc]; simp)
        simp [this.2, hc]
      · simp [Nat.not_lt.2 h1, h2]
    · rw [List.getElem?_set_ne (fun h => e h.symm)] at hy
      refine y.loc (fun c hc => ?_) (fun c hc => ?_) (hL k y hy)
      · have hc' := ho c (by rw [hc]; simp)
        exact hk c hc'.2 (by show ¬ o c = some i; rw [hc]; simpa using e)
      · have hc' := ho c (by rw [hc]; simp)
        simp [hc'.2, hc]

/-- A new object out of new blocks: it comes first. -/
theorem Hp.make {W w : World} {L : List AObj} {F : List (Nat × Obj)} (h : Hp W w L F) {w' : World} {x : AObj} (hb : Below w.heap.size w w')
    (hP : x.P w' (fun c => w.heap.size ≤ c ∧ c < w'.heap.size)) : Hp W w' (x :: L) F := by
  obtain ⟨b, o, ho, hF, hn, hL⟩ := h
  refine ⟨b.trans (hb.mono b.size), fun c => if c < w.heap.size then (o c).map (· + 1) else if c < w'.heap.size then some 0 else none, fun c hc => ?_, fun p hp => ?_, hn, fun k y hy => ?_⟩
  · have hbs := b.size
    replace hc : (if c < w.heap.size then (o c).map (· + 1) else if c < w'.heap.size then some 0 else none) ≠ none := hc
    by_cases h1 : c < w.heap.size
    · rw [if_pos h1] at hc; have := ho c (fun e => hc (by rw [e]; rfl)); have := hb.size; omega
    · rw [if_neg h1] at hc
      by_cases h2 : c < w'.heap.size
      · omega
      · rw [if_neg h2] at hc; exact absurd rfl hc
  · obtain ⟨g1, g2, g3⟩ := hF p hp
    have hlt := lt_of_block g3
    exact ⟨g1, by simp [hlt, g2], (hb.block _ hlt).trans g3⟩
  · cases k with
    | zero =>
      simp at hy
      subst hy
      refine x.loc (fun _ _ => rfl) (fun c ⟨h1, h2⟩ => ?_) hP
      simp [Nat.not_lt.2 h1, h2]
    | succ k =>
      simp at hy
      refine y.loc (fun c hc => ?_) (fun c hc => ?_) (hL k y hy)
      · have hc' := ho c (by rw [hc]; simp)
        exact hb.block c hc'.2
      · have hc' := ho c (by rw [hc]; simp)
        simp [hc'.2, hc]

/-- The places of the first objects. -/
theorem at0 {a : AObj} {l : List AObj} : (a :: l)[0]? = some a := rfl
theorem at1 {a b : AObj} {l : List AObj} : (a :: b :: l)[1]? = some b := rfl
theorem at2 {a b c : AObj} {l : List AObj} : (a :: b :: c :: l)[2]? = some c := rfl
theorem at3 {a b c d : AObj} {l : List AObj} : (a :: b :: c :: d :: l)[3]? = some d := rfl
theorem set0 {a x : AObj} {l : List AObj} : (a :: l).set 0 x = x :: l := rfl
theorem set1 {a b x : AObj} {l : List AObj} : (a :: b :: l).set 1 x = a :: x :: l := rfl
theorem set2 {a b c x : AObj} {l : List AObj} : (a :: b :: c :: l).set 2 x = a :: b :: x :: l := rfl
theorem set3 {a b c d x : AObj} {l : List AObj} : (a :: b :: c :: d :: l).set 3 x = a :: b :: c :: x :: l := rfl

end Go.Proofs.YtchoiimmcgkimaaDoor
