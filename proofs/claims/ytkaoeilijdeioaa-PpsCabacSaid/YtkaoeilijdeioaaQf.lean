/- A drawn region whose first operations come in a forced order, and whose other ones are quiet: part by part. No program in sight. -/
import Derived.Test.YtkaoeilijdeioaaQuiet
import Derived.Orders
import Derived.KernelRfl
import Derived.BigQuiet
namespace Go.Proofs.Ytkaoeilijdeioaa
open Go.RowKit
set_option linter.unusedVariables false
set_option maxRecDepth 100000
set_option linter.unusedSimpArgs false

theorem wp_region_lit {P : Program} {id : Nat} {Q : Exit → Act → World → Prop} {a : Act} {w : World} {l : List Oper} (hm : P.follows .mixedOrders = true)
    (h : wpAny P .any l.toArray Q l.length (List.toArray (List.replicate l.length false)) a w.drew) : (Code.region id l.toArray true).wp P Q a w := by
  refine wp_region_any hm ?_
  simpa using h

/-- What is left of the operations is quiet. -/
theorem wpAny_rest {P : Program} {W w : World} {L : List AObj} {F : List (Nat × Obj)} (hS : Hp W w L F) {Q : Exit → Act → World → Prop} {a : Act} {l : List Oper} (k : Nat) {listed : Array Bool} {fuel : Nat} (hf : fuel = (l.drop k).length)
    (hs : Region.noSelect l.toArray = true) (hB : Region.lexFrom .any l.toArray (l.drop k).length k listed = true)
    (h : wpQuiet P l.toArray (fun w' => ∃ x : HpW W L F, w' = x.w) (fun a' => ∀ w', (∃ x : HpW W L F, w' = x.w) → Q .normal a' w') (l.drop k) a) : wpAny P .any l.toArray Q fuel listed a w := by
  subst hf
  refine wpAny_of_quiet (C := fun w' => ∃ x : HpW W L F, w' = x.w) (Q := fun a' => ∀ w', (∃ x : HpW W L F, w' = x.w) → Q .normal a' w') (fun _ w' hw' h => h w' hw') _ _ _ _ ⟨⟨_, hS⟩, rfl⟩ ?_
  exact wpAnyQ_lex hs _ k _ _ (fun j => by simp) hB h

/-- One operation that may be taken first, whatever the world. -/
theorem wpAny_takeK {P : Program} {Q : Exit → Act → World → Prop} {ops : Array Oper} {i : Nat} {oi : Oper} {fuel : Nat} {listed : Array Bool} {a : Act} {w : World} (hi : ops[i]? = some oi)
    (hs : Region.noSelect ops = true) (hf : Region.free .any ops listed i = true) (hr : (Region.ready .any ops listed).contains i = true)
    (hQ : ∀ c a v w, Q (.panic c) (a.put oi.dst v) w → Q (.panic c) a w)
    (h : ∀ K : Act → World → Prop, (∀ a w, wpAny P .any ops Q fuel (listed.setIfInBounds i true) a w → K a w) → ∃ v, Yields P ops oi v a ∧ K (a.put oi.dst v) w) : wpAny P .any ops Q (fuel + 1) listed a w := by
  obtain ⟨v, hy, hK⟩ := h _ (fun _ _ h => h)
  exact wpAny_take hi hs hf hr (fun c a w => hQ c a v w) hy hK

/-- The one operation that may come now. -/
theorem wpAny_oneK {P : Program} {Q : Exit → Act → World → Prop} {ops : Array Oper} {i : Nat} {oi : Oper} {fuel : Nat} {listed : Array Bool} {a : Act} {w : World} (hi : ops[i]? = some oi)
    (hr : Region.ready .any ops listed = [i])
    (h : ∀ K : Act → World → Prop, (∀ a w, wpAny P .any ops Q fuel (listed.setIfInBounds i true) a w → K a w) → Region.wanted oi (yielded ops a.tmps) = true ∧ oi.wp P a w K Q) : wpAny P .any ops Q (fuel + 1) listed a w := by
  refine wpAny_all hr (by simp) (fun j hj => ?_)
  obtain rfl := List.mem_singleton.1 hj
  obtain ⟨h1, h2⟩ := h _ (fun _ _ h => h)
  unfold wpOp
  simp only [hi, h1, if_true]
  exact Or.inl h2
end Go.Proofs.Ytkaoeilijdeioaa
