/- What a listed package variable's datum says of its cells. No program in sight. -/
import Derived.LaidMore
import Derived.OpenShut
import Derived.ProofKit
import Derived.ChangeArms
import Derived.ChangeBears2
namespace Go.Proofs.YtchoiimmcgkimaaDoor
open Go.ChangeShapes Go.WideShapes
set_option linter.unusedVariables false
set_option maxRecDepth 100000
set_option linter.unusedSimpArgs false

section
variable {H : Type} {enc : TypeId × Value → H} {P : Program} {W : World} {b : Nat} {sp : Nat → Bool} {hd : Bool}
theorem trod_ints {n : Nat} {k : IntKind} {e t : TypeId} {zs : List Int} (hu : P.underlying t = some (.array n e)) (he : P.underlying e = some (.int k)) (hc : P.cellsOf e = 1) (hct : P.cellsOf t = n) {fuel : Nat} {cs : List Value} {p : List MemPlace}
    (h : DataW.trod enc P W b sp hd fuel t cs = some (.agg (zs.map fun z => .lit (.int k z)), p)) : cs = zs.map (.int k) := by
  obtain ⟨xs, m, rfl, hx, hl, hn, hel⟩ := DataW.trod_array hu h
  simp only [Prod.mk.injEq, DataW.agg.injEq] at hx
  have hx1 := hx.1
  have hzn : zs.length = n := by have := congrArg List.length hx1; simpa [hn] using this
  apply List.ext_getElem?
  intro i
  by_cases hi : i < n
  · have h1 := hel i hi
    rw [hc, Nat.mul_one, List.getElem?_eq_getElem (by omega)] at h1
    obtain ⟨z, e1, e2, _⟩ := DataW.trod_int he h1
    have e3 : (zs.map fun z => (DataW.lit (.int k z) : DataW H))[i]? = (xs.map (·.1))[i]? := by rw [hx1]
    rw [List.getElem?_map, List.getElem?_map, List.getElem?_eq_getElem (show i < zs.length by omega), List.getElem?_eq_getElem (show i < xs.length by omega), e2] at e3
    simp at e3
    have e4 : ((cs.drop i).take 1)[0]? = some (.int k z) := by rw [e1]; rfl
    rw [List.getElem?_take_of_lt (by omega), List.getElem?_drop, Nat.add_zero] at e4
    rw [e4, List.getElem?_map, List.getElem?_eq_getElem (show i < zs.length by omega), Option.map_some, e3]
  · rw [List.getElem?_eq_none (by omega), List.getElem?_eq_none (by simp; omega)]
end
end Go.Proofs.YtchoiimmcgkimaaDoor
