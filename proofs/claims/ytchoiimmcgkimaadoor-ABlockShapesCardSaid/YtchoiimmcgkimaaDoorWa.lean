/- alive. -/
import Derived.Test.YtchoiimmcgkimaaDoorWe
namespace Go.Proofs.YtchoiimmcgkimaaDoor
open Go.RowKit Go.Shelf
set_option linter.unusedVariables false
set_option maxRecDepth 100000
set_option linter.unusedSimpArgs false

section
variable {W w : World} {L : List AObj} {F : List (Nat × Obj)}
theorem equal_is (h : Hp W w L F) {sp sq : Option Addr} {n m c d g1 o1 g2 o2 : Nat} {a b : List (Int × Int)} (ha : BnIn w sp n g1 o1 a) (hb : BnIn w sq m g2 o2 b) {r : Bool} (hr : decide (a = b) = r) :
    Calls Tryd.prog 7 #[.slice sp n c, .slice sq m d] w fun e w' => e = .returned (.bool r) ∧ Hp W w' L F ∧ ∀ p, w'.cell? p = w.cell? p := by
  subst hr
  exact equal_hp h ha hb
end

end Go.Proofs.YtchoiimmcgkimaaDoor
