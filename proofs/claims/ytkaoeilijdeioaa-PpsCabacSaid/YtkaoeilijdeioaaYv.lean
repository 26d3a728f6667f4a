/- Puts of signed numbers; the payload of a picture parameter set. -/
import Derived.Test.YtkaoeilijdeioaaPv
import Derived.Test.YtkaoeilijdeioaaPp
import Derived.Test.YtkaoeilijdeioaaGp
import Derived.Test.YtkaoeilijdeioaaGr
namespace Go.Proofs.Ytkaoeilijdeioaa
open Go.RowKit
set_option linter.unusedVariables false
set_option maxRecDepth 100000
set_option linter.unusedSimpArgs false

theorem seN_small {t : Int} (h1 : -1000 ≤ t) (h2 : t ≤ 1000) : seN t ≤ 2000 := by unfold seN; split <;> omega
section
variable {W w : World} {L : List AObj} {F : List (Nat × Obj)} {b : Nat}
theorem pse_is (h : Hp W w L F) (k : Nat) {B : List Bool} (hk : L[k]? = some (aWr b B)) (hB : B.length ≤ 2000) {v : Int} (t : Int) (hv : v = t) (h1 : -1000 ≤ t) (h2 : t ≤ 1000) {B' : List Bool} (hx : B ++ ueB (seN t) = B') :
    Calls Try.prog 24 #[.pointer (some ⟨b, 0, none⟩), .int .i64 v] w fun e w' => e = .returned (.int .i64 0) ∧ Hp W w' (L.set k (aWr b B')) F := by
  subst hv hx
  have e1 : pseE v = 0 := if_neg (by omega)
  have e2 : pseB B v = B ++ ueB (seN v) := if_pos e1
  have := gput_se h k hk (by omega) v (by omega) (by omega)
  rwa [e1, e2] at this
theorem qpse_is (h : Hp W w L F) (k : Nat) {B : List Bool} (hk : L[k]? = some (aQwr b B)) (hB : B.length ≤ 2000) {v : Int} (t : Int) (hv : v = t) (h1 : -1000 ≤ t) (h2 : t ≤ 1000) {B' : List Bool} (hx : B ++ ueB (seN t) = B') :
    Calls Try.prog 31 #[.pointer (some ⟨b, 0, none⟩), .int .i64 v] w fun e w' => e = .returned (.int .i64 0) ∧ Hp W w' (L.set k (aQwr b B')) F := by
  subst hv hx
  have e1 : pseE v = 0 := if_neg (by omega)
  have e2 : pseB B v = B ++ ueB (seN v) := if_pos e1
  have := qgput_se h k hk (by omega) v (by omega) (by omega)
  rwa [e1, e2] at this
end
theorem pbit_as {b : Bool} {v : Nat} (hv : b.toNat = v) (w : World) : Calls Try.prog 23 #[.bool b] w fun e w' => e = .returned (.int .u64 (v : Int)) ∧ w = w' := by
  subst hv
  cases b <;> (go_enter Try.func23, Try.ntmps23; go_wp2_with (fail); exact bodyPost_ret (results_tmp rfl _ _ _) rfl ⟨rfl, rfl⟩)
theorem rpbit_as {b : Bool} {v : Nat} (hv : b.toNat = v) (w : World) : Calls Try.prog 30 #[.bool b] w fun e w' => e = .returned (.int .u64 (v : Int)) ∧ w = w' := by
  subst hv
  cases b <;> (go_enter Try.func30, Try.ntmps30; go_wp2_with (fail); exact bodyPost_ret (results_tmp rfl _ _ _) rfl ⟨rfl, rfl⟩)

/-- The bits of a picture parameter set, and its payload. -/
def pBits (i s c a b : Nat) (q z h : Int) (d n : Nat) : List Bool := ueB i ++ ueB s ++ bitsN 1 c ++ bitsN 1 0 ++ ueB 0 ++ ueB a ++ ueB b ++ bitsN 3 0 ++ ueB (seN q) ++ ueB (seN z) ++ ueB (seN h) ++ bitsN 1 d ++ bitsN 1 n ++ bitsN 1 0
def ppB (x : PpsD) : List Bool := pBits x.id.toNat x.sps.toNat x.cab.toNat (x.refs - 1).toNat (x.refs1 - 1).toNat x.qp x.qs x.ch x.deb.toNat x.intra.toNat
def pPay (x : PpsD) : ByteArray := if okP x then pstr (tlB (ppB x)) else ⟨#[]⟩
def pErr (x : PpsD) : Int := if okP x then 0 else 3
theorem okP_bounds {x : PpsD} (h : okP x = true) : 0 ≤ x.id ∧ x.id ≤ 31 ∧ 0 ≤ x.sps ∧ x.sps ≤ 31 ∧ 1 ≤ x.refs ∧ x.refs ≤ 32 ∧ 1 ≤ x.refs1 ∧ x.refs1 ≤ 32 ∧ -26 ≤ x.qp ∧ x.qp ≤ 25 ∧ -26 ≤ x.qs ∧ x.qs ≤ 25 ∧ -12 ≤ x.ch ∧ x.ch ≤ 12 := by
  unfold okP at h
  simp only [Bool.and_eq_true, decide_eq_true_eq] at h
  obtain ⟨⟨⟨⟨⟨⟨⟨_, _⟩, _, _⟩, _, _⟩, _, _⟩, _, _⟩, _, _⟩, _, _⟩ := h
  refine ⟨?_, ?_, ?_, ?_, ?_, ?_, ?_, ?_, ?_, ?_, ?_, ?_, ?_, ?_⟩ <;> omega
end Go.Proofs.Ytkaoeilijdeioaa
