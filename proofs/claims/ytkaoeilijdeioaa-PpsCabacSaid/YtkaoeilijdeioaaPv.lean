/- Puts at known numbers; the payload of a sequence parameter set. -/
import Derived.Test.YtkaoeilijdeioaaPg
import Derived.Test.YtkaoeilijdeioaaSc
import Derived.Test.YtkaoeilijdeioaaTe
import Derived.Test.YtkaoeilijdeioaaTq
import Derived.Test.YtkaoeilijdeioaaGq
namespace Go.Proofs.Ytkaoeilijdeioaa
open Go.RowKit
set_option linter.unusedVariables false
set_option maxRecDepth 100000
set_option linter.unusedSimpArgs false

theorem ueB_len {v : Nat} (h : v ≤ 4294967294) : (ueB v).length ≤ 63 := by rw [ueB_length]; have := ueN_le h; omega
section
variable {W w : World} {L : List AObj} {F : List (Nat × Obj)} {b : Nat}
theorem put_is (h : Hp W w L F) (k : Nat) {B : List Bool} (hk : L[k]? = some (aWr b B)) (hB : B.length ≤ 2000) {n v : Int} (m t : Nat) (hn : n = (m : Int)) (hv : v = (t : Int)) (hm : m ≤ 64) (ht : t < 2 ^ m) {B' : List Bool} (hx : B ++ bitsN m t = B') :
    Calls Try.prog 22 #[.pointer (some ⟨b, 0, none⟩), .int .i64 n, .int .u64 v] w fun e w' => e = .returned (.int .i64 0) ∧ Hp W w' (L.set k (aWr b B')) F := by
  subst hn hv hx
  exact put_good h k hk (by omega) m t hm ht
theorem pue_is (h : Hp W w L F) (k : Nat) {B : List Bool} (hk : L[k]? = some (aWr b B)) (hB : B.length ≤ 2000) {v : Int} (t : Nat) (hv : v = (t : Int)) (ht : t ≤ 4294967294) {B' : List Bool} (hx : B ++ ueB t = B') :
    Calls Try.prog 21 #[.pointer (some ⟨b, 0, none⟩), .int .u64 v] w fun e w' => e = .returned (.int .i64 0) ∧ Hp W w' (L.set k (aWr b B')) F := by
  subst hv hx
  have e1 : pueE t = 0 := if_neg (by omega)
  have e2 : pueB B t = B ++ ueB t := if_pos e1
  have := gput_ue h k hk (by omega) t (by omega)
  rwa [e1, e2] at this
theorem trail_is (h : Hp W w L F) (k : Nat) {B : List Bool} (hk : L[k]? = some (aWr b B)) (hB : B.length ≤ 2000) {B' : List Bool} (hx : B ++ trB B.length = B') :
    Calls Try.prog 25 #[.pointer (some ⟨b, 0, none⟩)] w fun e w' => e = .returned (.int .i64 0) ∧ Hp W w' (L.set k (aWr b B')) F := by
  subst hx
  exact trail_any h k hk (by omega)
theorem bytes_is (h : Hp W w L F) (k : Nat) {B : List Bool} (hk : L[k]? = some (aWr b B)) (hB : B.length ≤ 2000) {S : ByteArray} (hS : pstr B = S) :
    Calls Try.prog 26 #[.pointer (some ⟨b, 0, none⟩)] w fun e w' => e = .returned (.string S) ∧ Hp W w' L F := by subst hS; exact bytes_any h k hk (by omega)
theorem qput_is (h : Hp W w L F) (k : Nat) {B : List Bool} (hk : L[k]? = some (aQwr b B)) (hB : B.length ≤ 2000) {n v : Int} (m t : Nat) (hn : n = (m : Int)) (hv : v = (t : Int)) (hm : m ≤ 64) (ht : t < 2 ^ m) {B' : List Bool} (hx : B ++ bitsN m t = B') :
    Calls Try.prog 29 #[.pointer (some ⟨b, 0, none⟩), .int .i64 n, .int .u64 v] w fun e w' => e = .returned (.int .i64 0) ∧ Hp W w' (L.set k (aQwr b B')) F := by
  subst hn hv hx
  exact qput_good h k hk (by omega) m t hm ht
theorem qpue_is (h : Hp W w L F) (k : Nat) {B : List Bool} (hk : L[k]? = some (aQwr b B)) (hB : B.length ≤ 2000) {v : Int} (t : Nat) (hv : v = (t : Int)) (ht : t ≤ 4294967294) {B' : List Bool} (hx : B ++ ueB t = B') :
    Calls Try.prog 28 #[.pointer (some ⟨b, 0, none⟩), .int .u64 v] w fun e w' => e = .returned (.int .i64 0) ∧ Hp W w' (L.set k (aQwr b B')) F := by
  subst hv hx
  have e1 : pueE t = 0 := if_neg (by omega)
  have e2 : pueB B t = B ++ ueB t := if_pos e1
  have := qgput_ue h k hk (by omega) t (by omega)
  rwa [e1, e2] at this
theorem qtrail_is (h : Hp W w L F) (k : Nat) {B : List Bool} (hk : L[k]? = some (aQwr b B)) (hB : B.length ≤ 2000) {B' : List Bool} (hx : B ++ trB B.length = B') :
    Calls Try.prog 32 #[.pointer (some ⟨b, 0, none⟩)] w fun e w' => e = .returned (.int .i64 0) ∧ Hp W w' (L.set k (aQwr b B')) F := by
  subst hx
  exact rtrail_any h k hk (by omega)
theorem qbytes_is (h : Hp W w L F) (k : Nat) {B : List Bool} (hk : L[k]? = some (aQwr b B)) (hB : B.length ≤ 2000) {S : ByteArray} (hS : pstr B = S) :
    Calls Try.prog 33 #[.pointer (some ⟨b, 0, none⟩)] w fun e w' => e = .returned (.string S) ∧ Hp W w' L F := by subst hS; exact qbytes_any h k hk (by omega)
end

/-- The bits of a sequence parameter set, and its payload. -/
def sBits (p f l i a b r u t : Nat) : List Bool := bitsN 8 p ++ bitsN 8 f ++ bitsN 8 l ++ ueB i ++ ueB a ++ ueB 0 ++ ueB b ++ ueB r ++ bitsN 1 0 ++ ueB u ++ ueB t ++ bitsN 4 12
def tlB (B : List Bool) : List Bool := B ++ trB B.length
def sB (x : SpsD) : List Bool := sBits x.pr.toNat x.fl.toNat x.le.toNat x.id.toNat (x.fb - 4).toNat (x.pb - 4).toNat x.refs.toNat (x.w - 1).toNat (x.h - 1).toNat
def sPay (x : SpsD) : ByteArray := if okS x then pstr (tlB (sB x)) else ⟨#[]⟩
def sErr (x : SpsD) : Int := if okS x then 0 else 3
def okU (x : SpsD) : Prop := 0 ≤ x.pr ∧ x.pr < 256 ∧ 0 ≤ x.fl ∧ x.fl < 256 ∧ 0 ≤ x.le ∧ x.le < 256
theorem okS_bounds {x : SpsD} (h : okS x = true) : 0 ≤ x.id ∧ x.id ≤ 31 ∧ 4 ≤ x.fb ∧ x.fb ≤ 16 ∧ 4 ≤ x.pb ∧ x.pb ≤ 16 ∧ 0 ≤ x.refs ∧ x.refs ≤ 16 ∧ 1 ≤ x.w ∧ x.w ≤ 128 ∧ 1 ≤ x.h ∧ x.h ≤ 128 ∧ x.w * x.h ≤ 8160 := by
  unfold okS at h
  simp only [Bool.and_eq_true, decide_eq_true_eq, Bool.not_eq_true', decide_eq_false_iff_not] at h
  obtain ⟨⟨⟨⟨⟨⟨⟨_, _⟩, _, _⟩, _, _⟩, _, _⟩, _, _⟩, _, _⟩, h7⟩ := h
  refine ⟨?_, ?_, ?_, ?_, ?_, ?_, ?_, ?_, ?_, ?_, ?_, ?_, ?_⟩ <;> omega
theorem trB_len (n : Nat) : (trB n).length ≤ 8 := by unfold trB; rw [bitsN_length]; omega
theorem scells3 {w : World} {q : Nat} {a b c : Value} {t : TypeId} (h : w.heap[q]? = some (.cells #[a, b, c] t (0, 0))) : w.cell? ⟨q, 0, none⟩ = some a ∧ w.cell? ⟨q, 1, none⟩ = some b ∧ w.cell? ⟨q, 2, none⟩ = some c := by
  refine ⟨?_, ?_, ?_⟩ <;> simp [World.cell?, h]
theorem scells5 {w : World} {q : Nat} {a b c d e : Value} {t : TypeId} (h : w.heap[q]? = some (.cells #[a, b, c, d, e] t (0, 0))) : w.cell? ⟨q, 0, none⟩ = some a ∧ w.cell? ⟨q, 1, none⟩ = some b ∧ w.cell? ⟨q, 2, none⟩ = some c ∧ w.cell? ⟨q, 3, none⟩ = some d ∧ w.cell? ⟨q, 4, none⟩ = some e := by
  refine ⟨?_, ?_, ?_, ?_, ?_⟩ <;> simp [World.cell?, h]
end Go.Proofs.Ytkaoeilijdeioaa
