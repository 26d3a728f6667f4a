/- Mvd, Qp. -/
import Derived.Test.YtchoiimmcgkimaaDoorVu
namespace Go.Proofs.YtchoiimmcgkimaaDoor
open Go.RowKit Go.Shelf
set_option linter.unusedVariables false
set_option maxRecDepth 100000
set_option linter.unusedSimpArgs false

def mvB0 (vert : Bool) : Int := if vert then 37 else 30
def mvS (sum : Int) : Int := if 32 < sum then 2 else if 2 < sum then 1 else 0
def mvC (sum : Int) (vert : Bool) : List Int := [mvB0 vert + mvS sum, mvB0 vert + 3, mvB0 vert + 4, mvB0 vert + 5, mvB0 vert + 6]
def mvE (v sum : Int) : Int := if 0 ≤ sum ∧ -8192 ≤ v ∧ v ≤ 8192 then 0 else 3
def sgB (v : Int) : List (Int × Int) := if v < 0 then [(-1, 1)] else if 0 < v then [(-1, 0)] else []
def mvN (n : Nat) (sum : Int) (vert : Bool) : List (Int × Int) := cntB (mvC sum vert) (min n 9) (decide (((min n 9 : Nat) : Int) ≠ 9)) ++ if 9 ≤ n then escB (n - 9) 3 else []
def mvB (v sum : Int) (vert : Bool) : List (Int × Int) := if mvE v sum = 0 then mvN v.natAbs sum vert ++ sgB v else []

section
variable {W w : World} {L : List AObj} {F : List (Nat × Obj)}
theorem mvC_len (sum : Int) (vert : Bool) : (mvC sum vert).length = 5 := rfl

theorem addr_off0 (g j : Nat) : ((⟨g, 0, none⟩ : Addr).add j) = ⟨g, j, none⟩ := by unfold Addr.add; split <;> simp_all
theorem sl_pos {w : World} {e : TypeId} {size n : Nat} {v : Value} {xs : List Value} (h : w.ownsRow 0 e size v n xs) (hn : 0 < n) : ∃ g cap, v = .slice (some ⟨g, 0, none⟩) n cap := by
  rcases h.2 with ⟨_, h0⟩ | ⟨g, cap, cur, rfl, _⟩
  · omega
  · exact ⟨g, cap, rfl⟩
theorem escE_ok (v : Nat) (h : v ≤ 4294967294) : escE v 3 = 0 := by
  refine if_neg ?_
  have : v / 2 ^ (3 : Int).toNat ≤ v := Nat.div_le_self _ _
  omega
theorem escB_len (v : Nat) (k : Int) (h : v ≤ 4294967294) (hk : 0 ≤ k ∧ k ≤ 8 := by decide) : 0 < (escB v k).length ∧ (escB v k).length ≤ 200 := by
  have hd : v / 2 ^ k.toNat ≤ v := Nat.div_le_self _ _
  have hE : escE v k = 0 := if_neg (by omega)
  have := lgN_le (v := v / 2 ^ k.toNat) (by omega)
  unfold escB
  rw [if_pos hE, List.length_append, digB_length, digB_length]
  omega

def qpE (v inc : Int) : Int := if 0 ≤ inc ∧ inc ≤ 1 ∧ -26 ≤ v ∧ v ≤ 25 then 0 else 3
def qpN (v : Int) : Nat := if 0 < v then (2 * v - 1).toNat else (-2 * v).toNat
def qpB (v inc : Int) : List (Int × Int) := if qpE v inc = 0 then unB (qpN v) (62 + inc) 64 65 else []
end

end Go.Proofs.YtchoiimmcgkimaaDoor
