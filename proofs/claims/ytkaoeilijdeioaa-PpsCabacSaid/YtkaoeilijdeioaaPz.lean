/- Parameter sets' payloads as plain facts: no program in sight. -/
import Derived.Test.YtkaoeilijdeioaaTz
import Derived.Test.YtkaoeilijdeioaaGq
import Derived.Test.YtkaoeilijdeioaaSo
namespace Go.Proofs.Ytkaoeilijdeioaa
open Go.RowKit
set_option linter.unusedVariables false
set_option maxRecDepth 100000
set_option linter.unusedSimpArgs false

/-- Reading n bits at a state (first error, place). -/
def fxR (s : ByteArray) (n : Nat) (q : Int × Nat) : Nat × Int × Nat := if q.1 = 0 then (uV s q.2 n, uE s q.2 n, uI s q.2 n) else (0, q.1, q.2)
def lkE (e : Int) (v m : Nat) (wr : Int) : Int := if e = 0 then (if m < v then wr else 0) else e
/-- Reading a number from 0 to m. -/
def nmR (s : ByteArray) (m : Nat) (wr : Int) (q : Int × Nat) : Nat × Int × Nat := if q.1 = 0 then (ueV s q.2, lkE (ueE s q.2) (ueV s q.2) m wr, ueI s q.2) else (0, q.1, q.2)
/-- An error, unless something is so. -/
def kdR (b : Bool) (wr : Int) (q : Int × Nat) : Int × Nat := if q.1 = 0 ∧ b = false then (wr, q.2) else q

theorem fxR_zero (s : ByteArray) (n i : Nat) : fxR s n (0, i) = (uV s i n, uE s i n, uI s i n) := rfl
theorem fxR_not (s : ByteArray) (n : Nat) {e : Int} (i : Nat) (h : e ≠ 0) : fxR s n (e, i) = (0, e, i) := by unfold fxR; rw [if_neg h]
theorem nmR_zero (s : ByteArray) (m : Nat) (wr : Int) (i : Nat) : nmR s m wr (0, i) = (ueV s i, lkE (ueE s i) (ueV s i) m wr, ueI s i) := rfl
theorem nmR_not (s : ByteArray) (m : Nat) (wr : Int) {e : Int} (i : Nat) (h : e ≠ 0) : nmR s m wr (e, i) = (0, e, i) := by unfold nmR; rw [if_neg h]
theorem nmR_lt {s : ByteArray} {m : Nat} {wr : Int} {q : Int × Nat} {v : Nat} {q' : Int × Nat} (h : nmR s m wr q = (v, q')) : v < 4294967295 := by
  unfold nmR at h
  split at h
  · obtain ⟨rfl, -⟩ := Prod.mk.inj h; exact ueV_lt s q.2
  · obtain ⟨rfl, -⟩ := Prod.mk.inj h; decide
theorem fxR_lt {s : ByteArray} {n : Nat} {q : Int × Nat} {v : Nat} {q' : Int × Nat} (h : fxR s n q = (v, q')) : v < 2 ^ n := by
  unfold fxR at h
  split at h
  · obtain ⟨rfl, -⟩ := Prod.mk.inj h; exact uV_lt
  · obtain ⟨rfl, -⟩ := Prod.mk.inj h; exact Nat.two_pow_pos n
/-- What was read without an error lies in its range. -/
theorem nmR_ok {s : ByteArray} {m : Nat} {wr : Int} {q : Int × Nat} {v : Nat} {j : Nat} (h : nmR s m wr q = (v, 0, j)) (hw : wr ≠ 0) : q.1 = 0 ∧ ueE s q.2 = 0 ∧ v = ueV s q.2 ∧ v ≤ m ∧ j = ueI s q.2 := by
  unfold nmR at h
  split at h
  · rename_i hq
    obtain ⟨rfl, h2⟩ := Prod.mk.inj h
    obtain ⟨h3, rfl⟩ := Prod.mk.inj h2
    unfold lkE at h3
    split at h3
    · rename_i he
      split at h3
      · exact absurd h3 hw
      · exact ⟨hq, he, rfl, by omega, rfl⟩
    · exact absurd h3 (by assumption)
  · rename_i hq
    obtain ⟨-, h2⟩ := Prod.mk.inj h
    obtain ⟨h3, -⟩ := Prod.mk.inj h2
    exact absurd h3 hq
theorem fxR_ok {s : ByteArray} {n : Nat} {q : Int × Nat} {v : Nat} {j : Nat} (h : fxR s n q = (v, 0, j)) : q.1 = 0 ∧ uE s q.2 n = 0 ∧ v = uV s q.2 n ∧ j = uI s q.2 n := by
  unfold fxR at h
  split at h
  · rename_i hq
    obtain ⟨rfl, h2⟩ := Prod.mk.inj h
    obtain ⟨h3, rfl⟩ := Prod.mk.inj h2
    exact ⟨hq, h3, rfl, rfl⟩
  · rename_i hq
    obtain ⟨-, h2⟩ := Prod.mk.inj h
    obtain ⟨h3, -⟩ := Prod.mk.inj h2
    exact absurd h3 hq

/-- What is read from a payload: the numbers read, and the states, one after another. -/
structure SpsRun (s : ByteArray) (v : Nat → Nat) (e : Nat → Int) (i : Nat → Nat) : Prop where
  a1 : fxR s 8 (0, 0) = (v 1, e 1, i 1)
  a2 : fxR s 8 (e 1, i 1) = (v 2, e 2, i 2)
  a3 : fxR s 8 (e 2, i 2) = (v 3, e 3, i 3)
  a4 : nmR s 31 3 (e 3, i 3) = (v 4, e 4, i 4)
  a5 : nmR s 12 3 (e 4, i 4) = (v 5, e 5, i 5)
  a6 : nmR s 0 9 (e 5, i 5) = (v 6, e 6, i 6)
  a7 : nmR s 12 3 (e 6, i 6) = (v 7, e 7, i 7)
  a8 : nmR s 16 3 (e 7, i 7) = (v 8, e 8, i 8)
  a9 : fxR s 1 (e 8, i 8) = (v 9, e 9, i 9)
  b9 : kdR (decide (v 9 = 0)) 9 (e 9, i 9) = (e 10, i 10)
  a11 : nmR s 127 3 (e 10, i 10) = (v 11, e 11, i 11)
  a12 : nmR s 127 3 (e 11, i 11) = (v 12, e 12, i 12)
  b12 : kdR (decide ((v 11 + 1) * (v 12 + 1) ≤ 8160)) 3 (e 12, i 12) = (e 13, i 13)
  a14 : fxR s 4 (e 13, i 13) = (v 14, e 14, i 14)
  b14 : kdR (decide (v 14 = 12)) 9 (e 14, i 14) = (e 15, i 15)
  b15 : (if e 15 = 0 then enE s (i 15) false else e 15) = e 16
def spsOf (v : Nat → Nat) : SpsD := ⟨v 1, v 2, v 3, v 4, 4 + (v 5 : Int), 4 + (v 7 : Int), v 8, 1 + (v 11 : Int), 1 + (v 12 : Int)⟩
def SpsDec (s : ByteArray) (x : SpsD) (er : Int) : Prop := ∃ v e i, SpsRun s v e i ∧ er = e 16 ∧ x = if e 16 = 0 then spsOf v else s00

theorem spsRun_ex (s : ByteArray) : ∃ v e i, SpsRun s v e i := by
  obtain ⟨⟨v1, e1, i1⟩, h1⟩ : ∃ x, fxR s 8 (0, 0) = x := ⟨_, rfl⟩
  obtain ⟨⟨v2, e2, i2⟩, h2⟩ : ∃ x, fxR s 8 (e1, i1) = x := ⟨_, rfl⟩
  obtain ⟨⟨v3, e3, i3⟩, h3⟩ : ∃ x, fxR s 8 (e2, i2) = x := ⟨_, rfl⟩
  obtain ⟨⟨v4, e4, i4⟩, h4⟩ : ∃ x, nmR s 31 3 (e3, i3) = x := ⟨_, rfl⟩
  obtain ⟨⟨v5, e5, i5⟩, h5⟩ : ∃ x, nmR s 12 3 (e4, i4) = x := ⟨_, rfl⟩
  obtain ⟨⟨v6, e6, i6⟩, h6⟩ : ∃ x, nmR s 0 9 (e5, i5) = x := ⟨_, rfl⟩
  obtain ⟨⟨v7, e7, i7⟩, h7⟩ : ∃ x, nmR s 12 3 (e6, i6) = x := ⟨_, rfl⟩
  obtain ⟨⟨v8, e8, i8⟩, h8⟩ : ∃ x, nmR s 16 3 (e7, i7) = x := ⟨_, rfl⟩
  obtain ⟨⟨v9, e9, i9⟩, h9⟩ : ∃ x, fxR s 1 (e8, i8) = x := ⟨_, rfl⟩
  obtain ⟨⟨e10, i10⟩, h10⟩ : ∃ x, kdR (decide (v9 = 0)) 9 (e9, i9) = x := ⟨_, rfl⟩
  obtain ⟨⟨v11, e11, i11⟩, h11⟩ : ∃ x, nmR s 127 3 (e10, i10) = x := ⟨_, rfl⟩
  obtain ⟨⟨v12, e12, i12⟩, h12⟩ : ∃ x, nmR s 127 3 (e11, i11) = x := ⟨_, rfl⟩
  obtain ⟨⟨e13, i13⟩, h13⟩ : ∃ x, kdR (decide ((v11 + 1) * (v12 + 1) ≤ 8160)) 3 (e12, i12) = x := ⟨_, rfl⟩
  obtain ⟨⟨v14, e14, i14⟩, h14⟩ : ∃ x, fxR s 4 (e13, i13) = x := ⟨_, rfl⟩
  obtain ⟨⟨e15, i15⟩, h15⟩ : ∃ x, kdR (decide (v14 = 12)) 9 (e14, i14) = x := ⟨_, rfl⟩
  obtain ⟨e16, h16⟩ : ∃ x, (if e15 = 0 then enE s i15 false else e15) = x := ⟨_, rfl⟩
  refine ⟨fun k => ([0, v1, v2, v3, v4, v5, v6, v7, v8, v9, 0, v11, v12, 0, v14] : List Nat).getD k 0, fun k => ([0, e1, e2, e3, e4, e5, e6, e7, e8, e9, e10, e11, e12, e13, e14, e15, e16] : List Int).getD k 0, fun k => ([0, i1, i2, i3, i4, i5, i6, i7, i8, i9, i10, i11, i12, i13, i14, i15] : List Nat).getD k 0, ?_⟩
  exact ⟨h1, h2, h3, h4, h5, h6, h7, h8, h9, h10, h11, h12, h13, h14, h15, h16⟩
theorem spsDec_ex (s : ByteArray) : ∃ x er, SpsDec s x er := by
  obtain ⟨v, e, i, h⟩ := spsRun_ex s
  exact ⟨_, _, v, e, i, h, rfl, rfl⟩
end Go.Proofs.Ytkaoeilijdeioaa
