/- What is read from a payload of a picture parameter set. -/
import Derived.Test.YtkaoeilijdeioaaPz
import Derived.Test.YtkaoeilijdeioaaSo
namespace Go.Proofs.Ytkaoeilijdeioaa
open Go.RowKit
set_option linter.unusedVariables false
set_option maxRecDepth 100000
set_option linter.unusedSimpArgs false

def sgE (e v lo hi : Int) : Int := if e = 0 then (if lo ≤ v ∧ v ≤ hi then 0 else 3) else e
/-- Reading a signed number from lo to hi. -/
def sgR (s : ByteArray) (lo hi : Int) (q : Int × Nat) : Int × Int × Nat := if q.1 = 0 then (seV s q.2, sgE (ueE s q.2) (seV s q.2) lo hi, ueI s q.2) else (0, q.1, q.2)
theorem sgR_zero (s : ByteArray) (lo hi : Int) (i : Nat) : sgR s lo hi (0, i) = (seV s i, sgE (ueE s i) (seV s i) lo hi, ueI s i) := rfl
theorem sgR_not (s : ByteArray) (lo hi : Int) {e : Int} (i : Nat) (h : e ≠ 0) : sgR s lo hi (e, i) = (0, e, i) := by unfold sgR; rw [if_neg h]
/-- The numbers read, the signed ones, and the states, one after another. -/
structure PpsRun (s : ByteArray) (v : Nat → Nat) (g : Nat → Int) (e : Nat → Int) (i : Nat → Nat) : Prop where
  a1 : nmR s 31 3 (0, 0) = (v 1, e 1, i 1)
  a2 : nmR s 31 3 (e 1, i 1) = (v 2, e 2, i 2)
  a3 : fxR s 1 (e 2, i 2) = (v 3, e 3, i 3)
  a4 : fxR s 1 (e 3, i 3) = (v 4, e 4, i 4)
  b4 : kdR (decide (v 4 = 0)) 9 (e 4, i 4) = (e 5, i 5)
  a5 : nmR s 0 9 (e 5, i 5) = (v 5, e 6, i 6)
  a6 : nmR s 31 3 (e 6, i 6) = (v 6, e 7, i 7)
  a7 : nmR s 31 3 (e 7, i 7) = (v 7, e 8, i 8)
  a8 : fxR s 3 (e 8, i 8) = (v 8, e 9, i 9)
  b8 : kdR (decide (v 8 = 0)) 9 (e 9, i 9) = (e 10, i 10)
  a9 : sgR s (-26) 25 (e 10, i 10) = (g 9, e 11, i 11)
  a10 : sgR s (-26) 25 (e 11, i 11) = (g 10, e 12, i 12)
  a11 : sgR s (-12) 12 (e 12, i 12) = (g 11, e 13, i 13)
  a12 : fxR s 1 (e 13, i 13) = (v 12, e 14, i 14)
  a13 : fxR s 1 (e 14, i 14) = (v 13, e 15, i 15)
  a14 : fxR s 1 (e 15, i 15) = (v 14, e 16, i 16)
  b14 : kdR (decide (v 14 = 0)) 9 (e 16, i 16) = (e 17, i 17)
  b18 : (if e 17 = 0 then enE s (i 17) false else e 17) = e 18
def ppsOf (v : Nat → Nat) (g : Nat → Int) : PpsD := ⟨v 1, v 2, v 3 == 1, 1 + (v 6 : Int), 1 + (v 7 : Int), g 9, g 10, g 11, v 12 == 1, v 13 == 1⟩
def PpsDec (s : ByteArray) (x : PpsD) (er : Int) : Prop := ∃ v g e i, PpsRun s v g e i ∧ er = e 18 ∧ x = if e 18 = 0 then ppsOf v g else p00

theorem ppsRun_ex (s : ByteArray) : ∃ v g e i, PpsRun s v g e i := by
  obtain ⟨⟨v1, e1, i1⟩, h1⟩ : ∃ x, nmR s 31 3 (0, 0) = x := ⟨_, rfl⟩
  obtain ⟨⟨v2, e2, i2⟩, h2⟩ : ∃ x, nmR s 31 3 (e1, i1) = x := ⟨_, rfl⟩
  obtain ⟨⟨v3, e3, i3⟩, h3⟩ : ∃ x, fxR s 1 (e2, i2) = x := ⟨_, rfl⟩
  obtain ⟨⟨v4, e4, i4⟩, h4⟩ : ∃ x, fxR s 1 (e3, i3) = x := ⟨_, rfl⟩
  obtain ⟨⟨e5, i5⟩, h5⟩ : ∃ x, kdR (decide (v4 = 0)) 9 (e4, i4) = x := ⟨_, rfl⟩
  obtain ⟨⟨v5, e6, i6⟩, h6⟩ : ∃ x, nmR s 0 9 (e5, i5) = x := ⟨_, rfl⟩
  obtain ⟨⟨v6, e7, i7⟩, h7⟩ : ∃ x, nmR s 31 3 (e6, i6) = x := ⟨_, rfl⟩
  obtain ⟨⟨v7, e8, i8⟩, h8⟩ : ∃ x, nmR s 31 3 (e7, i7) = x := ⟨_, rfl⟩
  obtain ⟨⟨v8, e9, i9⟩, h9⟩ : ∃ x, fxR s 3 (e8, i8) = x := ⟨_, rfl⟩
  obtain ⟨⟨e10, i10⟩, h10⟩ : ∃ x, kdR (decide (v8 = 0)) 9 (e9, i9) = x := ⟨_, rfl⟩
  obtain ⟨⟨g9, e11, i11⟩, h11⟩ : ∃ x, sgR s (-26) 25 (e10, i10) = x := ⟨_, rfl⟩
  obtain ⟨⟨g10, e12, i12⟩, h12⟩ : ∃ x, sgR s (-26) 25 (e11, i11) = x := ⟨_, rfl⟩
  obtain ⟨⟨g11, e13, i13⟩, h13⟩ : ∃ x, sgR s (-12) 12 (e12, i12) = x := ⟨_, rfl⟩
  obtain ⟨⟨v12, e14, i14⟩, h14⟩ : ∃ x, fxR s 1 (e13, i13) = x := ⟨_, rfl⟩
  obtain ⟨⟨v13, e15, i15⟩, h15⟩ : ∃ x, fxR s 1 (e14, i14) = x := ⟨_, rfl⟩
  obtain ⟨⟨v14, e16, i16⟩, h16⟩ : ∃ x, fxR s 1 (e15, i15) = x := ⟨_, rfl⟩
  obtain ⟨⟨e17, i17⟩, h17⟩ : ∃ x, kdR (decide (v14 = 0)) 9 (e16, i16) = x := ⟨_, rfl⟩
  obtain ⟨e18, h18⟩ : ∃ x, (if e17 = 0 then enE s i17 false else e17) = x := ⟨_, rfl⟩
  refine ⟨fun k => ([0, v1, v2, v3, v4, v5, v6, v7, v8, 0, 0, 0, v12, v13, v14] : List Nat).getD k 0, fun k => ([0, 0, 0, 0, 0, 0, 0, 0, 0, g9, g10, g11] : List Int).getD k 0, fun k => ([0, e1, e2, e3, e4, e5, e6, e7, e8, e9, e10, e11, e12, e13, e14, e15, e16, e17, e18] : List Int).getD k 0, fun k => ([0, i1, i2, i3, i4, i5, i6, i7, i8, i9, i10, i11, i12, i13, i14, i15, i16, i17] : List Nat).getD k 0, ?_⟩
  exact ⟨h1, h2, h3, h4, h5, h6, h7, h8, h9, h10, h11, h12, h13, h14, h15, h16, h17, h18⟩
def pDec (s : ByteArray) : PpsD × Int :=
  let q1 := nmR s 31 3 (0, 0)
  let q2 := nmR s 31 3 q1.2
  let q3 := fxR s 1 q2.2
  let q4 := fxR s 1 q3.2
  let q5 := kdR (decide (q4.1 = 0)) 9 q4.2
  let q6 := nmR s 0 9 q5
  let q7 := nmR s 31 3 q6.2
  let q8 := nmR s 31 3 q7.2
  let q9 := fxR s 3 q8.2
  let q10 := kdR (decide (q9.1 = 0)) 9 q9.2
  let q11 := sgR s (-26) 25 q10
  let q12 := sgR s (-26) 25 q11.2
  let q13 := sgR s (-12) 12 q12.2
  let q14 := fxR s 1 q13.2
  let q15 := fxR s 1 q14.2
  let q16 := fxR s 1 q15.2
  let q17 := kdR (decide (q16.1 = 0)) 9 q16.2
  let e := if q17.1 = 0 then enE s q17.2 false else q17.1
  (if e = 0 then ⟨q1.1, q2.1, q3.1 == 1, 1 + (q7.1 : Int), 1 + (q8.1 : Int), q11.1, q12.1, q13.1, q14.1 == 1, q15.1 == 1⟩ else p00, e)
theorem pDec_run {s : ByteArray} {v : Nat → Nat} {g e : Nat → Int} {i : Nat → Nat} (h : PpsRun s v g e i) : pDec s = (if e 18 = 0 then ppsOf v g else p00, e 18) := by
  unfold pDec ppsOf
  simp only [h.a1, h.a2, h.a3, h.a4, h.b4, h.a5, h.a6, h.a7, h.a8, h.b8, h.a9, h.a10, h.a11, h.a12, h.a13, h.a14, h.b14, h.b18]
theorem pDec_dec (s : ByteArray) : PpsDec s (pDec s).1 (pDec s).2 := by
  obtain ⟨v, g, e, i, h⟩ := ppsRun_ex s
  rw [pDec_run h]
  exact ⟨v, g, e, i, h, rfl, rfl⟩
end Go.Proofs.Ytkaoeilijdeioaa
