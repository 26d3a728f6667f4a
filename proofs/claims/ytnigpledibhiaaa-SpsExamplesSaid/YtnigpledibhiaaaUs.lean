/- The plain law of sequence parameter sets' payloads. -/
import Derived.Test.YtnigpledibhiaaaUa
import Derived.Test.YtnigpledibhiaaaPv
namespace Go.Proofs.Ytnigpledibhiaaa
open Go.RowKit
set_option linter.unusedVariables false
set_option maxRecDepth 100000
set_option linter.unusedSimpArgs false

def sDec (s : ByteArray) : SpsD × Int :=
  let q1 := fxR s 8 (0, 0)
  let q2 := fxR s 8 q1.2
  let q3 := fxR s 8 q2.2
  let q4 := nmR s 31 3 q3.2
  let q5 := nmR s 12 3 q4.2
  let q6 := nmR s 0 9 q5.2
  let q7 := nmR s 12 3 q6.2
  let q8 := nmR s 16 3 q7.2
  let q9 := fxR s 1 q8.2
  let q10 := kdR (decide (q9.1 = 0)) 9 q9.2
  let q11 := nmR s 127 3 q10
  let q12 := nmR s 127 3 q11.2
  let q13 := kdR (decide ((q11.1 + 1) * (q12.1 + 1) ≤ 8160)) 3 q12.2
  let q14 := fxR s 4 q13
  let q15 := kdR (decide (q14.1 = 12)) 9 q14.2
  let e := if q15.1 = 0 then enE s q15.2 false else q15.1
  (if e = 0 then ⟨q1.1, q2.1, q3.1, q4.1, 4 + (q5.1 : Int), 4 + (q7.1 : Int), q8.1, 1 + (q11.1 : Int), 1 + (q12.1 : Int)⟩ else s00, e)
theorem sDec_run {s : ByteArray} {v : Nat → Nat} {e : Nat → Int} {i : Nat → Nat} (h : SpsRun s v e i) : sDec s = (if e 16 = 0 then spsOf v else s00, e 16) := by
  unfold sDec spsOf
  simp only [h.a1, h.a2, h.a3, h.a4, h.a5, h.a6, h.a7, h.a8, h.a9, h.b9, h.a11, h.a12, h.b12, h.a14, h.b14, h.b15]
theorem sDec_dec (s : ByteArray) : SpsDec s (sDec s).1 (sDec s).2 := by
  obtain ⟨v, e, i, h⟩ := spsRun_ex s
  rw [sDec_run h]
  exact ⟨v, e, i, h, rfl, rfl⟩
theorem fx_stay {s : ByteArray} {n i v i2 : Nat} {e e2 : Int} (h : fxR s n (e, i) = (v, e2, i2)) (he : e ≠ 0) : e2 = e := by rw [fxR_not _ _ _ he] at h; exact (Prod.mk.inj (Prod.mk.inj h).2).1.symm
theorem nm_stay {s : ByteArray} {m i v i2 : Nat} {wr e e2 : Int} (h : nmR s m wr (e, i) = (v, e2, i2)) (he : e ≠ 0) : e2 = e := by rw [nmR_not _ _ _ _ he] at h; exact (Prod.mk.inj (Prod.mk.inj h).2).1.symm
theorem kd_stay {b : Bool} {wr e e2 : Int} {i i2 : Nat} (h : kdR b wr (e, i) = (e2, i2)) (he : e ≠ 0) : e2 = e := by unfold kdR at h; rw [if_neg (by simp [he])] at h; exact (Prod.mk.inj h).1.symm
section
variable {s : ByteArray} {v : Nat → Nat} {e : Nat → Int} {i : Nat → Nat}
theorem SpsRun.stay15 (h : SpsRun s v e i) (he : e 15 ≠ 0) : e 16 = e 15 := by have := h.b15; rw [if_neg he] at this; exact this.symm
theorem SpsRun.stay14 (h : SpsRun s v e i) (he : e 14 ≠ 0) : e 16 = e 14 := by have x := kd_stay h.b14 he; exact (h.stay15 (by rw [x]; exact he)).trans x
theorem SpsRun.stay13 (h : SpsRun s v e i) (he : e 13 ≠ 0) : e 16 = e 13 := by have x := fx_stay h.a14 he; exact (h.stay14 (by rw [x]; exact he)).trans x
theorem SpsRun.stay12 (h : SpsRun s v e i) (he : e 12 ≠ 0) : e 16 = e 12 := by have x := kd_stay h.b12 he; exact (h.stay13 (by rw [x]; exact he)).trans x
theorem SpsRun.stay11 (h : SpsRun s v e i) (he : e 11 ≠ 0) : e 16 = e 11 := by have x := nm_stay h.a12 he; exact (h.stay12 (by rw [x]; exact he)).trans x
theorem SpsRun.stay10 (h : SpsRun s v e i) (he : e 10 ≠ 0) : e 16 = e 10 := by have x := nm_stay h.a11 he; exact (h.stay11 (by rw [x]; exact he)).trans x
theorem SpsRun.stay9 (h : SpsRun s v e i) (he : e 9 ≠ 0) : e 16 = e 9 := by have x := kd_stay h.b9 he; exact (h.stay10 (by rw [x]; exact he)).trans x
theorem SpsRun.stay8 (h : SpsRun s v e i) (he : e 8 ≠ 0) : e 16 = e 8 := by have x := fx_stay h.a9 he; exact (h.stay9 (by rw [x]; exact he)).trans x
theorem SpsRun.stay7 (h : SpsRun s v e i) (he : e 7 ≠ 0) : e 16 = e 7 := by have x := nm_stay h.a8 he; exact (h.stay8 (by rw [x]; exact he)).trans x
theorem SpsRun.stay6 (h : SpsRun s v e i) (he : e 6 ≠ 0) : e 16 = e 6 := by have x := nm_stay h.a7 he; exact (h.stay7 (by rw [x]; exact he)).trans x
theorem SpsRun.stay5 (h : SpsRun s v e i) (he : e 5 ≠ 0) : e 16 = e 5 := by have x := nm_stay h.a6 he; exact (h.stay6 (by rw [x]; exact he)).trans x
theorem SpsRun.stay4 (h : SpsRun s v e i) (he : e 4 ≠ 0) : e 16 = e 4 := by have x := nm_stay h.a5 he; exact (h.stay5 (by rw [x]; exact he)).trans x
theorem SpsRun.stay3 (h : SpsRun s v e i) (he : e 3 ≠ 0) : e 16 = e 3 := by have x := nm_stay h.a4 he; exact (h.stay4 (by rw [x]; exact he)).trans x
theorem SpsRun.stay2 (h : SpsRun s v e i) (he : e 2 ≠ 0) : e 16 = e 2 := by have x := fx_stay h.a3 he; exact (h.stay3 (by rw [x]; exact he)).trans x
theorem SpsRun.stay1 (h : SpsRun s v e i) (he : e 1 ≠ 0) : e 16 = e 1 := by have x := fx_stay h.a2 he; exact (h.stay2 (by rw [x]; exact he)).trans x
end

theorem sRun_fwd {s : ByteArray} {p f l i0 a b r u t : Nat} {R : List Bool} (hp : p < 256) (hf : f < 256) (hl : l < 256) (hi : i0 ≤ 31) (ha : a ≤ 12) (hb : b ≤ 12) (hr0 : r ≤ 16) (hu : u ≤ 127) (ht : t ≤ 127) (hw : (u + 1) * (t + 1) ≤ 8160) (h : At s 0 (sBits p f l i0 a b r u t ++ R)) {v : Nat → Nat} {e : Nat → Int} {i : Nat → Nat} (hr : SpsRun s v e i) :
    v 1 = p ∧ v 2 = f ∧ v 3 = l ∧ v 4 = i0 ∧ v 5 = a ∧ v 7 = b ∧ v 8 = r ∧ v 11 = u ∧ v 12 = t ∧ e 15 = 0 ∧ i 15 = (sBits p f l i0 a b r u t).length ∧ At s (i 15) R := by
  obtain ⟨a1, a2, a3, a4, a5, a6, a7, a8, a9, b9, a11, a12, b12, a14, b14, b15⟩ := hr
  have hL : (sBits p f l i0 a b r u t).length = 8 + 8 + 8 + (ueB i0).length + (ueB a).length + (ueB 0).length + (ueB b).length + (ueB r).length + 1 + (ueB u).length + (ueB t).length + 4 := by unfold sBits; simp only [List.length_append, bitsN_length]
  rw [hL]
  clear hL
  unfold sBits at h
  simp only [List.append_assoc] at h
  generalize v 1 = v1 at *
  generalize v 2 = v2 at *
  generalize v 3 = v3 at *
  generalize v 4 = v4 at *
  generalize v 5 = v5 at *
  generalize v 6 = v6 at *
  generalize v 7 = v7 at *
  generalize v 8 = v8 at *
  generalize v 9 = v9 at *
  generalize v 11 = v11 at *
  generalize v 12 = v12 at *
  generalize v 14 = v14 at *
  generalize e 1 = e1 at *
  generalize e 2 = e2 at *
  generalize e 3 = e3 at *
  generalize e 4 = e4 at *
  generalize e 5 = e5 at *
  generalize e 6 = e6 at *
  generalize e 7 = e7 at *
  generalize e 8 = e8 at *
  generalize e 9 = e9 at *
  generalize e 10 = e10 at *
  generalize e 11 = e11 at *
  generalize e 12 = e12 at *
  generalize e 13 = e13 at *
  generalize e 14 = e14 at *
  generalize e 15 = e15 at *
  generalize e 16 = e16 at *
  generalize i 1 = i1 at *
  generalize i 2 = i2 at *
  generalize i 3 = i3 at *
  generalize i 4 = i4 at *
  generalize i 5 = i5 at *
  generalize i 6 = i6 at *
  generalize i 7 = i7 at *
  generalize i 8 = i8 at *
  generalize i 9 = i9 at *
  generalize i 10 = i10 at *
  generalize i 11 = i11 at *
  generalize i 12 = i12 at *
  generalize i 13 = i13 at *
  generalize i 14 = i14 at *
  generalize i 15 = i15 at *
  clear v e i
  have hh := at_fx h (by decide) (by omega)
  clear h
  obtain ⟨y0, h⟩ := hh
  have y := a1.symm.trans y0
  clear a1 y0
  obtain ⟨q1, qq⟩ := Prod.mk.inj y
  obtain ⟨q2, q3⟩ := Prod.mk.inj qq
  clear y qq
  subst q1 q2 q3
  have hh := at_fx h (by decide) (by omega)
  clear h
  obtain ⟨y0, h⟩ := hh
  have y := a2.symm.trans y0
  clear a2 y0
  obtain ⟨q1, qq⟩ := Prod.mk.inj y
  obtain ⟨q2, q3⟩ := Prod.mk.inj qq
  clear y qq
  subst q1 q2 q3
  have hh := at_fx h (by decide) (by omega)
  clear h
  obtain ⟨y0, h⟩ := hh
  have y := a3.symm.trans y0
  clear a3 y0
  obtain ⟨q1, qq⟩ := Prod.mk.inj y
  obtain ⟨q2, q3⟩ := Prod.mk.inj qq
  clear y qq
  subst q1 q2 q3
  have hh := at_nm h (m := 31) (wr := 3) (by decide) (by omega)
  clear h
  obtain ⟨y0, h⟩ := hh
  have y := a4.symm.trans y0
  clear a4 y0
  obtain ⟨q1, qq⟩ := Prod.mk.inj y
  obtain ⟨q2, q3⟩ := Prod.mk.inj qq
  clear y qq
  subst q1 q2 q3
  have hh := at_nm h (m := 12) (wr := 3) (by decide) (by omega)
  clear h
  obtain ⟨y0, h⟩ := hh
  have y := a5.symm.trans y0
  clear a5 y0
  obtain ⟨q1, qq⟩ := Prod.mk.inj y
  obtain ⟨q2, q3⟩ := Prod.mk.inj qq
  clear y qq
  subst q1 q2 q3
  have hh := at_nm h (m := 0) (wr := 9) (by decide) (by omega)
  clear h
  obtain ⟨y0, h⟩ := hh
  have y := a6.symm.trans y0
  clear a6 y0
  obtain ⟨q1, qq⟩ := Prod.mk.inj y
  obtain ⟨q2, q3⟩ := Prod.mk.inj qq
  clear y qq
  subst q1 q2 q3
  have hh := at_nm h (m := 12) (wr := 3) (by decide) (by omega)
  clear h
  obtain ⟨y0, h⟩ := hh
  have y := a7.symm.trans y0
  clear a7 y0
  obtain ⟨q1, qq⟩ := Prod.mk.inj y
  obtain ⟨q2, q3⟩ := Prod.mk.inj qq
  clear y qq
  subst q1 q2 q3
  have hh := at_nm h (m := 16) (wr := 3) (by decide) (by omega)
  clear h
  obtain ⟨y0, h⟩ := hh
  have y := a8.symm.trans y0
  clear a8 y0
  obtain ⟨q1, qq⟩ := Prod.mk.inj y
  obtain ⟨q2, q3⟩ := Prod.mk.inj qq
  clear y qq
  subst q1 q2 q3
  have hh := at_fx h (by decide) (by omega)
  clear h
  obtain ⟨y0, h⟩ := hh
  have y := a9.symm.trans y0
  clear a9 y0
  obtain ⟨q1, qq⟩ := Prod.mk.inj y
  obtain ⟨q2, q3⟩ := Prod.mk.inj qq
  clear y qq
  subst q1 q2 q3
  rw [decide_eq_true (by rfl)] at b9
  have y := b9.symm.trans kd_true
  clear b9
  obtain ⟨q1, q2⟩ := Prod.mk.inj y
  clear y
  subst q1 q2
  have hh := at_nm h (m := 127) (wr := 3) (by decide) (by omega)
  clear h
  obtain ⟨y0, h⟩ := hh
  have y := a11.symm.trans y0
  clear a11 y0
  obtain ⟨q1, qq⟩ := Prod.mk.inj y
  obtain ⟨q2, q3⟩ := Prod.mk.inj qq
  clear y qq
  subst q1 q2 q3
  have hh := at_nm h (m := 127) (wr := 3) (by decide) (by omega)
  clear h
  obtain ⟨y0, h⟩ := hh
  have y := a12.symm.trans y0
  clear a12 y0
  obtain ⟨q1, qq⟩ := Prod.mk.inj y
  obtain ⟨q2, q3⟩ := Prod.mk.inj qq
  clear y qq
  subst q1 q2 q3
  rw [decide_eq_true hw] at b12
  have y := b12.symm.trans kd_true
  clear b12
  obtain ⟨q1, q2⟩ := Prod.mk.inj y
  clear y
  subst q1 q2
  have hh := at_fx h (by decide) (by omega)
  clear h
  obtain ⟨y0, h⟩ := hh
  have y := a14.symm.trans y0
  clear a14 y0
  obtain ⟨q1, qq⟩ := Prod.mk.inj y
  obtain ⟨q2, q3⟩ := Prod.mk.inj qq
  clear y qq
  subst q1 q2 q3
  rw [decide_eq_true (by rfl)] at b14
  have y := b14.symm.trans kd_true
  clear b14
  obtain ⟨q1, q2⟩ := Prod.mk.inj y
  clear y
  subst q1 q2
  refine ⟨rfl, rfl, rfl, rfl, rfl, rfl, rfl, rfl, rfl, rfl, ?_, h⟩
  omega

theorem At.tl (B : List Bool) : At (pstr (tlB B)) 0 (B ++ trB B.length) := by
  refine ⟨by omega, ?_⟩
  have hlen : (tlB B).length = B.length + (8 - B.length % 8) := by unfold tlB; rw [List.length_append]; unfold trB; rw [bitsN_length]
  rw [List.drop_zero, sbits_pstr, hlen, show (8 - (B.length + (8 - B.length % 8)) % 8) % 8 = 0 by omega]
  simp [tlB]
/-- A valid set in numbers. -/
theorem okS_nums {x : SpsD} (h : okS x = true) (hux : okU x) : ∃ p f l i0 a b r u t : Nat, x = ⟨p, f, l, i0, 4 + (a : Int), 4 + (b : Int), r, 1 + (u : Int), 1 + (t : Int)⟩ ∧ p < 256 ∧ f < 256 ∧ l < 256 ∧ i0 ≤ 31 ∧ a ≤ 12 ∧ b ≤ 12 ∧ r ≤ 16 ∧ u ≤ 127 ∧ t ≤ 127 ∧ (u + 1) * (t + 1) ≤ 8160 ∧ sB x = sBits p f l i0 a b r u t := by
  obtain ⟨m1, m2, m3, m4, m5, m6, m7, m8, m9, m10, m11, m12, m13⟩ := okS_bounds h
  obtain ⟨n1, n2, n3, n4, n5, n6⟩ := hux
  obtain ⟨pr, fl, le, id, fb, pb, refs, w0, h0⟩ := x
  simp only at *
  obtain ⟨p, rfl⟩ : ∃ k : Nat, pr = (k : Int) := ⟨pr.toNat, by omega⟩
  obtain ⟨f, rfl⟩ : ∃ k : Nat, fl = (k : Int) := ⟨fl.toNat, by omega⟩
  obtain ⟨l, rfl⟩ : ∃ k : Nat, le = (k : Int) := ⟨le.toNat, by omega⟩
  obtain ⟨i0, rfl⟩ : ∃ k : Nat, id = (k : Int) := ⟨id.toNat, by omega⟩
  obtain ⟨a, rfl⟩ : ∃ k : Nat, fb = 4 + (k : Int) := ⟨(fb - 4).toNat, by omega⟩
  obtain ⟨b, rfl⟩ : ∃ k : Nat, pb = 4 + (k : Int) := ⟨(pb - 4).toNat, by omega⟩
  obtain ⟨r, rfl⟩ : ∃ k : Nat, refs = (k : Int) := ⟨refs.toNat, by omega⟩
  obtain ⟨u, rfl⟩ : ∃ k : Nat, w0 = 1 + (k : Int) := ⟨(w0 - 1).toNat, by omega⟩
  obtain ⟨t, rfl⟩ : ∃ k : Nat, h0 = 1 + (k : Int) := ⟨(h0 - 1).toNat, by omega⟩
  refine ⟨p, f, l, i0, a, b, r, u, t, rfl, by omega, by omega, by omega, by omega, by omega, by omega, by omega, by omega, by omega, ?_, ?_⟩
  · have : (((u + 1) * (t + 1) : Nat) : Int) ≤ 8160 := by push_cast; rw [Int.add_comm _ 1, Int.add_comm _ 1]; exact m13
    omega
  · unfold sB
    simp only [Int.toNat_natCast]
    rw [show (4 + (a : Int) - 4).toNat = a by omega, show (4 + (b : Int) - 4).toNat = b by omega, show (1 + (u : Int) - 1).toNat = u by omega, show (1 + (t : Int) - 1).toNat = t by omega]
theorem sPay_ok {x : SpsD} (h : okS x = true) : sPay x = pstr (tlB (sB x)) := by unfold sPay; rw [if_pos h]
theorem sPay_no {x : SpsD} (h : okS x = false) : sPay x = ⟨#[]⟩ := by unfold sPay; rw [h]; rfl
/-- What was written is read. -/
theorem sDec_enc {x : SpsD} (h : okS x = true) (hux : okU x) : sDec (sPay x) = (x, 0) := by
  obtain ⟨p, f, l, i0, a, b, r, u, t, rfl, hp, hf, hl, hi, ha, hb, hr0, hu, ht, hw, hB⟩ := okS_nums h hux
  obtain ⟨v, e, i, hr⟩ := spsRun_ex (sPay ⟨p, f, l, i0, 4 + (a : Int), 4 + (b : Int), r, 1 + (u : Int), 1 + (t : Int)⟩)
  rw [sDec_run hr]
  rw [sPay_ok h, hB] at hr
  obtain ⟨y1, y2, y3, y4, y5, y6, y7, y8, y9, y10, y11, y12⟩ := sRun_fwd hp hf hl hi ha hb hr0 hu ht hw (At.tl (sBits p f l i0 a b r u t)) hr
  have he : e 16 = 0 := by
    have := hr.b15
    rw [if_pos y10] at this
    rw [← this]
    rw [← y11] at y12
    exact at_end y12
  rw [he, if_pos rfl]
  unfold spsOf
  rw [y1, y2, y3, y4, y5, y6, y7, y8, y9]

/-- What is read is written. -/
theorem sDec_back {s : ByteArray} {x : SpsD} (h : sDec s = (x, 0)) : okS x = true ∧ okU x ∧ sPay x = s := by
  obtain ⟨v, e, i, hr⟩ := spsRun_ex s
  rw [sDec_run hr] at h
  obtain ⟨h1, h2⟩ := Prod.mk.inj h
  clear h
  rw [h2, if_pos rfl] at h1
  subst h1
  have e15 : e 15 = 0 := by
    by_cases c : e 15 = 0
    · exact c
    · exact absurd ((hr.stay15 c).symm.trans h2) c
  obtain ⟨a1, a2, a3, a4, a5, a6, a7, a8, a9, b9, a11, a12, b12, a14, b14, b15⟩ := hr
  rw [e15, if_pos rfl, h2] at b15
  unfold spsOf
  generalize v 1 = v1 at *
  generalize v 2 = v2 at *
  generalize v 3 = v3 at *
  generalize v 4 = v4 at *
  generalize v 5 = v5 at *
  generalize v 6 = v6 at *
  generalize v 7 = v7 at *
  generalize v 8 = v8 at *
  generalize v 9 = v9 at *
  generalize v 11 = v11 at *
  generalize v 12 = v12 at *
  generalize v 14 = v14 at *
  generalize e 1 = e1 at *
  generalize e 2 = e2 at *
  generalize e 3 = e3 at *
  generalize e 4 = e4 at *
  generalize e 5 = e5 at *
  generalize e 6 = e6 at *
  generalize e 7 = e7 at *
  generalize e 8 = e8 at *
  generalize e 9 = e9 at *
  generalize e 10 = e10 at *
  generalize e 11 = e11 at *
  generalize e 12 = e12 at *
  generalize e 13 = e13 at *
  generalize e 14 = e14 at *
  generalize e 15 = e15 at *
  generalize e 16 = e16 at *
  generalize i 1 = i1 at *
  generalize i 2 = i2 at *
  generalize i 3 = i3 at *
  generalize i 4 = i4 at *
  generalize i 5 = i5 at *
  generalize i 6 = i6 at *
  generalize i 7 = i7 at *
  generalize i 8 = i8 at *
  generalize i 9 = i9 at *
  generalize i 10 = i10 at *
  generalize i 11 = i11 at *
  generalize i 12 = i12 at *
  generalize i 13 = i13 at *
  generalize i 14 = i14 at *
  generalize i 15 = i15 at *
  clear v e i
  subst e15
  obtain ⟨rfl, t15, r15⟩ := kd_fwd (by decide) b14
  clear b14
  obtain ⟨rfl, r14, -, g14, l14⟩ := fx_fwd (by decide) a14
  clear a14
  obtain ⟨rfl, t13, r13⟩ := kd_fwd (by decide) b12
  clear b12
  obtain ⟨rfl, m12, r12, k12, g12⟩ := nm_fwd (by decide) a12
  clear a12
  obtain ⟨rfl, m11, r11, k11, g11⟩ := nm_fwd (by decide) a11
  clear a11
  obtain ⟨rfl, t10, r10⟩ := kd_fwd (by decide) b9
  clear b9
  obtain ⟨rfl, r9, -, g9, l9⟩ := fx_fwd (by decide) a9
  clear a9
  obtain ⟨rfl, m8, r8, k8, g8⟩ := nm_fwd (by decide) a8
  clear a8
  obtain ⟨rfl, m7, r7, k7, g7⟩ := nm_fwd (by decide) a7
  clear a7
  obtain ⟨rfl, m6, r6, k6, g6⟩ := nm_fwd (by decide) a6
  clear a6
  obtain ⟨rfl, m5, r5, k5, g5⟩ := nm_fwd (by decide) a5
  clear a5
  obtain ⟨rfl, m4, r4, k4, g4⟩ := nm_fwd (by decide) a4
  clear a4
  obtain ⟨rfl, r3, -, g3, l3⟩ := fx_fwd (by decide) a3
  clear a3
  obtain ⟨rfl, r2, -, g2, l2⟩ := fx_fwd (by decide) a2
  clear a2
  obtain ⟨-, r1, -, g1, l1⟩ := fx_fwd (by decide) a1
  clear a1
  simp only [decide_eq_true_eq] at t10 t13 t15
  subst t10 t15 r10 r13
  rw [r15] at b15
  clear r15
  obtain rfl : v6 = 0 := by omega
  have z1 : i1 = 0 + 8 := r1
  have j1 := seg_join (show seg (sbits s) 0 0 = [] by simp [seg]) g1
  rw [← r1] at j1
  have j2 := seg_join j1 g2
  rw [← r2] at j2
  have j3 := seg_join j2 g3
  rw [← r3] at j3
  have j4 := seg_join j3 g4
  rw [← r4] at j4
  have j5 := seg_join j4 g5
  rw [← r5] at j5
  have j6 := seg_join j5 g6
  rw [← r6] at j6
  have j7 := seg_join j6 g7
  rw [← r7] at j7
  have j8 := seg_join j7 g8
  rw [← r8] at j8
  have j9 := seg_join j8 g9
  rw [← r9] at j9
  have j11 := seg_join j9 g11
  rw [← r11] at j11
  have j12 := seg_join j11 g12
  rw [← r12] at j12
  have j14 := seg_join j12 g14
  rw [← r14] at j14
  have hS : seg (sbits s) 0 i14 = sBits v1 v2 v3 v4 v5 v7 v8 v11 v12 := by rw [j14]; unfold sBits; simp only [List.nil_append]
  have hL : (sBits v1 v2 v3 v4 v5 v7 v8 v11 v12).length = i14 := by
    unfold sBits
    simp only [List.length_append, bitsN_length]
    omega
  have hle : i14 ≤ 8 * s.size := by
    by_cases c : 8 * s.size ≤ i14
    · unfold enE at b15; rw [if_pos c] at b15; exact absurd b15 (by decide)
    · omega
  have hE := (only_law hle).1 b15
  rw [hS] at hE
  have hok : okS ⟨(v1 : Int), v2, v3, v4, 4 + (v5 : Int), 4 + (v7 : Int), v8, 1 + (v11 : Int), 1 + (v12 : Int)⟩ = true := by
    unfold okS
    have : ¬ 8160 < (1 + (v11 : Int)) * (1 + (v12 : Int)) := by
      have h2 : (1 + (v11 : Int)) * (1 + (v12 : Int)) = (((v11 + 1) * (v12 + 1) : Nat) : Int) := by push_cast; rw [Int.add_comm 1, Int.add_comm 1]
      rw [h2]; omega
    simp only [Bool.and_eq_true, decide_eq_true_eq, Bool.not_eq_true', decide_eq_false_iff_not]
    refine ⟨⟨⟨⟨⟨⟨⟨?_, ?_⟩, ?_, ?_⟩, ?_, ?_⟩, ?_, ?_⟩, ?_, ?_⟩, ?_, ?_⟩, this⟩ <;> omega
  have hok2 : okU ⟨(v1 : Int), v2, v3, v4, 4 + (v5 : Int), 4 + (v7 : Int), v8, 1 + (v11 : Int), 1 + (v12 : Int)⟩ := by
    unfold okU; simp only; omega
  refine ⟨hok, hok2, ?_⟩
  rw [sPay_ok hok]
  unfold sB tlB
  simp only [Int.toNat_natCast]
  rw [show (4 + (v5 : Int) - 4).toNat = v5 by omega, show (4 + (v7 : Int) - 4).toNat = v7 by omega, show (1 + (v11 : Int) - 1).toNat = v11 by omega, show (1 + (v12 : Int) - 1).toNat = v12 by omega, hL]
  exact hE

theorem sPay_size {x : SpsD} (h : okS x = true) (hux : okU x) : 5 ≤ (sPay x).size ∧ (sPay x).size ≤ 12 := by
  obtain ⟨p, f, l, i0, a, b, r, u, t, rfl, hp, hf, hl, hi, ha, hb, hr0, hu, ht, hw, hB⟩ := okS_nums h hux
  rw [sPay_ok h, hB]
  have e : (pstr (tlB (sBits p f l i0 a b r u t))).size = ((tlB (sBits p f l i0 a b r u t)).length + 7) / 8 := by
    show (packB _).toArray.size = _
    rw [List.size_toArray, packB_length]
  have hL : (sBits p f l i0 a b r u t).length = 8 + 8 + 8 + (2 * ueN i0 + 1) + (2 * ueN a + 1) + (2 * ueN 0 + 1) + (2 * ueN b + 1) + (2 * ueN r + 1) + 1 + (2 * ueN u + 1) + (2 * ueN t + 1) + 4 := by unfold sBits; simp only [List.length_append, bitsN_length, ueB_length]
  have hT : (tlB (sBits p f l i0 a b r u t)).length = (sBits p f l i0 a b r u t).length + (8 - (sBits p f l i0 a b r u t).length % 8) := by unfold tlB; rw [List.length_append]; unfold trB; rw [bitsN_length]
  have g1 : ueN i0 ≤ 5 := ueN_lt (by omega)
  have g2 : ueN a ≤ 3 := ueN_lt (by omega)
  have g3 : ueN 0 ≤ 0 := ueN_lt (by omega)
  have g4 : ueN b ≤ 3 := ueN_lt (by omega)
  have g5 : ueN r ≤ 4 := ueN_lt (by omega)
  have g6 : ueN u ≤ 7 := ueN_lt (by omega)
  have g7 : ueN t ≤ 7 := ueN_lt (by omega)
  rw [e, hT, hL]
  omega

/-- A payload is not the beginning of another one. -/
theorem sBits_pre {p f l i0 a b r u t p' f' l' i0' a' b' r' u' t' : Nat} {R T : List Bool} (hp : p < 256) (hf : f < 256) (hl : l < 256) (hi : i0 ≤ 31) (ha : a ≤ 12) (hb : b ≤ 12) (hr0 : r ≤ 16) (hu : u ≤ 127) (ht : t ≤ 127) (hw : (u + 1) * (t + 1) ≤ 8160) (hp' : p' < 256) (hf' : f' < 256) (hl' : l' < 256) (hi' : i0' ≤ 31) (ha' : a' ≤ 12) (hb' : b' ≤ 12) (hr0' : r' ≤ 16) (hu' : u' ≤ 127) (ht' : t' ≤ 127) (hw' : (u' + 1) * (t' + 1) ≤ 8160) (h : sBits p f l i0 a b r u t ++ R = sBits p' f' l' i0' a' b' r' u' t' ++ T) :
    p = p' ∧ f = f' ∧ l = l' ∧ i0 = i0' ∧ a = a' ∧ b = b' ∧ r = r' ∧ u = u' ∧ t = t' := by
  unfold sBits at h
  simp only [List.append_assoc] at h
  obtain ⟨x1, h⟩ := bitsN_pre (by omega) (by omega) h
  obtain ⟨x2, h⟩ := bitsN_pre (by omega) (by omega) h
  obtain ⟨x3, h⟩ := bitsN_pre (by omega) (by omega) h
  obtain ⟨x4, h⟩ := ueB_pre (by omega) (by omega) h
  obtain ⟨x5, h⟩ := ueB_pre (by omega) (by omega) h
  obtain ⟨-, h⟩ := ueB_pre (by omega) (by omega) h
  obtain ⟨x6, h⟩ := ueB_pre (by omega) (by omega) h
  obtain ⟨x7, h⟩ := ueB_pre (by omega) (by omega) h
  obtain ⟨-, h⟩ := bitsN_pre (by omega) (by omega) h
  obtain ⟨x8, h⟩ := ueB_pre (by omega) (by omega) h
  obtain ⟨x9, h⟩ := ueB_pre (by omega) (by omega) h
  exact ⟨x1, x2, x3, x4, x5, x6, x7, x8, x9⟩
theorem sbits_pay {x : SpsD} (h : okS x = true) : sbits (sPay x) = sB x ++ trB (sB x).length := by
  rw [sPay_ok h]
  have := (At.tl (sB x)).2
  rwa [List.drop_zero] at this
theorem sPay_pre {x y : SpsD} (hx : okS x = true) (hxu : okU x) (hy : okS y = true) (hyu : okU y) {Z : List Bool} (h : sbits (sPay y) = sbits (sPay x) ++ Z) : x = y := by
  rw [sbits_pay hx, sbits_pay hy] at h
  obtain ⟨p, f, l, i0, a, b, r, u, t, rfl, hp, hf, hl, hi, ha, hb, hr0, hu, ht, hw, hB⟩ := okS_nums hx hxu
  obtain ⟨p', f', l', i0', a', b', r', u', t', rfl, hp', hf', hl', hi', ha', hb', hr0', hu', ht', hw', hB'⟩ := okS_nums hy hyu
  rw [hB, hB', List.append_assoc] at h
  obtain ⟨rfl, rfl, rfl, rfl, rfl, rfl, rfl, rfl, rfl⟩ := sBits_pre hp' hf' hl' hi' ha' hb' hr0' hu' ht' hw' hp hf hl hi ha hb hr0 hu ht hw h
  rfl

/-- A payload that is cut is refused. -/
theorem sDec_cut {x : SpsD} (h : okS x = true) (hux : okU x) {s : ByteArray} {Z : List Bool} (hZ : sbits (sPay x) = sbits s ++ Z) (hlt : s.size < (sPay x).size) : (sDec s).2 = 4 ∨ (sDec s).2 = 5 := by
  have hT := sbits_pay h
  have hPay := sPay_ok h
  obtain ⟨p, f, l, i0, a, b, r, u, t, rfl, hp, hf, hl, hi, ha, hb, hr0, hu, ht, hw, hB⟩ := okS_nums h hux
  generalize sPay ⟨p, f, l, i0, 4 + (a : Int), 4 + (b : Int), r, 1 + (u : Int), 1 + (t : Int)⟩ = T at *
  rw [hB] at hT hPay
  have hA : At T 0 (sBits p f l i0 a b r u t ++ trB (sBits p f l i0 a b r u t).length) := ⟨by omega, by rw [List.drop_zero]; exact hT⟩
  have hL : (sBits p f l i0 a b r u t).length = 8 + 8 + 8 + (ueB i0).length + (ueB a).length + (ueB 0).length + (ueB b).length + (ueB r).length + 1 + (ueB u).length + (ueB t).length + 4 := by unfold sBits; simp only [List.length_append, bitsN_length]
  obtain ⟨v, e, i, hr⟩ := spsRun_ex s
  rw [sDec_run hr]
  show e 16 = 4 ∨ e 16 = 5
  have st := hr
  obtain ⟨N, hN⟩ : ∃ N, N = (sBits p f l i0 a b r u t).length := ⟨_, rfl⟩
  obtain ⟨B, hBB⟩ : ∃ B, B = sBits p f l i0 a b r u t := ⟨_, rfl⟩
  rw [← hBB] at hN hPay
  rw [← hBB, ← hN] at hL
  rw [← hBB, ← hN, hBB] at hA
  unfold sBits at hA
  simp only [List.append_assoc] at hA
  have hsg := hT
  rw [← hBB, ← hN] at hsg
  obtain ⟨a1, a2, a3, a4, a5, a6, a7, a8, a9, b9, a11, a12, b12, a14, b14, b15⟩ := hr
  have s1 := st.stay1
  have s2 := st.stay2
  have s3 := st.stay3
  have s4 := st.stay4
  have s5 := st.stay5
  have s6 := st.stay6
  have s7 := st.stay7
  have s8 := st.stay8
  have s9 := st.stay9
  have s10 := st.stay10
  have s11 := st.stay11
  have s12 := st.stay12
  have s13 := st.stay13
  have s14 := st.stay14
  have s15 := st.stay15
  clear st
  generalize v 1 = v1 at *
  generalize v 2 = v2 at *
  generalize v 3 = v3 at *
  generalize v 4 = v4 at *
  generalize v 5 = v5 at *
  generalize v 6 = v6 at *
  generalize v 7 = v7 at *
  generalize v 8 = v8 at *
  generalize v 9 = v9 at *
  generalize v 11 = v11 at *
  generalize v 12 = v12 at *
  generalize v 14 = v14 at *
  generalize e 1 = e1 at *
  generalize e 2 = e2 at *
  generalize e 3 = e3 at *
  generalize e 4 = e4 at *
  generalize e 5 = e5 at *
  generalize e 6 = e6 at *
  generalize e 7 = e7 at *
  generalize e 8 = e8 at *
  generalize e 9 = e9 at *
  generalize e 10 = e10 at *
  generalize e 11 = e11 at *
  generalize e 12 = e12 at *
  generalize e 13 = e13 at *
  generalize e 14 = e14 at *
  generalize e 15 = e15 at *
  generalize e 16 = e16 at *
  generalize i 1 = i1 at *
  generalize i 2 = i2 at *
  generalize i 3 = i3 at *
  generalize i 4 = i4 at *
  generalize i 5 = i5 at *
  generalize i 6 = i6 at *
  generalize i 7 = i7 at *
  generalize i 8 = i8 at *
  generalize i 9 = i9 at *
  generalize i 10 = i10 at *
  generalize i 11 = i11 at *
  generalize i 12 = i12 at *
  generalize i 13 = i13 at *
  generalize i 14 = i14 at *
  generalize i 15 = i15 at *
  clear v e i
  have hi0 : 0 ≤ 8 * s.size := by omega
  rcases cut_fx hZ hi0 hA (by decide) with ⟨hi1, R1, y⟩ | y
  rotate_left
  · right; have z := y _ _ _ a1; rw [s1 (by rw [z]; decide), z]
  obtain ⟨y0, -⟩ := at_fx y (by decide) (by omega)
  have hh := at_fx hA (by decide) (by omega)
  clear hA
  obtain ⟨-, hA⟩ := hh
  clear y R1
  have y := a1.symm.trans y0
  clear a1 hi0 y0
  obtain ⟨q1, qq⟩ := Prod.mk.inj y
  obtain ⟨q2, q3⟩ := Prod.mk.inj qq
  clear y qq
  subst q1 q2 q3
  have hi0 := hi1
  clear hi1
  rcases cut_fx hZ hi0 hA (by decide) with ⟨hi1, R1, y⟩ | y
  rotate_left
  · right; have z := y _ _ _ a2; rw [s2 (by rw [z]; decide), z]
  obtain ⟨y0, -⟩ := at_fx y (by decide) (by omega)
  have hh := at_fx hA (by decide) (by omega)
  clear hA
  obtain ⟨-, hA⟩ := hh
  clear y R1
  have y := a2.symm.trans y0
  clear a2 hi0 y0
  obtain ⟨q1, qq⟩ := Prod.mk.inj y
  obtain ⟨q2, q3⟩ := Prod.mk.inj qq
  clear y qq
  subst q1 q2 q3
  have hi0 := hi1
  clear hi1
  rcases cut_fx hZ hi0 hA (by decide) with ⟨hi1, R1, y⟩ | y
  rotate_left
  · right; have z := y _ _ _ a3; rw [s3 (by rw [z]; decide), z]
  obtain ⟨y0, -⟩ := at_fx y (by decide) (by omega)
  have hh := at_fx hA (by decide) (by omega)
  clear hA
  obtain ⟨-, hA⟩ := hh
  clear y R1
  have y := a3.symm.trans y0
  clear a3 hi0 y0
  obtain ⟨q1, qq⟩ := Prod.mk.inj y
  obtain ⟨q2, q3⟩ := Prod.mk.inj qq
  clear y qq
  subst q1 q2 q3
  have hi0 := hi1
  clear hi1
  rcases cut_nm (m := 31) (wr := 3) hZ hi0 hA (by omega) with ⟨hi1, R1, y⟩ | y
  rotate_left
  · right; have z := y _ _ _ a4; rw [s4 (by rw [z]; decide), z]
  obtain ⟨y0, -⟩ := at_nm y (m := 31) (wr := 3) (by decide) (by omega)
  have hh := at_nm hA (m := 31) (wr := 3) (by decide) (by omega)
  clear hA
  obtain ⟨-, hA⟩ := hh
  clear y R1
  have y := a4.symm.trans y0
  clear a4 hi0 y0
  obtain ⟨q1, qq⟩ := Prod.mk.inj y
  obtain ⟨q2, q3⟩ := Prod.mk.inj qq
  clear y qq
  subst q1 q2 q3
  have hi0 := hi1
  clear hi1
  rcases cut_nm (m := 12) (wr := 3) hZ hi0 hA (by omega) with ⟨hi1, R1, y⟩ | y
  rotate_left
  · right; have z := y _ _ _ a5; rw [s5 (by rw [z]; decide), z]
  obtain ⟨y0, -⟩ := at_nm y (m := 12) (wr := 3) (by decide) (by omega)
  have hh := at_nm hA (m := 12) (wr := 3) (by decide) (by omega)
  clear hA
  obtain ⟨-, hA⟩ := hh
  clear y R1
  have y := a5.symm.trans y0
  clear a5 hi0 y0
  obtain ⟨q1, qq⟩ := Prod.mk.inj y
  obtain ⟨q2, q3⟩ := Prod.mk.inj qq
  clear y qq
  subst q1 q2 q3
  have hi0 := hi1
  clear hi1
  rcases cut_nm (m := 0) (wr := 9) hZ hi0 hA (by omega) with ⟨hi1, R1, y⟩ | y
  rotate_left
  · right; have z := y _ _ _ a6; rw [s6 (by rw [z]; decide), z]
  obtain ⟨y0, -⟩ := at_nm y (m := 0) (wr := 9) (by decide) (by omega)
  have hh := at_nm hA (m := 0) (wr := 9) (by decide) (by omega)
  clear hA
  obtain ⟨-, hA⟩ := hh
  clear y R1
  have y := a6.symm.trans y0
  clear a6 hi0 y0
  obtain ⟨q1, qq⟩ := Prod.mk.inj y
  obtain ⟨q2, q3⟩ := Prod.mk.inj qq
  clear y qq
  subst q1 q2 q3
  have hi0 := hi1
  clear hi1
  rcases cut_nm (m := 12) (wr := 3) hZ hi0 hA (by omega) with ⟨hi1, R1, y⟩ | y
  rotate_left
  · right; have z := y _ _ _ a7; rw [s7 (by rw [z]; decide), z]
  obtain ⟨y0, -⟩ := at_nm y (m := 12) (wr := 3) (by decide) (by omega)
  have hh := at_nm hA (m := 12) (wr := 3) (by decide) (by omega)
  clear hA
  obtain ⟨-, hA⟩ := hh
  clear y R1
  have y := a7.symm.trans y0
  clear a7 hi0 y0
  obtain ⟨q1, qq⟩ := Prod.mk.inj y
  obtain ⟨q2, q3⟩ := Prod.mk.inj qq
  clear y qq
  subst q1 q2 q3
  have hi0 := hi1
  clear hi1
  rcases cut_nm (m := 16) (wr := 3) hZ hi0 hA (by omega) with ⟨hi1, R1, y⟩ | y
  rotate_left
  · right; have z := y _ _ _ a8; rw [s8 (by rw [z]; decide), z]
  obtain ⟨y0, -⟩ := at_nm y (m := 16) (wr := 3) (by decide) (by omega)
  have hh := at_nm hA (m := 16) (wr := 3) (by decide) (by omega)
  clear hA
  obtain ⟨-, hA⟩ := hh
  clear y R1
  have y := a8.symm.trans y0
  clear a8 hi0 y0
  obtain ⟨q1, qq⟩ := Prod.mk.inj y
  obtain ⟨q2, q3⟩ := Prod.mk.inj qq
  clear y qq
  subst q1 q2 q3
  have hi0 := hi1
  clear hi1
  rcases cut_fx hZ hi0 hA (by decide) with ⟨hi1, R1, y⟩ | y
  rotate_left
  · right; have z := y _ _ _ a9; rw [s9 (by rw [z]; decide), z]
  obtain ⟨y0, -⟩ := at_fx y (by decide) (by omega)
  have hh := at_fx hA (by decide) (by omega)
  clear hA
  obtain ⟨-, hA⟩ := hh
  clear y R1
  have y := a9.symm.trans y0
  clear a9 hi0 y0
  obtain ⟨q1, qq⟩ := Prod.mk.inj y
  obtain ⟨q2, q3⟩ := Prod.mk.inj qq
  clear y qq
  subst q1 q2 q3
  have hi0 := hi1
  clear hi1
  rw [decide_eq_true (by rfl)] at b9
  have y := b9.symm.trans kd_true
  clear b9
  obtain ⟨q1, q2⟩ := Prod.mk.inj y
  clear y
  subst q1 q2
  rcases cut_nm (m := 127) (wr := 3) hZ hi0 hA (by omega) with ⟨hi1, R1, y⟩ | y
  rotate_left
  · right; have z := y _ _ _ a11; rw [s11 (by rw [z]; decide), z]
  obtain ⟨y0, -⟩ := at_nm y (m := 127) (wr := 3) (by decide) (by omega)
  have hh := at_nm hA (m := 127) (wr := 3) (by decide) (by omega)
  clear hA
  obtain ⟨-, hA⟩ := hh
  clear y R1
  have y := a11.symm.trans y0
  clear a11 hi0 y0
  obtain ⟨q1, qq⟩ := Prod.mk.inj y
  obtain ⟨q2, q3⟩ := Prod.mk.inj qq
  clear y qq
  subst q1 q2 q3
  have hi0 := hi1
  clear hi1
  rcases cut_nm (m := 127) (wr := 3) hZ hi0 hA (by omega) with ⟨hi1, R1, y⟩ | y
  rotate_left
  · right; have z := y _ _ _ a12; rw [s12 (by rw [z]; decide), z]
  obtain ⟨y0, -⟩ := at_nm y (m := 127) (wr := 3) (by decide) (by omega)
  have hh := at_nm hA (m := 127) (wr := 3) (by decide) (by omega)
  clear hA
  obtain ⟨-, hA⟩ := hh
  clear y R1
  have y := a12.symm.trans y0
  clear a12 hi0 y0
  obtain ⟨q1, qq⟩ := Prod.mk.inj y
  obtain ⟨q2, q3⟩ := Prod.mk.inj qq
  clear y qq
  subst q1 q2 q3
  have hi0 := hi1
  clear hi1
  rw [decide_eq_true hw] at b12
  have y := b12.symm.trans kd_true
  clear b12
  obtain ⟨q1, q2⟩ := Prod.mk.inj y
  clear y
  subst q1 q2
  rcases cut_fx hZ hi0 hA (by decide) with ⟨hi1, R1, y⟩ | y
  rotate_left
  · right; have z := y _ _ _ a14; rw [s14 (by rw [z]; decide), z]
  obtain ⟨y0, -⟩ := at_fx y (by decide) (by omega)
  have hh := at_fx hA (by decide) (by omega)
  clear hA
  obtain ⟨-, hA⟩ := hh
  clear y R1
  have y := a14.symm.trans y0
  clear a14 hi0 y0
  obtain ⟨q1, qq⟩ := Prod.mk.inj y
  obtain ⟨q2, q3⟩ := Prod.mk.inj qq
  clear y qq
  subst q1 q2 q3
  have hi0 := hi1
  clear hi1
  rw [decide_eq_true (by rfl)] at b14
  have y := b14.symm.trans kd_true
  clear b14
  obtain ⟨q1, q2⟩ := Prod.mk.inj y
  clear y
  subst q1 q2
  rw [if_pos rfl] at b15
  rw [← b15]
  refine enE_45 (fun h0 => ?_)
  have hN2 : N = 0 + 8 + 8 + 8 + (ueB v4).length + (ueB v5).length + (ueB 0).length + (ueB v7).length + (ueB v8).length + 1 + (ueB v11).length + (ueB v12).length + 4 := by omega
  rw [← hN2] at h0 hi0
  have e1 := (only_law hi0).1 h0
  have e2 : seg (sbits s) 0 N = B := by
    have : seg (sbits T) 0 N = seg (sbits s) 0 N := by rw [hZ, seg_append_left (by rw [sbits_length]; omega)]
    rw [← this, hsg, seg_append_left (by omega), hN]
    unfold seg
    simp
  rw [e2, hN] at e1
  unfold tlB at hPay
  rw [← hPay] at e1
  rw [← e1] at hlt
  omega
/-- A payload with more behind it is refused. -/
theorem sDec_more {x : SpsD} (h : okS x = true) (hux : okU x) {s : ByteArray} {Z : List Bool} (hZ : sbits s = sbits (sPay x) ++ Z) (hlt : (sPay x).size < s.size) : (sDec s).2 = 4 := by
  have hT := sbits_pay h
  have hPay := sPay_ok h
  obtain ⟨p, f, l, i0, a, b, r, u, t, rfl, hp, hf, hl, hi, ha, hb, hr0, hu, ht, hw, hB⟩ := okS_nums h hux
  generalize sPay ⟨p, f, l, i0, 4 + (a : Int), 4 + (b : Int), r, 1 + (u : Int), 1 + (t : Int)⟩ = T at *
  rw [hB] at hT hPay
  obtain ⟨v, e, i, hr⟩ := spsRun_ex s
  rw [sDec_run hr]
  show e 16 = 4
  have hA : At s 0 (sBits p f l i0 a b r u t ++ (trB (sBits p f l i0 a b r u t).length ++ Z)) := ⟨by omega, by rw [List.drop_zero, hZ, hT, List.append_assoc]⟩
  obtain ⟨-, -, -, -, -, -, -, -, -, y10, y11, y12⟩ := sRun_fwd hp hf hl hi ha hb hr0 hu ht hw hA hr
  have hb := hr.b15
  rw [if_pos y10] at hb
  rw [← hb]
  have hlen := congrArg List.length hT
  rw [sbits_length, List.length_append] at hlen
  refine enE_four (by omega) (fun h0 => ?_)
  have e1 := (only_law y12.1).1 h0
  have e2 : seg (sbits s) 0 (i 15) = sBits p f l i0 a b r u t := by
    rw [y11]
    have := hA.2
    rw [List.drop_zero] at this
    rw [this]
    unfold seg
    simp
  rw [e2, y11] at e1
  unfold tlB at hPay
  rw [← hPay] at e1
  rw [← e1] at hlt
  omega
theorem sDec_err {s : ByteArray} (h : (sDec s).2 ≠ 0) : (sDec s).1 = s00 := by
  obtain ⟨v, e, i, hr⟩ := spsRun_ex s
  rw [sDec_run hr] at h ⊢
  exact if_neg h
end Go.Proofs.Ytnigpledibhiaaa
