/- The plain law of picture parameter sets' payloads. -/
import Derived.Test.YtkaoeilijdeioaaYa
import Derived.Test.YtkaoeilijdeioaaYv
namespace Go.Proofs.Ytkaoeilijdeioaa
open Go.RowKit
set_option linter.unusedVariables false
set_option maxRecDepth 100000
set_option linter.unusedSimpArgs false
section
variable {s : ByteArray} {v : Nat → Nat} {g e : Nat → Int} {i : Nat → Nat}
theorem fx_stay7 {n i v i2 : Nat} {e e2 : Int} (h : fxR s n (e, i) = (v, e2, i2)) (he : e ≠ 0) : e2 = e := by rw [fxR_not _ _ _ he] at h; exact (Prod.mk.inj (Prod.mk.inj h).2).1.symm
theorem nm_stay7 {m i v i2 : Nat} {wr e e2 : Int} (h : nmR s m wr (e, i) = (v, e2, i2)) (he : e ≠ 0) : e2 = e := by rw [nmR_not _ _ _ _ he] at h; exact (Prod.mk.inj (Prod.mk.inj h).2).1.symm
theorem kd_stay7 {b : Bool} {wr e e2 : Int} {i i2 : Nat} (h : kdR b wr (e, i) = (e2, i2)) (he : e ≠ 0) : e2 = e := by unfold kdR at h; rw [if_neg (by simp [he])] at h; exact (Prod.mk.inj h).1.symm
theorem PpsRun.stay17 (h : PpsRun s v g e i) (he : e 17 ≠ 0) : e 18 = e 17 := by have := h.b18; rw [if_neg he] at this; exact this.symm
theorem PpsRun.stay16 (h : PpsRun s v g e i) (he : e 16 ≠ 0) : e 18 = e 16 := by have x := kd_stay7 h.b14 he; exact (h.stay17 (by rw [x]; exact he)).trans x
theorem PpsRun.stay15 (h : PpsRun s v g e i) (he : e 15 ≠ 0) : e 18 = e 15 := by have x := fx_stay7 h.a14 he; exact (h.stay16 (by rw [x]; exact he)).trans x
theorem PpsRun.stay14 (h : PpsRun s v g e i) (he : e 14 ≠ 0) : e 18 = e 14 := by have x := fx_stay7 h.a13 he; exact (h.stay15 (by rw [x]; exact he)).trans x
theorem PpsRun.stay13 (h : PpsRun s v g e i) (he : e 13 ≠ 0) : e 18 = e 13 := by have x := fx_stay7 h.a12 he; exact (h.stay14 (by rw [x]; exact he)).trans x
theorem PpsRun.stay12 (h : PpsRun s v g e i) (he : e 12 ≠ 0) : e 18 = e 12 := by have x := sg_stay h.a11 he; exact (h.stay13 (by rw [x]; exact he)).trans x
theorem PpsRun.stay11 (h : PpsRun s v g e i) (he : e 11 ≠ 0) : e 18 = e 11 := by have x := sg_stay h.a10 he; exact (h.stay12 (by rw [x]; exact he)).trans x
theorem PpsRun.stay10 (h : PpsRun s v g e i) (he : e 10 ≠ 0) : e 18 = e 10 := by have x := sg_stay h.a9 he; exact (h.stay11 (by rw [x]; exact he)).trans x
theorem PpsRun.stay9 (h : PpsRun s v g e i) (he : e 9 ≠ 0) : e 18 = e 9 := by have x := kd_stay7 h.b8 he; exact (h.stay10 (by rw [x]; exact he)).trans x
theorem PpsRun.stay8 (h : PpsRun s v g e i) (he : e 8 ≠ 0) : e 18 = e 8 := by have x := fx_stay7 h.a8 he; exact (h.stay9 (by rw [x]; exact he)).trans x
theorem PpsRun.stay7 (h : PpsRun s v g e i) (he : e 7 ≠ 0) : e 18 = e 7 := by have x := nm_stay7 h.a7 he; exact (h.stay8 (by rw [x]; exact he)).trans x
theorem PpsRun.stay6 (h : PpsRun s v g e i) (he : e 6 ≠ 0) : e 18 = e 6 := by have x := nm_stay7 h.a6 he; exact (h.stay7 (by rw [x]; exact he)).trans x
theorem PpsRun.stay5 (h : PpsRun s v g e i) (he : e 5 ≠ 0) : e 18 = e 5 := by have x := nm_stay7 h.a5 he; exact (h.stay6 (by rw [x]; exact he)).trans x
theorem PpsRun.stay4 (h : PpsRun s v g e i) (he : e 4 ≠ 0) : e 18 = e 4 := by have x := kd_stay7 h.b4 he; exact (h.stay5 (by rw [x]; exact he)).trans x
theorem PpsRun.stay3 (h : PpsRun s v g e i) (he : e 3 ≠ 0) : e 18 = e 3 := by have x := fx_stay7 h.a4 he; exact (h.stay4 (by rw [x]; exact he)).trans x
theorem PpsRun.stay2 (h : PpsRun s v g e i) (he : e 2 ≠ 0) : e 18 = e 2 := by have x := fx_stay7 h.a3 he; exact (h.stay3 (by rw [x]; exact he)).trans x
theorem PpsRun.stay1 (h : PpsRun s v g e i) (he : e 1 ≠ 0) : e 18 = e 1 := by have x := nm_stay7 h.a2 he; exact (h.stay2 (by rw [x]; exact he)).trans x
end
theorem pRun_fwd {s : ByteArray} {i0 sp c a b : Nat} {q z t : Int} {d n0 : Nat} {R : List Bool} (hi : i0 ≤ 31) (hsp : sp ≤ 31) (hc : c < 2) (ha : a ≤ 31) (hb : b ≤ 31) (hq1 : -26 ≤ q) (hq2 : q ≤ 25) (hz1 : -26 ≤ z) (hz2 : z ≤ 25) (ht1 : -12 ≤ t) (ht2 : t ≤ 12) (hd : d < 2) (hn : n0 < 2) (h : At s 0 (pBits i0 sp c a b q z t d n0 ++ R)) {v : Nat → Nat} {g e : Nat → Int} {i : Nat → Nat} (hr : PpsRun s v g e i) :
    v 1 = i0 ∧ v 2 = sp ∧ v 3 = c ∧ v 6 = a ∧ v 7 = b ∧ g 9 = q ∧ g 10 = z ∧ g 11 = t ∧ v 12 = d ∧ v 13 = n0 ∧ e 17 = 0 ∧ i 17 = (pBits i0 sp c a b q z t d n0).length ∧ At s (i 17) R := by
  obtain ⟨a1, a2, a3, a4, b4, a5, a6, a7, a8, b8, a9, a10, a11, a12, a13, a14, b14, b18⟩ := hr
  have hL : (pBits i0 sp c a b q z t d n0).length = (ueB i0).length + (ueB sp).length + 1 + 1 + (ueB 0).length + (ueB a).length + (ueB b).length + 3 + (ueB (seN q)).length + (ueB (seN z)).length + (ueB (seN t)).length + 1 + 1 + 1 := by unfold pBits; simp only [List.length_append, bitsN_length]
  rw [hL]
  clear hL
  unfold pBits at h
  simp only [List.append_assoc] at h
  generalize v 1 = v1 at *
  generalize v 2 = v2 at *
  generalize v 3 = v3 at *
  generalize v 4 = v4 at *
  generalize v 5 = v5 at *
  generalize v 6 = v6 at *
  generalize v 7 = v7 at *
  generalize v 8 = v8 at *
  generalize v 12 = v12 at *
  generalize v 13 = v13 at *
  generalize v 14 = v14 at *
  generalize g 9 = g9 at *
  generalize g 10 = g10 at *
  generalize g 11 = g11 at *
  generalize e 1 = e1 at *
  generalize e 2 = e2 at *
  generalize e 3 = e3 at *
  generalize e 4 = e4 at *
  generalize e 5 = e5 at *
  generalize e 6 = e6 at *
  generalize e 7 = e7 at *
  generalize e 8 = e8 at *
  generalize e 9 = e9 at *
  generalize e 10 = e10 at *
  generalize e 11 = e11 at *
  generalize e 12 = e12 at *
  generalize e 13 = e13 at *
  generalize e 14 = e14 at *
  generalize e 15 = e15 at *
  generalize e 16 = e16 at *
  generalize e 17 = e17 at *
  generalize e 18 = e18 at *
  generalize i 1 = i1 at *
  generalize i 2 = i2 at *
  generalize i 3 = i3 at *
  generalize i 4 = i4 at *
  generalize i 5 = i5 at *
  generalize i 6 = i6 at *
  generalize i 7 = i7 at *
  generalize i 8 = i8 at *
  generalize i 9 = i9 at *
  generalize i 10 = i10 at *
  generalize i 11 = i11 at *
  generalize i 12 = i12 at *
  generalize i 13 = i13 at *
  generalize i 14 = i14 at *
  generalize i 15 = i15 at *
  generalize i 16 = i16 at *
  generalize i 17 = i17 at *
  clear v g e i
  have hh := at_nm h (m := 31) (wr := 3) (by decide) (by omega)
  clear h
  obtain ⟨y0, h⟩ := hh
  have y := a1.symm.trans y0
  clear a1 y0
  obtain ⟨q1_, qq⟩ := Prod.mk.inj y
  obtain ⟨q2_, q3_⟩ := Prod.mk.inj qq
  clear y qq
  subst q1_ q2_ q3_
  have hh := at_nm h (m := 31) (wr := 3) (by decide) (by omega)
  clear h
  obtain ⟨y0, h⟩ := hh
  have y := a2.symm.trans y0
  clear a2 y0
  obtain ⟨q1_, qq⟩ := Prod.mk.inj y
  obtain ⟨q2_, q3_⟩ := Prod.mk.inj qq
  clear y qq
  subst q1_ q2_ q3_
  have hh := at_fx h (by decide) (by omega)
  clear h
  obtain ⟨y0, h⟩ := hh
  have y := a3.symm.trans y0
  clear a3 y0
  obtain ⟨q1_, qq⟩ := Prod.mk.inj y
  obtain ⟨q2_, q3_⟩ := Prod.mk.inj qq
  clear y qq
  subst q1_ q2_ q3_
  have hh := at_fx h (by decide) (by omega)
  clear h
  obtain ⟨y0, h⟩ := hh
  have y := a4.symm.trans y0
  clear a4 y0
  obtain ⟨q1_, qq⟩ := Prod.mk.inj y
  obtain ⟨q2_, q3_⟩ := Prod.mk.inj qq
  clear y qq
  subst q1_ q2_ q3_
  rw [decide_eq_true (by rfl)] at b4
  have y := b4.symm.trans kd_true
  clear b4
  obtain ⟨q1_, q2_⟩ := Prod.mk.inj y
  clear y
  subst q1_ q2_
  have hh := at_nm h (m := 0) (wr := 9) (by decide) (by omega)
  clear h
  obtain ⟨y0, h⟩ := hh
  have y := a5.symm.trans y0
  clear a5 y0
  obtain ⟨q1_, qq⟩ := Prod.mk.inj y
  obtain ⟨q2_, q3_⟩ := Prod.mk.inj qq
  clear y qq
  subst q1_ q2_ q3_
  have hh := at_nm h (m := 31) (wr := 3) (by decide) (by omega)
  clear h
  obtain ⟨y0, h⟩ := hh
  have y := a6.symm.trans y0
  clear a6 y0
  obtain ⟨q1_, qq⟩ := Prod.mk.inj y
  obtain ⟨q2_, q3_⟩ := Prod.mk.inj qq
  clear y qq
  subst q1_ q2_ q3_
  have hh := at_nm h (m := 31) (wr := 3) (by decide) (by omega)
  clear h
  obtain ⟨y0, h⟩ := hh
  have y := a7.symm.trans y0
  clear a7 y0
  obtain ⟨q1_, qq⟩ := Prod.mk.inj y
  obtain ⟨q2_, q3_⟩ := Prod.mk.inj qq
  clear y qq
  subst q1_ q2_ q3_
  have hh := at_fx h (by decide) (by omega)
  clear h
  obtain ⟨y0, h⟩ := hh
  have y := a8.symm.trans y0
  clear a8 y0
  obtain ⟨q1_, qq⟩ := Prod.mk.inj y
  obtain ⟨q2_, q3_⟩ := Prod.mk.inj qq
  clear y qq
  subst q1_ q2_ q3_
  rw [decide_eq_true (by rfl)] at b8
  have y := b8.symm.trans kd_true
  clear b8
  obtain ⟨q1_, q2_⟩ := Prod.mk.inj y
  clear y
  subst q1_ q2_
  have hh := at_sg h (lo := -26) (hi := 25) (by omega) (by omega) (by omega) (by omega)
  clear h
  obtain ⟨y0, h⟩ := hh
  have y := a9.symm.trans y0
  clear a9 y0
  obtain ⟨q1_, qq⟩ := Prod.mk.inj y
  obtain ⟨q2_, q3_⟩ := Prod.mk.inj qq
  clear y qq
  subst q1_ q2_ q3_
  have hh := at_sg h (lo := -26) (hi := 25) (by omega) (by omega) (by omega) (by omega)
  clear h
  obtain ⟨y0, h⟩ := hh
  have y := a10.symm.trans y0
  clear a10 y0
  obtain ⟨q1_, qq⟩ := Prod.mk.inj y
  obtain ⟨q2_, q3_⟩ := Prod.mk.inj qq
  clear y qq
  subst q1_ q2_ q3_
  have hh := at_sg h (lo := -12) (hi := 12) (by omega) (by omega) (by omega) (by omega)
  clear h
  obtain ⟨y0, h⟩ := hh
  have y := a11.symm.trans y0
  clear a11 y0
  obtain ⟨q1_, qq⟩ := Prod.mk.inj y
  obtain ⟨q2_, q3_⟩ := Prod.mk.inj qq
  clear y qq
  subst q1_ q2_ q3_
  have hh := at_fx h (by decide) (by omega)
  clear h
  obtain ⟨y0, h⟩ := hh
  have y := a12.symm.trans y0
  clear a12 y0
  obtain ⟨q1_, qq⟩ := Prod.mk.inj y
  obtain ⟨q2_, q3_⟩ := Prod.mk.inj qq
  clear y qq
  subst q1_ q2_ q3_
  have hh := at_fx h (by decide) (by omega)
  clear h
  obtain ⟨y0, h⟩ := hh
  have y := a13.symm.trans y0
  clear a13 y0
  obtain ⟨q1_, qq⟩ := Prod.mk.inj y
  obtain ⟨q2_, q3_⟩ := Prod.mk.inj qq
  clear y qq
  subst q1_ q2_ q3_
  have hh := at_fx h (by decide) (by omega)
  clear h
  obtain ⟨y0, h⟩ := hh
  have y := a14.symm.trans y0
  clear a14 y0
  obtain ⟨q1_, qq⟩ := Prod.mk.inj y
  obtain ⟨q2_, q3_⟩ := Prod.mk.inj qq
  clear y qq
  subst q1_ q2_ q3_
  rw [decide_eq_true (by rfl)] at b14
  have y := b14.symm.trans kd_true
  clear b14
  obtain ⟨q1_, q2_⟩ := Prod.mk.inj y
  clear y
  subst q1_ q2_
  refine ⟨rfl, rfl, rfl, rfl, rfl, rfl, rfl, rfl, rfl, rfl, rfl, ?_, h⟩
  omega
theorem At.tl7 (B : List Bool) : At (pstr (tlB B)) 0 (B ++ trB B.length) := by
  refine ⟨by omega, ?_⟩
  have hlen : (tlB B).length = B.length + (8 - B.length % 8) := by unfold tlB; rw [List.length_append]; unfold trB; rw [bitsN_length]
  rw [List.drop_zero, sbits_pstr, hlen, show (8 - (B.length + (8 - B.length % 8)) % 8) % 8 = 0 by omega]
  simp [tlB]
theorem okP_nums {x : PpsD} (h : okP x = true) : ∃ (i0 sp c a b : Nat) (q z t : Int) (d n0 : Nat), x = ⟨i0, sp, c == 1, 1 + (a : Int), 1 + (b : Int), q, z, t, d == 1, n0 == 1⟩ ∧ i0 ≤ 31 ∧ sp ≤ 31 ∧ c < 2 ∧ a ≤ 31 ∧ b ≤ 31 ∧ -26 ≤ q ∧ q ≤ 25 ∧ -26 ≤ z ∧ z ≤ 25 ∧ -12 ≤ t ∧ t ≤ 12 ∧ d < 2 ∧ n0 < 2 ∧ ppB x = pBits i0 sp c a b q z t d n0 := by
  obtain ⟨m1, m2, m3, m4, m5, m6, m7, m8, m9, m10, m11, m12, m13, m14⟩ := okP_bounds h
  obtain ⟨id, sps, cab, refs, refs1, qp, qs, ch, deb, intra⟩ := x
  simp only at *
  obtain ⟨i0, rfl⟩ : ∃ k : Nat, id = (k : Int) := ⟨id.toNat, by omega⟩
  obtain ⟨sp, rfl⟩ : ∃ k : Nat, sps = (k : Int) := ⟨sps.toNat, by omega⟩
  obtain ⟨a, rfl⟩ : ∃ k : Nat, refs = 1 + (k : Int) := ⟨(refs - 1).toNat, by omega⟩
  obtain ⟨b, rfl⟩ : ∃ k : Nat, refs1 = 1 + (k : Int) := ⟨(refs1 - 1).toNat, by omega⟩
  refine ⟨i0, sp, cab.toNat, a, b, qp, qs, ch, deb.toNat, intra.toNat, ?_, by omega, by omega, ?_, by omega, by omega, m9, m10, m11, m12, m13, m14, ?_, ?_, ?_⟩
  · cases cab <;> cases deb <;> cases intra <;> rfl
  · cases cab <;> decide
  · cases deb <;> decide
  · cases intra <;> decide
  · unfold ppB
    simp only [Int.toNat_natCast]
    rw [show (1 + (a : Int) - 1).toNat = a by omega, show (1 + (b : Int) - 1).toNat = b by omega]
theorem pPay_ok {x : PpsD} (h : okP x = true) : pPay x = pstr (tlB (ppB x)) := by unfold pPay; rw [if_pos h]
theorem pPay_no {x : PpsD} (h : okP x = false) : pPay x = ⟨#[]⟩ := by unfold pPay; rw [h]; rfl
/-- What was written is read. -/
theorem pDec_enc {x : PpsD} (h : okP x = true) : pDec (pPay x) = (x, 0) := by
  obtain ⟨i0, sp, c, a, b, q, z, t, d, n0, hx, hi, hsp, hc, ha, hb, hq1, hq2, hz1, hz2, ht1, ht2, hd, hn, hB⟩ := okP_nums h
  obtain ⟨v, g, e, i, hr⟩ := ppsRun_ex (pPay x)
  rw [pDec_run hr]
  rw [pPay_ok h, hB] at hr
  obtain ⟨y1, y2, y3, y4, y5, y6, y7, y8, y9, y10, y11, y12, y13⟩ := pRun_fwd hi hsp hc ha hb hq1 hq2 hz1 hz2 ht1 ht2 hd hn (At.tl7 (pBits i0 sp c a b q z t d n0)) hr
  have he : e 18 = 0 := by
    have := hr.b18
    rw [if_pos y11] at this
    rw [← this]
    rw [← y12] at y13
    exact at_end y13
  rw [he, if_pos rfl, hx]
  unfold ppsOf
  rw [y1, y2, y3, y4, y5, y6, y7, y8, y9, y10]

/-- What is read is written. -/
theorem pDec_back {s : ByteArray} {x : PpsD} (h : pDec s = (x, 0)) : okP x = true ∧ pPay x = s := by
  obtain ⟨v, g, e, i, hr⟩ := ppsRun_ex s
  rw [pDec_run hr] at h
  obtain ⟨h1, h2⟩ := Prod.mk.inj h
  clear h
  rw [h2, if_pos rfl] at h1
  subst h1
  have e17 : e 17 = 0 := by
    by_cases c : e 17 = 0
    · exact c
    · exact absurd ((hr.stay17 c).symm.trans h2) c
  obtain ⟨a1, a2, a3, a4, b4, a5, a6, a7, a8, b8, a9, a10, a11, a12, a13, a14, b14, b18⟩ := hr
  rw [e17, if_pos rfl, h2] at b18
  unfold ppsOf
  generalize v 1 = v1 at *
  generalize v 2 = v2 at *
  generalize v 3 = v3 at *
  generalize v 4 = v4 at *
  generalize v 5 = v5 at *
  generalize v 6 = v6 at *
  generalize v 7 = v7 at *
  generalize v 8 = v8 at *
  generalize v 12 = v12 at *
  generalize v 13 = v13 at *
  generalize v 14 = v14 at *
  generalize g 9 = g9 at *
  generalize g 10 = g10 at *
  generalize g 11 = g11 at *
  generalize e 1 = e1 at *
  generalize e 2 = e2 at *
  generalize e 3 = e3 at *
  generalize e 4 = e4 at *
  generalize e 5 = e5 at *
  generalize e 6 = e6 at *
  generalize e 7 = e7 at *
  generalize e 8 = e8 at *
  generalize e 9 = e9 at *
  generalize e 10 = e10 at *
  generalize e 11 = e11 at *
  generalize e 12 = e12 at *
  generalize e 13 = e13 at *
  generalize e 14 = e14 at *
  generalize e 15 = e15 at *
  generalize e 16 = e16 at *
  generalize e 17 = e17 at *
  generalize e 18 = e18 at *
  generalize i 1 = i1 at *
  generalize i 2 = i2 at *
  generalize i 3 = i3 at *
  generalize i 4 = i4 at *
  generalize i 5 = i5 at *
  generalize i 6 = i6 at *
  generalize i 7 = i7 at *
  generalize i 8 = i8 at *
  generalize i 9 = i9 at *
  generalize i 10 = i10 at *
  generalize i 11 = i11 at *
  generalize i 12 = i12 at *
  generalize i 13 = i13 at *
  generalize i 14 = i14 at *
  generalize i 15 = i15 at *
  generalize i 16 = i16 at *
  generalize i 17 = i17 at *
  clear v g e i
  subst e17
  obtain ⟨rfl, t17, r17⟩ := kd_fwd (by decide) b14
  clear b14
  obtain ⟨rfl, r16, -, j16, l16⟩ := fx_fwd (by decide) a14
  clear a14
  obtain ⟨rfl, r15, -, j15, l15⟩ := fx_fwd (by decide) a13
  clear a13
  obtain ⟨rfl, r14, -, j14, l14⟩ := fx_fwd (by decide) a12
  clear a12
  obtain ⟨rfl, m13, n13, r13, k13, j13⟩ := sg_fwd a11
  clear a11
  obtain ⟨rfl, m12, n12, r12, k12, j12⟩ := sg_fwd a10
  clear a10
  obtain ⟨rfl, m11, n11, r11, k11, j11⟩ := sg_fwd a9
  clear a9
  obtain ⟨rfl, t10, r10⟩ := kd_fwd (by decide) b8
  clear b8
  obtain ⟨rfl, r9, -, j9, l9⟩ := fx_fwd (by decide) a8
  clear a8
  obtain ⟨rfl, m8, r8, k8, j8⟩ := nm_fwd (by decide) a7
  clear a7
  obtain ⟨rfl, m7, r7, k7, j7⟩ := nm_fwd (by decide) a6
  clear a6
  obtain ⟨rfl, m6, r6, k6, j6⟩ := nm_fwd (by decide) a5
  clear a5
  obtain ⟨rfl, t5, r5⟩ := kd_fwd (by decide) b4
  clear b4
  obtain ⟨rfl, r4, -, j4, l4⟩ := fx_fwd (by decide) a4
  clear a4
  obtain ⟨rfl, r3, -, j3, l3⟩ := fx_fwd (by decide) a3
  clear a3
  obtain ⟨rfl, m2, r2, k2, j2⟩ := nm_fwd (by decide) a2
  clear a2
  obtain ⟨-, m1, r1, k1, j1⟩ := nm_fwd (by decide) a1
  clear a1
  simp only [decide_eq_true_eq] at t5 t10 t17
  subst t5 t10 t17
  obtain rfl : v5 = 0 := by omega
  rw [r17] at b18
  clear r17
  have J := seg_join (show seg (sbits s) 0 0 = [] by simp [seg]) j1
  rw [← r1] at J
  replace J := seg_join J j2
  rw [← r2] at J
  replace J := seg_join J j3
  rw [← r3] at J
  replace J := seg_join J j4
  rw [← r4] at J
  rw [← r5] at J
  replace J := seg_join J j6
  rw [← r6] at J
  replace J := seg_join J j7
  rw [← r7] at J
  replace J := seg_join J j8
  rw [← r8] at J
  replace J := seg_join J j9
  rw [← r9] at J
  rw [← r10] at J
  replace J := seg_join J j11
  rw [← r11] at J
  replace J := seg_join J j12
  rw [← r12] at J
  replace J := seg_join J j13
  rw [← r13] at J
  replace J := seg_join J j14
  rw [← r14] at J
  replace J := seg_join J j15
  rw [← r15] at J
  replace J := seg_join J j16
  rw [← r16] at J
  have hS : seg (sbits s) 0 i16 = pBits v1 v2 v3 v6 v7 g9 g10 g11 v12 v13 := by rw [J]; unfold pBits; simp only [List.nil_append]
  have hL : (pBits v1 v2 v3 v6 v7 g9 g10 g11 v12 v13).length = i16 := by
    unfold pBits
    simp only [List.length_append, bitsN_length]
    omega
  have hle : i16 ≤ 8 * s.size := by
    by_cases c : 8 * s.size ≤ i16
    · unfold enE at b18; rw [if_pos c] at b18; exact absurd b18 (by decide)
    · omega
  have hE := (only_law hle).1 b18
  rw [hS] at hE
  have hok : okP ⟨(v1 : Int), v2, v3 == 1, 1 + (v6 : Int), 1 + (v7 : Int), g9, g10, g11, v12 == 1, v13 == 1⟩ = true := by
    unfold okP
    simp only [Bool.and_eq_true, decide_eq_true_eq]
    refine ⟨⟨⟨⟨⟨⟨⟨?_, ?_⟩, ?_, ?_⟩, ?_, ?_⟩, ?_, ?_⟩, ?_, ?_⟩, ?_, ?_⟩, ?_, ?_⟩ <;> omega
  refine ⟨hok, ?_⟩
  rw [pPay_ok hok]
  have tn : ∀ k : Nat, k < 2 ^ 1 → (k == 1).toNat = k := fun k hk => by
    have : k = 0 ∨ k = 1 := by omega
    rcases this with rfl | rfl <;> rfl
  unfold ppB tlB
  simp only [Int.toNat_natCast]
  rw [show (1 + (v6 : Int) - 1).toNat = v6 by omega, show (1 + (v7 : Int) - 1).toNat = v7 by omega, tn v3 (by omega), tn v12 (by omega), tn v13 (by omega), hL]
  exact hE
theorem pDec_err {s : ByteArray} (h : (pDec s).2 ≠ 0) : (pDec s).1 = p00 := by
  obtain ⟨v, g, e, i, hr⟩ := ppsRun_ex s
  rw [pDec_run hr] at h ⊢
  exact if_neg h
theorem sbits_ppay {x : PpsD} (h : okP x = true) : sbits (pPay x) = ppB x ++ trB (ppB x).length := by
  rw [pPay_ok h]
  have := (At.tl7 (ppB x)).2
  rwa [List.drop_zero] at this
theorem pPay_size {x : PpsD} (h : okP x = true) : 3 ≤ (pPay x).size ∧ (pPay x).size ≤ 11 := by
  obtain ⟨i0, sp, c, a, b, q, z, t, d, n0, hx, hi, hsp, hc, ha, hb, hq1, hq2, hz1, hz2, ht1, ht2, hd, hn, hB⟩ := okP_nums h
  rw [pPay_ok h, hB]
  have e : (pstr (tlB (pBits i0 sp c a b q z t d n0))).size = ((tlB (pBits i0 sp c a b q z t d n0)).length + 7) / 8 := by
    show (packB _).toArray.size = _
    rw [List.size_toArray, packB_length]
  have hL : (pBits i0 sp c a b q z t d n0).length = (2 * ueN i0 + 1) + (2 * ueN sp + 1) + 1 + 1 + (2 * ueN 0 + 1) + (2 * ueN a + 1) + (2 * ueN b + 1) + 3 + (2 * ueN (seN q) + 1) + (2 * ueN (seN z) + 1) + (2 * ueN (seN t) + 1) + 1 + 1 + 1 := by unfold pBits; simp only [List.length_append, bitsN_length, ueB_length]
  have hT : (tlB (pBits i0 sp c a b q z t d n0)).length = (pBits i0 sp c a b q z t d n0).length + (8 - (pBits i0 sp c a b q z t d n0).length % 8) := by unfold tlB; rw [List.length_append]; unfold trB; rw [bitsN_length]
  have s1 : seN q ≤ 52 := by unfold seN; split <;> omega
  have s2 : seN z ≤ 52 := by unfold seN; split <;> omega
  have s3 : seN t ≤ 24 := by unfold seN; split <;> omega
  have g1 : ueN i0 ≤ 5 := ueN_lt (by omega)
  have g2 : ueN sp ≤ 5 := ueN_lt (by omega)
  have g3 : ueN 0 ≤ 0 := ueN_lt (by omega)
  have g4 : ueN a ≤ 5 := ueN_lt (by omega)
  have g5 : ueN b ≤ 5 := ueN_lt (by omega)
  have g6 : ueN (seN q) ≤ 5 := ueN_lt (by omega)
  have g7 : ueN (seN z) ≤ 5 := ueN_lt (by omega)
  have g8 : ueN (seN t) ≤ 4 := ueN_lt (by omega)
  rw [e, hT, hL]
  omega
end Go.Proofs.Ytkaoeilijdeioaa
