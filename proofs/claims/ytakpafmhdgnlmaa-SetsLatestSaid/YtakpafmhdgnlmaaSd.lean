/- The walk of SetsLatest. -/
import Derived.Test.YtakpafmhdgnlmaaSb
import Derived.Test.YtakpafmhdgnlmaaFl
import Derived.Deep.RegionHeld3
namespace Go.Proofs.Ytakpafmhdgnlmaa
open Go.RowKit
set_option linter.unusedVariables false
set_option maxRecDepth 100000
set_option linter.unusedSimpArgs false

theorem at4 {a b c d e : AObj} {l : List AObj} : (a :: b :: c :: d :: e :: l)[4]? = some e := rfl
theorem set4 {a b c d e x : AObj} {l : List AObj} : (a :: b :: c :: d :: e :: l).set 4 x = a :: b :: c :: d :: x :: l := rfl

/-- What the arrays say of the store. -/
structure Lat (P : Nat → PpsD) (Q : Nat → SpsD) (Kn Th : Nat → Bool) (f : Int → Option SpsD) (g : Int → Option PpsD) : Prop where
  gk : ∀ k : Nat, k < 4 → g k = if Kn k then some (P k) else none
  g4 : g 4 = none
  fk : ∀ k : Nat, k < 4 → f k = if Th k then some (Q k) else none
  sp : ∀ k : Nat, k < 4 → Kn k = true → 0 ≤ (P k).sps ∧ (P k).sps < 4

theorem Lat.start : Lat (fun _ => p00) (fun _ => s00) (fun _ => false) (fun _ => false) F0 G0 := ⟨fun _ _ => rfl, rfl, fun _ _ => rfl, fun _ _ h => by cases h⟩
theorem Lat.pps {P : Nat → PpsD} {Q : Nat → SpsD} {Kn Th : Nat → Bool} {f : Int → Option SpsD} {g : Int → Option PpsD} (h : Lat P Q Kn Th f g) {i o : Int} {k : Nat} (hk : k < 4) (hi : i % 4 = (k : Int)) {x : PpsD} (hx : pW k (o % 4) = x) :
    Lat (putAt P k x) Q (putAt Kn k true) Th (stS true i o f) (stP true i o g) := by
  have e : stP true i o g = upd g k x := by unfold stP; rw [if_pos rfl, hi, hx]
  rw [e]
  refine ⟨fun j hj => ?_, ?_, h.fk, fun j hj hjk => ?_⟩
  · unfold upd putAt
    by_cases c : j = k
    · subst c; simp
    · rw [if_neg (by omega), if_neg c, if_neg c]; exact h.gk j hj
  · unfold upd; rw [if_neg (by omega)]; exact h.g4
  · unfold putAt at hjk ⊢
    by_cases c : j = k
    · rw [if_pos c, ← hx]
      show 0 ≤ o % 4 ∧ o % 4 < 4
      omega
    · rw [if_neg c] at hjk ⊢; exact h.sp j hj hjk
theorem Lat.sps {P : Nat → PpsD} {Q : Nat → SpsD} {Kn Th : Nat → Bool} {f : Int → Option SpsD} {g : Int → Option PpsD} (h : Lat P Q Kn Th f g) {i o : Int} {k : Nat} (hk : k < 4) (hi : i % 4 = (k : Int)) {x : SpsD} (hx : sW k (o % 17) = x) :
    Lat P (putAt Q k x) Kn (putAt Th k true) (stS false i o f) (stP false i o g) := by
  have e : stS false i o f = upd f k x := by unfold stS; rw [if_neg (by decide), hi, hx]
  rw [e]
  refine ⟨h.gk, h.g4, fun j hj => ?_, h.sp⟩
  unfold upd putAt
  by_cases c : j = k
  · subst c; simp
  · rw [if_neg (by omega), if_neg c, if_neg c]; exact h.fk j hj

theorem lawput_as {W w : World} {L : List AObj} {F : List (Nat × Obj)} {b m1 m2 : Nat} {f f' : Int → Option SpsD} {g g' : Int → Option PpsD} (h : Hp W w L F) (k : Nat) (hk : L[k]? = some (aSt b m1 m2 f g)) {pb : Bool} {i o : Int} (hi : (-9223372036854775808 ≤ i ∧ i < 9223372036854775808) ∧ (-9223372036854775808 ≤ o ∧ o < 9223372036854775808)) (hx : stS pb i o f = f' ∧ stP pb i o g = g') :
    Calls Try.prog 9 #[.pointer (some ⟨b, 0, none⟩), .agg #[.bool pb, .int .i64 i, .int .i64 o]] w fun e w' => e = .returned (.int .i64 0) ∧ Hp W w' (L.set k (aSt b m1 m2 f' g')) F := by
  obtain ⟨rfl, rfl⟩ := hx
  exact lawput_any h k hk pb i o hi.1 hi.2

set_option maxHeartbeats 4000000 in
theorem slatest_walk {W : World} {sp : Option Addr} {n cap b o' : Nat} {C : Nat → List Value} (hin : RowsIn Try.prog W [.bool, .int .i64, .int .i64] sp n b o' C) (hn63 : n ≤ 9223372036854775807) :
    Calls Try.prog 3 #[.slice sp n cap] W fun e w' => e = .returned (.bool true) ∧ Below W.heap.size W w' := by
  have hS := Hp.start W
  have HIN := Lib.hid hin
  clear hin
  obtain ⟨f0, hf0⟩ : ∃ f, F0 = f := ⟨_, rfl⟩
  obtain ⟨g0, hg0⟩ : ∃ f, G0 = f := ⟨_, rfl⟩
  have HF0 := Lib.hid hf0
  have HG0 := Lib.hid hg0
  clear hf0 hg0
  go_enter Try.func3, Try.ntmps3
  go_wp2_with (first | (go_at_call 8; (with_reducible refine (setsnew_as hS HF0.out HG0.out).mono ?_); rintro e w1 ⟨sb, m1, m2, rfl, h1⟩; clear hS))
  have h5 := (((h1.ob_new (pArr fun _ => p00)).ob_new (sArr fun _ => s00)).ob_new (bArr fun _ => false)).ob_new (bArr fun _ => false)
  simp only [World.size_alloc] at h5
  obtain ⟨X, hX⟩ : ∃ X, w1.heap.size = X := ⟨_, rfl⟩
  rw [hX] at h5 ⊢
  have HS := Lib.hid h5
  clear h1 h5 hX
  go_loopw [8] (fun i' wr => ∃ (c : Nat) (P : Nat → PpsD) (Q : Nat → SpsD) (Kn Th : Nat → Bool) (f : Int → Option SpsD) (g : Int → Option PpsD), i' = .int .i64 c ∧ (c ≤ n ∧ c ≤ 40) ∧ Hid (Lat P Q Kn Th f g) ∧ Hp W wr [aOb (X + 1 + 1 + 1) (bArr Th), aOb (X + 1 + 1) (bArr Kn), aOb (X + 1) (sArr Q), aOb X (pArr P), aSt sb m1 m2 f g] []) (fun i' _ => n - (intOf i').toNat)
  case atStart => exact ⟨0, _, _, _, _, _, _, rfl, ⟨Nat.zero_le _, Nat.zero_le _⟩, Lib.hid (by rw [← HF0.out, ← HG0.out]; exact Lat.start), HS.out⟩
  case round =>
    obtain ⟨c, P, Q, Kn, Th, f, g, rfl, ⟨hc1, hc2⟩, HLat, h⟩ := hrel
    by_cases hlt : c < n ∧ c < 40
    · obtain ⟨hlt, h40⟩ := hlt
      obtain ⟨rfl, hblt⟩ := HIN.out.at_ (by omega)
      have k0 := HIN.out.bool hlt 0 rfl
      obtain ⟨k1, z1⟩ := HIN.out.int hlt 1 (k := .i64) rfl
      obtain ⟨k2, z2⟩ := HIN.out.int hlt 2 (k := .i64) rfl
      simp only [List.length_cons, List.length_nil, Nat.zero_add, Nat.reduceAdd, Nat.add_zero] at k0 k1 k2
      have z1 := bounds_i64 z1
      have z2 := bounds_i64 z2
      generalize bat C c 0 = pb at *
      generalize zat C c 1 = i at *
      generalize zat C c 2 = o at *
      have KC : Hid (∀ {w' : World} {L' : List AObj}, Hp W w' L' [] → w'.cell? ⟨b, o' + c * 3, none⟩ = some (.bool pb) ∧ w'.cell? ⟨b, o' + c * 3 + 1, none⟩ = some (.int .i64 i) ∧ w'.cell? ⟨b, o' + c * 3 + 2, none⟩ = some (.int .i64 o)) :=
        Lib.hid fun h => ⟨(h.below.cell (p := ⟨b, _, none⟩) hblt).trans k0, (h.below.cell (p := ⟨b, _, none⟩) hblt).trans k1, (h.below.cell (p := ⟨b, _, none⟩) hblt).trans k2⟩
      obtain ⟨y0, y1, y2⟩ := KC.out h
      have HB : Hid ((-9223372036854775808 ≤ i ∧ i < 9223372036854775808) ∧ (-9223372036854775808 ≤ o ∧ o < 9223372036854775808)) := Lib.hid ⟨by omega, by omega⟩
      clear k0 k1 k2 z1 z2
      obtain ⟨k, hk⟩ : ∃ k : Nat, i % 4 = (k : Int) := ⟨(i % 4).toNat, by omega⟩
      have hk4 : k < 4 := by omega
      have HK := Lib.hid hk
      obtain ⟨f', hf'⟩ : ∃ f', stS pb i o f = f' := ⟨_, rfl⟩
      obtain ⟨g', hg'⟩ : ∃ g', stP pb i o g = g' := ⟨_, rfl⟩
      have HFG := Lib.hid (And.intro hf' hg')
      clear hk
      cases pb with
      | true =>
        obtain ⟨r, hr⟩ : ∃ r, o % 4 = r := ⟨_, rfl⟩
        obtain ⟨x, hx⟩ : ∃ x, pW k r = x := ⟨_, rfl⟩
        have HL2 : Hid (Lat (putAt P k x) Q (putAt Kn k true) Th f' g') := Lib.hid (by rw [← hf', ← hg']; exact HLat.out.pps hk4 HK.out (by rw [hr]; exact hx))
        have HR := Lib.hid hr
        have HX := Lib.hid hx
        clear hf' hg' hr hx
        go_wp2_with (first | (go_at_call 9; (with_reducible refine (lawput_as h 4 at4 HB.out HFG.out).mono ?_); rintro e w2 ⟨rfl, h2⟩; simp only [set4] at h2; obtain ⟨y0, y1, y2⟩ := KC.out h2; clear h) | (go_at_call 10; (with_reducible refine (smod_as i 4 (by decide) (by decide) HB.out.1 HK.out _).mono ?_); rintro e w3 ⟨rfl, rfl⟩) | (go_at_call 10; (with_reducible refine (smod_as o 4 (by decide) (by decide) HB.out.2 HR.out _).mono ?_); rintro e w3 ⟨rfl, rfl⟩) | (go_at_call 11; (with_reducible refine (pps_as HX.out _).mono ?_); rintro e w4 ⟨rfl, hbl⟩; have h3 := h2.same hbl; clear h2 hbl; have qb := h3.ob 3 at3; have qk := h3.ob 1 at1; obtain ⟨a0, a1, a2, a3, a4, a5, a6, a7, a8, a9⟩ := pArr_cells qb hk4; have af := pArr_free qb; have ak := bArr_cells qk hk4; have akf := bArr_free qk))
        have h4 := h3.ob_turn 3 at3 (pArrSet_one w4 X k x) (pArrSet_blk qb x hk4)
        simp only [set3] at h4
        have h5 := h4.ob_turn 1 at1 ((OneBlk.refl _ _).set k (.bool true)) (bArrSet_blk (h4.ob 1 at1) true hk4)
        simp only [set1] at h5
        generalize putAt P k x = P' at HL2 h5
        generalize putAt Kn k true = K' at HL2 h5
        have H5 := Lib.hid h5
        clear h4 h5 a0 a1 a2 a3 a4 a5 a6 a7 a8 a9 af ak akf y0 y1 y2
        clear h3
        clear qb qk
        have HLL := HL2
        clear HL2 HLat
        go_loopw [10] (fun d' wv => ∃ d : Nat, d' = .int .i64 d ∧ d ≤ 5 ∧ Hp W wv [aOb (X + 1 + 1 + 1) (bArr Th), aOb (X + 1 + 1) (bArr K'), aOb (X + 1) (sArr Q), aOb X (pArr P'), aSt sb m1 m2 f' g'] []) (fun d' _ => 5 - (intOf d').toNat)
        case atStart => exact ⟨0, rfl, by omega, H5.out⟩
        case round =>
          obtain ⟨d, rfl, hd, g⟩ := hrel
          by_cases h4 : d < 4
          · have kc := bArr_cells (g.ob 1 at1) h4
            cases hkn : K' d with
            | false =>
              have HR : Hid (decide (getR f' g' d = (p00, s00, 7)) = true) := Lib.hid (decide_eq_true (getR_none _ _ _ (by omega) (by rw [HLL.out.gk d h4, hkn]; rfl)))
              rw [hkn] at kc
              clear hkn
              go_wp2_with (first | (go_at_call 13; (with_reducible refine (has_any g 4 at4 d p00 s00 7 HR.out).mono ?_); rintro e w5 ⟨rfl, g1⟩; clear g))
              go_roundw
              case rel => exact ⟨d + 1, by go_num, by omega, g1⟩
              case measure => simp [intOf]; omega
            | true =>
              rw [hkn] at kc
              have hsp := HLL.out.sp d h4 hkn
              have hgd : g' d = some (P' d) := by rw [HLL.out.gk d h4, hkn]; rfl
              obtain ⟨t, ht⟩ : ∃ t : Nat, (P' d).sps = (t : Int) := ⟨((P' d).sps).toNat, by omega⟩
              have ht4 : t < 4 := by omega
              have tc := bArr_cells (g.ob 0 at0) ht4
              have pc : ∀ {w' : World} {L' : List AObj}, Hp W w' ([aOb (X + 1 + 1 + 1) (bArr Th), aOb (X + 1 + 1) (bArr K'), aOb (X + 1) (sArr Q), aOb X (pArr P'), aSt sb m1 m2 f' g']) [] → _ := fun h => pArr_cells (h.ob 3 at3) h4
              have qc : ∀ {w' : World} {L' : List AObj}, Hp W w' ([aOb (X + 1 + 1 + 1) (bArr Th), aOb (X + 1 + 1) (bArr K'), aOb (X + 1) (sArr Q), aOb X (pArr P'), aSt sb m1 m2 f' g']) [] → _ := fun h => sArr_cells (h.ob 2 at2) ht4
              generalize P' d = p at hsp hgd ht pc
              obtain ⟨a0, a1, a2, a3, a4, a5, a6, a7, a8, a9⟩ := p
              simp only at hsp hgd ht pc
              subst ht
              cases hth : Th t with
              | false =>
                have HR : Hid (decide (getR f' g' d = (p00, s00, 7)) = true) := Lib.hid (decide_eq_true (getR_half _ _ _ (by omega) hgd (by rw [HLL.out.fk t ht4, hth]; rfl)))
                rw [hth] at tc
                obtain ⟨n0, n1, n2, n3, n4, n5, n6, n7, n8, n9⟩ := pc (L' := []) g
                clear hth hkn hgd hsp pc qc n0 n2 n3 n4 n5 n6 n7 n8 n9
                go_wp2_with (first | (go_at_call 13; (with_reducible refine (has_any g 4 at4 d p00 s00 7 HR.out).mono ?_); rintro e w5 ⟨rfl, g1⟩; clear g))
                go_roundw
                case rel => exact ⟨d + 1, by go_num, by omega, g1⟩
                case measure => simp [intOf]; omega
              | true =>
                have hft : f' t = some (Q t) := by rw [HLL.out.fk t ht4, hth]; rfl
                generalize Q t = q at hft qc
                obtain ⟨c0, c1, c2, c3, c4, c5, c6, c7, c8⟩ := q
                simp only at hft qc
                have HR : Hid (decide (getR f' g' d = (⟨a0, (t : Int), a2, a3, a4, a5, a6, a7, a8, a9⟩, ⟨c0, c1, c2, c3, c4, c5, c6, c7, c8⟩, 0)) = true) := Lib.hid (decide_eq_true (getR_both _ _ _ (by omega) hgd hft))
                rw [hth] at tc
                have PQ : Hid (∀ {w' : World}, Hp W w' ([aOb (X + 1 + 1 + 1) (bArr Th), aOb (X + 1 + 1) (bArr K'), aOb (X + 1) (sArr Q), aOb X (pArr P'), aSt sb m1 m2 f' g']) [] → w'.cell? ⟨X, d * 10, none⟩ = some (.int .i64 a0) ∧ w'.cell? ⟨X, d * 10 + 1, none⟩ = some (.int .i64 (t : Int)) ∧ w'.cell? ⟨X, d * 10 + 2, none⟩ = some (.bool a2) ∧ w'.cell? ⟨X, d * 10 + 3, none⟩ = some (.int .i64 a3) ∧ w'.cell? ⟨X, d * 10 + 4, none⟩ = some (.int .i64 a4) ∧ w'.cell? ⟨X, d * 10 + 5, none⟩ = some (.int .i64 a5) ∧ w'.cell? ⟨X, d * 10 + 6, none⟩ = some (.int .i64 a6) ∧ w'.cell? ⟨X, d * 10 + 7, none⟩ = some (.int .i64 a7) ∧ w'.cell? ⟨X, d * 10 + 8, none⟩ = some (.bool a8) ∧ w'.cell? ⟨X, d * 10 + 9, none⟩ = some (.bool a9) ∧ w'.cell? ⟨X + 1, t * 9, none⟩ = some (.int .u8 c0) ∧ w'.cell? ⟨X + 1, t * 9 + 1, none⟩ = some (.int .u8 c1) ∧ w'.cell? ⟨X + 1, t * 9 + 2, none⟩ = some (.int .u8 c2) ∧ w'.cell? ⟨X + 1, t * 9 + 3, none⟩ = some (.int .i64 c3) ∧ w'.cell? ⟨X + 1, t * 9 + 4, none⟩ = some (.int .i64 c4) ∧ w'.cell? ⟨X + 1, t * 9 + 5, none⟩ = some (.int .i64 c5) ∧ w'.cell? ⟨X + 1, t * 9 + 6, none⟩ = some (.int .i64 c6) ∧ w'.cell? ⟨X + 1, t * 9 + 7, none⟩ = some (.int .i64 c7) ∧ w'.cell? ⟨X + 1, t * 9 + 8, none⟩ = some (.int .i64 c8)) := Lib.hid fun h => by
                  obtain ⟨n0, n1, n2, n3, n4, n5, n6, n7, n8, n9⟩ := pc (L' := []) h
                  obtain ⟨r0, r1, r2, r3, r4, r5, r6, r7, r8⟩ := qc (L' := []) h
                  exact ⟨n0, n1, n2, n3, n4, n5, n6, n7, n8, n9, r0, r1, r2, r3, r4, r5, r6, r7, r8⟩
                clear hth hkn hgd hsp hft pc qc
                obtain ⟨n0, n1, n2, n3, n4, n5, n6, n7, n8, n9, r0, r1, r2, r3, r4, r5, r6, r7, r8⟩ := PQ.out g
                have G := Lib.hid g.drew
                have tb1 : (0 : Int) ≤ (t : Int) := by omega
                have tb2 : (t : Int) < 4 := by omega
                have tb3 : (0 : Int) ≤ (d : Int) := by omega
                have tb4 : (d : Int) < 4 := by omega
                go_wp2_with (fail)
                clear g
                go_region_held3 (fun w' => w'.cell? ⟨X, d * 10, none⟩ = some (.int .i64 a0) ∧ w'.cell? ⟨X, d * 10 + 1, none⟩ = some (.int .i64 (t : Int)) ∧ w'.cell? ⟨X, d * 10 + 2, none⟩ = some (.bool a2) ∧ w'.cell? ⟨X, d * 10 + 3, none⟩ = some (.int .i64 a3) ∧ w'.cell? ⟨X, d * 10 + 4, none⟩ = some (.int .i64 a4) ∧ w'.cell? ⟨X, d * 10 + 5, none⟩ = some (.int .i64 a5) ∧ w'.cell? ⟨X, d * 10 + 6, none⟩ = some (.int .i64 a6) ∧ w'.cell? ⟨X, d * 10 + 7, none⟩ = some (.int .i64 a7) ∧ w'.cell? ⟨X, d * 10 + 8, none⟩ = some (.bool a8) ∧ w'.cell? ⟨X, d * 10 + 9, none⟩ = some (.bool a9) ∧ w'.cell? ⟨X + 1, t * 9, none⟩ = some (.int .u8 c0) ∧ w'.cell? ⟨X + 1, t * 9 + 1, none⟩ = some (.int .u8 c1) ∧ w'.cell? ⟨X + 1, t * 9 + 2, none⟩ = some (.int .u8 c2) ∧ w'.cell? ⟨X + 1, t * 9 + 3, none⟩ = some (.int .i64 c3) ∧ w'.cell? ⟨X + 1, t * 9 + 4, none⟩ = some (.int .i64 c4) ∧ w'.cell? ⟨X + 1, t * 9 + 5, none⟩ = some (.int .i64 c5) ∧ w'.cell? ⟨X + 1, t * 9 + 6, none⟩ = some (.int .i64 c6) ∧ w'.cell? ⟨X + 1, t * 9 + 7, none⟩ = some (.int .i64 c7) ∧ w'.cell? ⟨X + 1, t * 9 + 8, none⟩ = some (.int .i64 c8)) (first | exact PQ.out (by assumption) | go_keep) (first | (go_at_call 13; (with_reducible refine (has_any G.out 4 at4 d ⟨a0, (t : Int), a2, a3, a4, a5, a6, a7, a8, a9⟩ ⟨c0, c1, c2, c3, c4, c5, c6, c7, c8⟩ 0 HR.out).mono ?_); rintro e w5 ⟨rfl, g1⟩))
                go_wp2_with (fail)
                go_roundw
                case rel => exact ⟨d + 1, by go_num, by omega, g1⟩
                case measure => simp [intOf]; omega
          · by_cases h5 : d < 5
            · have HR : Hid (decide (getR f' g' d = (p00, s00, 7)) = true) := Lib.hid (by
                obtain rfl : d = 4 := by omega
                exact decide_eq_true (getR_none _ _ _ (by decide) HLL.out.g4))
              go_wp2_with (first | (go_at_call 13; (with_reducible refine (has_any g 4 at4 d p00 s00 7 HR.out).mono ?_); rintro e w5 ⟨rfl, g1⟩; clear g))
              go_roundw
              case rel => exact ⟨d + 1, by go_num, by omega, g1⟩
              case measure => simp [intOf]; omega
            · have G := Lib.hid g
              clear g
              go_wp2_with (fail)
              go_roundw
              case rel => exact ⟨c + 1, P', Q, K', Th, f', g', by go_num, ⟨by omega, by omega⟩, HLL, G.out⟩
              case measure => simp [intOf]; omega
      | false =>
        obtain ⟨r, hr⟩ : ∃ r, o % 17 = r := ⟨_, rfl⟩
        obtain ⟨x, hx⟩ : ∃ x, sW k r = x := ⟨_, rfl⟩
        have HL2 : Hid (Lat P (putAt Q k x) Kn (putAt Th k true) f' g') := Lib.hid (by rw [← hf', ← hg']; exact HLat.out.sps hk4 HK.out (by rw [hr]; exact hx))
        have HR := Lib.hid hr
        have HX := Lib.hid hx
        clear hf' hg' hr hx
        go_wp2_with (first | (go_at_call 9; (with_reducible refine (lawput_as h 4 at4 HB.out HFG.out).mono ?_); rintro e w2 ⟨rfl, h2⟩; simp only [set4] at h2; obtain ⟨y0, y1, y2⟩ := KC.out h2; clear h) | (go_at_call 10; (with_reducible refine (smod_as i 4 (by decide) (by decide) HB.out.1 HK.out _).mono ?_); rintro e w3 ⟨rfl, rfl⟩) | (go_at_call 10; (with_reducible refine (smod_as o 17 (by decide) (by decide) HB.out.2 HR.out _).mono ?_); rintro e w3 ⟨rfl, rfl⟩) | (go_at_call 12; (with_reducible refine (sps_as HX.out _).mono ?_); rintro e w4 ⟨rfl, hbl⟩; have h3 := h2.same hbl; clear h2 hbl; have qb := h3.ob 2 at2; have qk := h3.ob 0 at0; obtain ⟨a0, a1, a2, a3, a4, a5, a6, a7, a8⟩ := sArr_cells qb hk4; have af := sArr_free qb; have ak := bArr_cells qk hk4; have akf := bArr_free qk))
        have h4 := h3.ob_turn 2 at2 (sArrSet_one w4 (X + 1) k x) (sArrSet_blk qb x hk4)
        simp only [set2] at h4
        have h5 := h4.ob_turn 0 at0 ((OneBlk.refl _ _).set k (.bool true)) (bArrSet_blk (h4.ob 0 at0) true hk4)
        simp only [set0] at h5
        generalize putAt Q k x = Q' at HL2 h5
        generalize putAt Th k true = T' at HL2 h5
        have H5 := Lib.hid h5
        clear h4 h5 a0 a1 a2 a3 a4 a5 a6 a7 a8 af ak akf y0 y1 y2
        clear h3
        clear qb qk
        have HLL := HL2
        clear HL2 HLat
        go_loopw [10] (fun d' wv => ∃ d : Nat, d' = .int .i64 d ∧ d ≤ 5 ∧ Hp W wv [aOb (X + 1 + 1 + 1) (bArr T'), aOb (X + 1 + 1) (bArr Kn), aOb (X + 1) (sArr Q'), aOb X (pArr P), aSt sb m1 m2 f' g'] []) (fun d' _ => 5 - (intOf d').toNat)
        case atStart => exact ⟨0, rfl, by omega, H5.out⟩
        case round =>
          obtain ⟨d, rfl, hd, g⟩ := hrel
          by_cases h4 : d < 4
          · have kc := bArr_cells (g.ob 1 at1) h4
            cases hkn : Kn d with
            | false =>
              have HR : Hid (decide (getR f' g' d = (p00, s00, 7)) = true) := Lib.hid (decide_eq_true (getR_none _ _ _ (by omega) (by rw [HLL.out.gk d h4, hkn]; rfl)))
              rw [hkn] at kc
              clear hkn
              go_wp2_with (first | (go_at_call 13; (with_reducible refine (has_any g 4 at4 d p00 s00 7 HR.out).mono ?_); rintro e w5 ⟨rfl, g1⟩; clear g))
              go_roundw
              case rel => exact ⟨d + 1, by go_num, by omega, g1⟩
              case measure => simp [intOf]; omega
            | true =>
              rw [hkn] at kc
              have hsp := HLL.out.sp d h4 hkn
              have hgd : g' d = some (P d) := by rw [HLL.out.gk d h4, hkn]; rfl
              obtain ⟨t, ht⟩ : ∃ t : Nat, (P d).sps = (t : Int) := ⟨((P d).sps).toNat, by omega⟩
              have ht4 : t < 4 := by omega
              have tc := bArr_cells (g.ob 0 at0) ht4
              have pc : ∀ {w' : World} {L' : List AObj}, Hp W w' ([aOb (X + 1 + 1 + 1) (bArr T'), aOb (X + 1 + 1) (bArr Kn), aOb (X + 1) (sArr Q'), aOb X (pArr P), aSt sb m1 m2 f' g']) [] → _ := fun h => pArr_cells (h.ob 3 at3) h4
              have qc : ∀ {w' : World} {L' : List AObj}, Hp W w' ([aOb (X + 1 + 1 + 1) (bArr T'), aOb (X + 1 + 1) (bArr Kn), aOb (X + 1) (sArr Q'), aOb X (pArr P), aSt sb m1 m2 f' g']) [] → _ := fun h => sArr_cells (h.ob 2 at2) ht4
              generalize P d = p at hsp hgd ht pc
              obtain ⟨a0, a1, a2, a3, a4, a5, a6, a7, a8, a9⟩ := p
              simp only at hsp hgd ht pc
              subst ht
              cases hth : T' t with
              | false =>
                have HR : Hid (decide (getR f' g' d = (p00, s00, 7)) = true) := Lib.hid (decide_eq_true (getR_half _ _ _ (by omega) hgd (by rw [HLL.out.fk t ht4, hth]; rfl)))
                rw [hth] at tc
                obtain ⟨n0, n1, n2, n3, n4, n5, n6, n7, n8, n9⟩ := pc (L' := []) g
                clear hth hkn hgd hsp pc qc n0 n2 n3 n4 n5 n6 n7 n8 n9
                go_wp2_with (first | (go_at_call 13; (with_reducible refine (has_any g 4 at4 d p00 s00 7 HR.out).mono ?_); rintro e w5 ⟨rfl, g1⟩; clear g))
                go_roundw
                case rel => exact ⟨d + 1, by go_num, by omega, g1⟩
                case measure => simp [intOf]; omega
              | true =>
                have hft : f' t = some (Q' t) := by rw [HLL.out.fk t ht4, hth]; rfl
                generalize Q' t = q at hft qc
                obtain ⟨c0, c1, c2, c3, c4, c5, c6, c7, c8⟩ := q
                simp only at hft qc
                have HR : Hid (decide (getR f' g' d = (⟨a0, (t : Int), a2, a3, a4, a5, a6, a7, a8, a9⟩, ⟨c0, c1, c2, c3, c4, c5, c6, c7, c8⟩, 0)) = true) := Lib.hid (decide_eq_true (getR_both _ _ _ (by omega) hgd hft))
                rw [hth] at tc
                have PQ : Hid (∀ {w' : World}, Hp W w' ([aOb (X + 1 + 1 + 1) (bArr T'), aOb (X + 1 + 1) (bArr Kn), aOb (X + 1) (sArr Q'), aOb X (pArr P), aSt sb m1 m2 f' g']) [] → w'.cell? ⟨X, d * 10, none⟩ = some (.int .i64 a0) ∧ w'.cell? ⟨X, d * 10 + 1, none⟩ = some (.int .i64 (t : Int)) ∧ w'.cell? ⟨X, d * 10 + 2, none⟩ = some (.bool a2) ∧ w'.cell? ⟨X, d * 10 + 3, none⟩ = some (.int .i64 a3) ∧ w'.cell? ⟨X, d * 10 + 4, none⟩ = some (.int .i64 a4) ∧ w'.cell? ⟨X, d * 10 + 5, none⟩ = some (.int .i64 a5) ∧ w'.cell? ⟨X, d * 10 + 6, none⟩ = some (.int .i64 a6) ∧ w'.cell? ⟨X, d * 10 + 7, none⟩ = some (.int .i64 a7) ∧ w'.cell? ⟨X, d * 10 + 8, none⟩ = some (.bool a8) ∧ w'.cell? ⟨X, d * 10 + 9, none⟩ = some (.bool a9) ∧ w'.cell? ⟨X + 1, t * 9, none⟩ = some (.int .u8 c0) ∧ w'.cell? ⟨X + 1, t * 9 + 1, none⟩ = some (.int .u8 c1) ∧ w'.cell? ⟨X + 1, t * 9 + 2, none⟩ = some (.int .u8 c2) ∧ w'.cell? ⟨X + 1, t * 9 + 3, none⟩ = some (.int .i64 c3) ∧ w'.cell? ⟨X + 1, t * 9 + 4, none⟩ = some (.int .i64 c4) ∧ w'.cell? ⟨X + 1, t * 9 + 5, none⟩ = some (.int .i64 c5) ∧ w'.cell? ⟨X + 1, t * 9 + 6, none⟩ = some (.int .i64 c6) ∧ w'.cell? ⟨X + 1, t * 9 + 7, none⟩ = some (.int .i64 c7) ∧ w'.cell? ⟨X + 1, t * 9 + 8, none⟩ = some (.int .i64 c8)) := Lib.hid fun h => by
                  obtain ⟨n0, n1, n2, n3, n4, n5, n6, n7, n8, n9⟩ := pc (L' := []) h
                  obtain ⟨r0, r1, r2, r3, r4, r5, r6, r7, r8⟩ := qc (L' := []) h
                  exact ⟨n0, n1, n2, n3, n4, n5, n6, n7, n8, n9, r0, r1, r2, r3, r4, r5, r6, r7, r8⟩
                clear hth hkn hgd hsp hft pc qc
                obtain ⟨n0, n1, n2, n3, n4, n5, n6, n7, n8, n9, r0, r1, r2, r3, r4, r5, r6, r7, r8⟩ := PQ.out g
                have G := Lib.hid g.drew
                have tb1 : (0 : Int) ≤ (t : Int) := by omega
                have tb2 : (t : Int) < 4 := by omega
                have tb3 : (0 : Int) ≤ (d : Int) := by omega
                have tb4 : (d : Int) < 4 := by omega
                go_wp2_with (fail)
                clear g
                go_region_held3 (fun w' => w'.cell? ⟨X, d * 10, none⟩ = some (.int .i64 a0) ∧ w'.cell? ⟨X, d * 10 + 1, none⟩ = some (.int .i64 (t : Int)) ∧ w'.cell? ⟨X, d * 10 + 2, none⟩ = some (.bool a2) ∧ w'.cell? ⟨X, d * 10 + 3, none⟩ = some (.int .i64 a3) ∧ w'.cell? ⟨X, d * 10 + 4, none⟩ = some (.int .i64 a4) ∧ w'.cell? ⟨X, d * 10 + 5, none⟩ = some (.int .i64 a5) ∧ w'.cell? ⟨X, d * 10 + 6, none⟩ = some (.int .i64 a6) ∧ w'.cell? ⟨X, d * 10 + 7, none⟩ = some (.int .i64 a7) ∧ w'.cell? ⟨X, d * 10 + 8, none⟩ = some (.bool a8) ∧ w'.cell? ⟨X, d * 10 + 9, none⟩ = some (.bool a9) ∧ w'.cell? ⟨X + 1, t * 9, none⟩ = some (.int .u8 c0) ∧ w'.cell? ⟨X + 1, t * 9 + 1, none⟩ = some (.int .u8 c1) ∧ w'.cell? ⟨X + 1, t * 9 + 2, none⟩ = some (.int .u8 c2) ∧ w'.cell? ⟨X + 1, t * 9 + 3, none⟩ = some (.int .i64 c3) ∧ w'.cell? ⟨X + 1, t * 9 + 4, none⟩ = some (.int .i64 c4) ∧ w'.cell? ⟨X + 1, t * 9 + 5, none⟩ = some (.int .i64 c5) ∧ w'.cell? ⟨X + 1, t * 9 + 6, none⟩ = some (.int .i64 c6) ∧ w'.cell? ⟨X + 1, t * 9 + 7, none⟩ = some (.int .i64 c7) ∧ w'.cell? ⟨X + 1, t * 9 + 8, none⟩ = some (.int .i64 c8)) (first | exact PQ.out (by assumption) | go_keep) (first | (go_at_call 13; (with_reducible refine (has_any G.out 4 at4 d ⟨a0, (t : Int), a2, a3, a4, a5, a6, a7, a8, a9⟩ ⟨c0, c1, c2, c3, c4, c5, c6, c7, c8⟩ 0 HR.out).mono ?_); rintro e w5 ⟨rfl, g1⟩))
                go_wp2_with (fail)
                go_roundw
                case rel => exact ⟨d + 1, by go_num, by omega, g1⟩
                case measure => simp [intOf]; omega
          · by_cases h5 : d < 5
            · have HR : Hid (decide (getR f' g' d = (p00, s00, 7)) = true) := Lib.hid (by
                obtain rfl : d = 4 := by omega
                exact decide_eq_true (getR_none _ _ _ (by decide) HLL.out.g4))
              go_wp2_with (first | (go_at_call 13; (with_reducible refine (has_any g 4 at4 d p00 s00 7 HR.out).mono ?_); rintro e w5 ⟨rfl, g1⟩; clear g))
              go_roundw
              case rel => exact ⟨d + 1, by go_num, by omega, g1⟩
              case measure => simp [intOf]; omega
            · have G := Lib.hid g
              clear g
              go_wp2_with (fail)
              go_roundw
              case rel => exact ⟨c + 1, P, Q', Kn, T', f', g', by go_num, ⟨by omega, by omega⟩, HLL, G.out⟩
              case measure => simp [intOf]; omega
    · have hend : ¬ (c < n ∧ c < 40) := hlt
      have H := Lib.hid h
      clear h
      by_cases hcn : c < n
      · have h40 : ¬ (c : Int) < 40 := by omega
        go_wp2_with (first | (go_at_call 14; (with_reducible refine (awake_any H.out).mono ?_); rintro e w5 ⟨rfl, g1⟩))
        exact bodyPost_ret (results_tmp rfl _ _ _) rfl ⟨rfl, g1.below⟩
      · have hcn' : ¬ (c : Int) < (n : Int) := by omega
        go_wp2_with (first | (go_at_call 14; (with_reducible refine (awake_any H.out).mono ?_); rintro e w5 ⟨rfl, g1⟩))
        exact bodyPost_ret (results_tmp rfl _ _ _) rfl ⟨rfl, g1.below⟩

end Go.Proofs.Ytakpafmhdgnlmaa
