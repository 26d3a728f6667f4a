/- The walk of SetsCopies. -/
import Derived.Test.YtakpafmhdgnlmaaSe
import Derived.Test.YtakpafmhdgnlmaaFl
namespace Go.Proofs.Ytakpafmhdgnlmaa
open Go.RowKit
set_option linter.unusedVariables false
set_option maxRecDepth 100000
set_option linter.unusedSimpArgs false

theorem lawput_as {W w : World} {L : List AObj} {F : List (Nat × Obj)} {b m1 m2 : Nat} {f f' : Int → Option SpsD} {g g' : Int → Option PpsD} (h : Hp W w L F) (k : Nat) (hk : L[k]? = some (aSt b m1 m2 f g)) {pb : Bool} {i o : Int} (hi : (-9223372036854775808 ≤ i ∧ i < 9223372036854775808) ∧ (-9223372036854775808 ≤ o ∧ o < 9223372036854775808)) (hx : stS pb i o f = f' ∧ stP pb i o g = g') :
    Calls Try.prog 9 #[.pointer (some ⟨b, 0, none⟩), .agg #[.bool pb, .int .i64 i, .int .i64 o]] w fun e w' => e = .returned (.int .i64 0) ∧ Hp W w' (L.set k (aSt b m1 m2 f' g')) F := by
  obtain ⟨rfl, rfl⟩ := hx
  exact lawput_any h k hk pb i o hi.1 hi.2

set_option maxHeartbeats 8000000 in
theorem scopies_walk {W : World} {sp1 sp2 sp3 : Option Addr} {n1 c1 b1 o1 n2 c2 b2 o2 n3 c3 b3 o3 : Nat} {C1 C2 C3 : Nat → List Value} (hin1 : RowsIn Try.prog W [.bool, .int .i64, .int .i64] sp1 n1 b1 o1 C1) (hm1 : n1 ≤ 9223372036854775807) (hin2 : RowsIn Try.prog W [.bool, .int .i64, .int .i64] sp2 n2 b2 o2 C2) (hm2 : n2 ≤ 9223372036854775807) (hin3 : RowsIn Try.prog W [.bool, .int .i64, .int .i64] sp3 n3 b3 o3 C3) (hm3 : n3 ≤ 9223372036854775807) :
    Calls Try.prog 7 #[.slice sp1 n1 c1, .slice sp2 n2 c2, .slice sp3 n3 c3] W fun e w' => e = .returned (.bool true) ∧ Below W.heap.size W w' := by
  have hS := Hp.start W
  have HIN1 := Lib.hid hin1
  have HIN2 := Lib.hid hin2
  have HIN3 := Lib.hid hin3
  clear hin1 hin2 hin3
  obtain ⟨f0, hf0⟩ : ∃ f, F0 = f := ⟨_, rfl⟩
  obtain ⟨g0, hg0⟩ : ∃ f, G0 = f := ⟨_, rfl⟩
  have HF0 := Lib.hid hf0
  have HG0 := Lib.hid hg0
  clear hf0 hg0
  go_enter Try.func7, Try.ntmps7
  go_wp2_with (first | (go_at_call 8; (with_reducible refine (setsnew_as hS HF0.out HG0.out).mono ?_); rintro e w1 ⟨sb, x1, x2, rfl, h1⟩; clear hS) | (go_at_call 8; (with_reducible refine (setsnew_as h1 HF0.out HG0.out).mono ?_); rintro e w1 ⟨al, z1, z2, rfl, h2⟩; clear h1))
  have H0 := Lib.hid h2
  clear h2
  go_loopw [9] (fun i' wr => ∃ (c : Nat) (f : Int → Option SpsD) (g : Int → Option PpsD), i' = .int .i64 c ∧ c ≤ n1 ∧ Hp W wr [aSt al z1 z2 f g, aSt sb x1 x2 f g] []) (fun i' _ => n1 - (intOf i').toNat)
  case atStart => exact ⟨0, _, _, rfl, Nat.zero_le _, H0.out⟩
  case round =>
    obtain ⟨c, f, g, rfl, hc, h⟩ := hrel
    by_cases hlt : c < n1
    · by_cases h20 : c < 20
      · have hdum := True.intro
        obtain ⟨rfl, hblt⟩ := HIN1.out.at_ (by omega)
        have k0 := HIN1.out.bool hlt 0 rfl
        obtain ⟨k1, q1⟩ := HIN1.out.int hlt 1 (k := .i64) rfl
        obtain ⟨k2, q2⟩ := HIN1.out.int hlt 2 (k := .i64) rfl
        simp only [List.length_cons, List.length_nil, Nat.zero_add, Nat.reduceAdd, Nat.add_zero] at k0 k1 k2
        have q1 := bounds_i64 q1
        have q2 := bounds_i64 q2
        generalize bat C1 c 0 = pb at *
        generalize zat C1 c 1 = i at *
        generalize zat C1 c 2 = o at *
        have KC : Hid (∀ {w' : World} {L' : List AObj}, Hp W w' L' [] → w'.cell? ⟨b1, o1 + c * 3, none⟩ = some (.bool pb) ∧ w'.cell? ⟨b1, o1 + c * 3 + 1, none⟩ = some (.int .i64 i) ∧ w'.cell? ⟨b1, o1 + c * 3 + 2, none⟩ = some (.int .i64 o)) :=
          Lib.hid fun h => ⟨(h.below.cell (p := ⟨b1, _, none⟩) hblt).trans k0, (h.below.cell (p := ⟨b1, _, none⟩) hblt).trans k1, (h.below.cell (p := ⟨b1, _, none⟩) hblt).trans k2⟩
        obtain ⟨v0, v1, v2⟩ := KC.out h
        have HB : Hid ((-9223372036854775808 ≤ i ∧ i < 9223372036854775808) ∧ (-9223372036854775808 ≤ o ∧ o < 9223372036854775808)) := Lib.hid ⟨by omega, by omega⟩
        clear k0 k1 k2 q1 q2
        obtain ⟨f', hf'⟩ : ∃ f', stS pb i o f = f' := ⟨_, rfl⟩
        obtain ⟨g', hg'⟩ : ∃ g', stP pb i o g = g' := ⟨_, rfl⟩
        have HFG := Lib.hid (And.intro hf' hg')
        clear hf' hg'
        go_wp2_with (first | (go_at_call 9; (with_reducible refine (lawput_as h 1 at1 HB.out HFG.out).mono ?_); rintro e w2 ⟨rfl, j0⟩; simp only [set1] at j0; obtain ⟨v0, v1, v2⟩ := KC.out j0; clear h) | (go_at_call 9; (with_reducible refine (lawput_as j0 0 at0 HB.out HFG.out).mono ?_); rintro e w2 ⟨rfl, j1⟩; simp only [set0] at j1; obtain ⟨v0, v1, v2⟩ := KC.out j1; clear j0))
        go_roundw
        case rel => exact ⟨c + 1, f', g', by go_num, by omega, j1⟩
        case measure => simp [intOf]; omega
      · have h20f : ¬ (c : Int) < 20 := by omega
        have H := Lib.hid h
        clear h hc
        go_wp2_with (first | (go_at_call 22; (with_reducible refine (scopy_any H.out 1 at1).mono ?_); rintro e w3 ⟨tb, y1, y2, rfl, hh⟩))
        have H := Lib.hid hh
        clear hh
        go_loopw [11] (fun i' wr => ∃ (c : Nat) (f : Int → Option SpsD) (g : Int → Option PpsD) (f2 : Int → Option SpsD) (g2 : Int → Option PpsD), i' = .int .i64 c ∧ c ≤ n3 ∧ Hp W wr [aSt tb y1 y2 f2 g2, aSt al z1 z2 f g, aSt sb x1 x2 f g] []) (fun i' _ => n3 - (intOf i').toNat)
        case atStart => exact ⟨0, _, _, _, _, rfl, Nat.zero_le _, H.out⟩
        case round =>
          obtain ⟨c, f, g, f2, g2, rfl, hc, h⟩ := hrel
          by_cases hlt : c < n3
          · by_cases h20 : c < 20
            · have hdum := True.intro
              obtain ⟨rfl, hblt⟩ := HIN3.out.at_ (by omega)
              have k0 := HIN3.out.bool hlt 0 rfl
              obtain ⟨k1, q1⟩ := HIN3.out.int hlt 1 (k := .i64) rfl
              obtain ⟨k2, q2⟩ := HIN3.out.int hlt 2 (k := .i64) rfl
              simp only [List.length_cons, List.length_nil, Nat.zero_add, Nat.reduceAdd, Nat.add_zero] at k0 k1 k2
              have q1 := bounds_i64 q1
              have q2 := bounds_i64 q2
              generalize bat C3 c 0 = pb at *
              generalize zat C3 c 1 = i at *
              generalize zat C3 c 2 = o at *
              have KC : Hid (∀ {w' : World} {L' : List AObj}, Hp W w' L' [] → w'.cell? ⟨b3, o3 + c * 3, none⟩ = some (.bool pb) ∧ w'.cell? ⟨b3, o3 + c * 3 + 1, none⟩ = some (.int .i64 i) ∧ w'.cell? ⟨b3, o3 + c * 3 + 2, none⟩ = some (.int .i64 o)) :=
                Lib.hid fun h => ⟨(h.below.cell (p := ⟨b3, _, none⟩) hblt).trans k0, (h.below.cell (p := ⟨b3, _, none⟩) hblt).trans k1, (h.below.cell (p := ⟨b3, _, none⟩) hblt).trans k2⟩
              obtain ⟨v0, v1, v2⟩ := KC.out h
              have HB : Hid ((-9223372036854775808 ≤ i ∧ i < 9223372036854775808) ∧ (-9223372036854775808 ≤ o ∧ o < 9223372036854775808)) := Lib.hid ⟨by omega, by omega⟩
              clear k0 k1 k2 q1 q2
              obtain ⟨f', hf'⟩ : ∃ f', stS pb i o f2 = f' := ⟨_, rfl⟩
              obtain ⟨g', hg'⟩ : ∃ g', stP pb i o g2 = g' := ⟨_, rfl⟩
              have HFG := Lib.hid (And.intro hf' hg')
              clear hf' hg'
              go_wp2_with (first | (go_at_call 9; (with_reducible refine (lawput_as h 0 at0 HB.out HFG.out).mono ?_); rintro e w2 ⟨rfl, j0⟩; simp only [set0] at j0; obtain ⟨v0, v1, v2⟩ := KC.out j0; clear h))
              go_roundw
              case rel => exact ⟨c + 1, f, g, f', g', by go_num, by omega, j0⟩
              case measure => simp [intOf]; omega
            · have h20f : ¬ (c : Int) < 20 := by omega
              have H := Lib.hid h
              clear h hc
              go_wp2_with (fail)
              go_loopw [12] (fun i' wr => ∃ (c : Nat) (f : Int → Option SpsD) (g : Int → Option PpsD) (f2 : Int → Option SpsD) (g2 : Int → Option PpsD), i' = .int .i64 c ∧ c ≤ n2 ∧ Hp W wr [aSt tb y1 y2 f2 g2, aSt al z1 z2 f g, aSt sb x1 x2 f g] []) (fun i' _ => n2 - (intOf i').toNat)
              case atStart => exact ⟨0, _, _, _, _, rfl, Nat.zero_le _, H.out⟩
              case round =>
                obtain ⟨c, f, g, f2, g2, rfl, hc, h⟩ := hrel
                by_cases hlt : c < n2
                · by_cases h20 : c < 20
                  · have hdum := True.intro
                    obtain ⟨rfl, hblt⟩ := HIN2.out.at_ (by omega)
                    have k0 := HIN2.out.bool hlt 0 rfl
                    obtain ⟨k1, q1⟩ := HIN2.out.int hlt 1 (k := .i64) rfl
                    obtain ⟨k2, q2⟩ := HIN2.out.int hlt 2 (k := .i64) rfl
                    simp only [List.length_cons, List.length_nil, Nat.zero_add, Nat.reduceAdd, Nat.add_zero] at k0 k1 k2
                    have q1 := bounds_i64 q1
                    have q2 := bounds_i64 q2
                    generalize bat C2 c 0 = pb at *
                    generalize zat C2 c 1 = i at *
                    generalize zat C2 c 2 = o at *
                    have KC : Hid (∀ {w' : World} {L' : List AObj}, Hp W w' L' [] → w'.cell? ⟨b2, o2 + c * 3, none⟩ = some (.bool pb) ∧ w'.cell? ⟨b2, o2 + c * 3 + 1, none⟩ = some (.int .i64 i) ∧ w'.cell? ⟨b2, o2 + c * 3 + 2, none⟩ = some (.int .i64 o)) :=
                      Lib.hid fun h => ⟨(h.below.cell (p := ⟨b2, _, none⟩) hblt).trans k0, (h.below.cell (p := ⟨b2, _, none⟩) hblt).trans k1, (h.below.cell (p := ⟨b2, _, none⟩) hblt).trans k2⟩
                    obtain ⟨v0, v1, v2⟩ := KC.out h
                    have HB : Hid ((-9223372036854775808 ≤ i ∧ i < 9223372036854775808) ∧ (-9223372036854775808 ≤ o ∧ o < 9223372036854775808)) := Lib.hid ⟨by omega, by omega⟩
                    clear k0 k1 k2 q1 q2
                    obtain ⟨f', hf'⟩ : ∃ f', stS pb i o f = f' := ⟨_, rfl⟩
                    obtain ⟨g', hg'⟩ : ∃ g', stP pb i o g = g' := ⟨_, rfl⟩
                    have HFG := Lib.hid (And.intro hf' hg')
                    clear hf' hg'
                    go_wp2_with (first | (go_at_call 9; (with_reducible refine (lawput_as h 2 at2 HB.out HFG.out).mono ?_); rintro e w2 ⟨rfl, j0⟩; simp only [set2] at j0; obtain ⟨v0, v1, v2⟩ := KC.out j0; clear h) | (go_at_call 9; (with_reducible refine (lawput_as j0 1 at1 HB.out HFG.out).mono ?_); rintro e w2 ⟨rfl, j1⟩; simp only [set1] at j1; obtain ⟨v0, v1, v2⟩ := KC.out j1; clear j0))
                    go_roundw
                    case rel => exact ⟨c + 1, f', g', f2, g2, by go_num, by omega, j1⟩
                    case measure => simp [intOf]; omega
                  · have h20f : ¬ (c : Int) < 20 := by omega
                    have H := Lib.hid h
                    clear h hc
                    go_wp2_with (fail)
                    go_loopw [13] (fun d' wv => ∃ d : Nat, d' = .int .i64 d ∧ d ≤ 4 ∧ Hp W wv [aSt tb y1 y2 f2 g2, aSt al z1 z2 f g, aSt sb x1 x2 f g] []) (fun d' _ => 4 - (intOf d').toNat)
                    case atStart => exact ⟨0, rfl, by omega, H.out⟩
                    case round =>
                      obtain ⟨d, rfl, hd, h⟩ := hrel
                      by_cases hd4 : d < 4
                      · obtain ⟨p, q, e0, hr⟩ : ∃ p q e, getR f g d = (p, q, e) := ⟨_, _, _, rfl⟩
                        have HG := Lib.hid hr
                        have HR : Hid (decide (getR f g d = (p, q, e0)) = true) := Lib.hid (decide_eq_true hr)
                        clear hr
                        go_wp2_with (first | (go_at_call 17; (with_reducible refine (get_as h 1 at1 d HG.out).mono ?_); rintro e w4 ⟨rfl, j⟩; clear h; have j0 := (j.lost (pObj p)).lost (sObj q); simp only [pObj, sObj] at j0) | (go_at_call 13; (with_reducible refine (has_any j0 2 at2 d p q e0 HR.out).mono ?_); rintro e w5 ⟨rfl, j1⟩; clear j0))
                        go_roundw
                        case rel => exact ⟨d + 1, by go_num, by omega, j1⟩
                        case measure => simp [intOf]; omega
                      · have hd4f : ¬ (d : Int) < 4 := by omega
                        go_wp2_with (first | (go_at_call 14; (with_reducible refine (awake_any h).mono ?_); rintro e w5 ⟨rfl, j1⟩))
                        exact bodyPost_ret (results_tmp rfl _ _ _) rfl ⟨rfl, j1.below⟩
                · have hltf : ¬ (c : Int) < (n2 : Int) := by omega
                  have H := Lib.hid h
                  clear h hc
                  go_wp2_with (fail)
                  go_loopw [13] (fun d' wv => ∃ d : Nat, d' = .int .i64 d ∧ d ≤ 4 ∧ Hp W wv [aSt tb y1 y2 f2 g2, aSt al z1 z2 f g, aSt sb x1 x2 f g] []) (fun d' _ => 4 - (intOf d').toNat)
                  case atStart => exact ⟨0, rfl, by omega, H.out⟩
                  case round =>
                    obtain ⟨d, rfl, hd, h⟩ := hrel
                    by_cases hd4 : d < 4
                    · obtain ⟨p, q, e0, hr⟩ : ∃ p q e, getR f g d = (p, q, e) := ⟨_, _, _, rfl⟩
                      have HG := Lib.hid hr
                      have HR : Hid (decide (getR f g d = (p, q, e0)) = true) := Lib.hid (decide_eq_true hr)
                      clear hr
                      go_wp2_with (first | (go_at_call 17; (with_reducible refine (get_as h 1 at1 d HG.out).mono ?_); rintro e w4 ⟨rfl, j⟩; clear h; have j0 := (j.lost (pObj p)).lost (sObj q); simp only [pObj, sObj] at j0) | (go_at_call 13; (with_reducible refine (has_any j0 2 at2 d p q e0 HR.out).mono ?_); rintro e w5 ⟨rfl, j1⟩; clear j0))
                      go_roundw
                      case rel => exact ⟨d + 1, by go_num, by omega, j1⟩
                      case measure => simp [intOf]; omega
                    · have hd4f : ¬ (d : Int) < 4 := by omega
                      go_wp2_with (first | (go_at_call 14; (with_reducible refine (awake_any h).mono ?_); rintro e w5 ⟨rfl, j1⟩))
                      exact bodyPost_ret (results_tmp rfl _ _ _) rfl ⟨rfl, j1.below⟩
          · have hltf : ¬ (c : Int) < (n3 : Int) := by omega
            have H := Lib.hid h
            clear h hc
            go_wp2_with (fail)
            go_loopw [12] (fun i' wr => ∃ (c : Nat) (f : Int → Option SpsD) (g : Int → Option PpsD) (f2 : Int → Option SpsD) (g2 : Int → Option PpsD), i' = .int .i64 c ∧ c ≤ n2 ∧ Hp W wr [aSt tb y1 y2 f2 g2, aSt al z1 z2 f g, aSt sb x1 x2 f g] []) (fun i' _ => n2 - (intOf i').toNat)
            case atStart => exact ⟨0, _, _, _, _, rfl, Nat.zero_le _, H.out⟩
            case round =>
              obtain ⟨c, f, g, f2, g2, rfl, hc, h⟩ := hrel
              by_cases hlt : c < n2
              · by_cases h20 : c < 20
                · have hdum := True.intro
                  obtain ⟨rfl, hblt⟩ := HIN2.out.at_ (by omega)
                  have k0 := HIN2.out.bool hlt 0 rfl
                  obtain ⟨k1, q1⟩ := HIN2.out.int hlt 1 (k := .i64) rfl
                  obtain ⟨k2, q2⟩ := HIN2.out.int hlt 2 (k := .i64) rfl
                  simp only [List.length_cons, List.length_nil, Nat.zero_add, Nat.reduceAdd, Nat.add_zero] at k0 k1 k2
                  have q1 := bounds_i64 q1
                  have q2 := bounds_i64 q2
                  generalize bat C2 c 0 = pb at *
                  generalize zat C2 c 1 = i at *
                  generalize zat C2 c 2 = o at *
                  have KC : Hid (∀ {w' : World} {L' : List AObj}, Hp W w' L' [] → w'.cell? ⟨b2, o2 + c * 3, none⟩ = some (.bool pb) ∧ w'.cell? ⟨b2, o2 + c * 3 + 1, none⟩ = some (.int .i64 i) ∧ w'.cell? ⟨b2, o2 + c * 3 + 2, none⟩ = some (.int .i64 o)) :=
                    Lib.hid fun h => ⟨(h.below.cell (p := ⟨b2, _, none⟩) hblt).trans k0, (h.below.cell (p := ⟨b2, _, none⟩) hblt).trans k1, (h.below.cell (p := ⟨b2, _, none⟩) hblt).trans k2⟩
                  obtain ⟨v0, v1, v2⟩ := KC.out h
                  have HB : Hid ((-9223372036854775808 ≤ i ∧ i < 9223372036854775808) ∧ (-9223372036854775808 ≤ o ∧ o < 9223372036854775808)) := Lib.hid ⟨by omega, by omega⟩
                  clear k0 k1 k2 q1 q2
                  obtain ⟨f', hf'⟩ : ∃ f', stS pb i o f = f' := ⟨_, rfl⟩
                  obtain ⟨g', hg'⟩ : ∃ g', stP pb i o g = g' := ⟨_, rfl⟩
                  have HFG := Lib.hid (And.intro hf' hg')
                  clear hf' hg'
                  go_wp2_with (first | (go_at_call 9; (with_reducible refine (lawput_as h 2 at2 HB.out HFG.out).mono ?_); rintro e w2 ⟨rfl, j0⟩; simp only [set2] at j0; obtain ⟨v0, v1, v2⟩ := KC.out j0; clear h) | (go_at_call 9; (with_reducible refine (lawput_as j0 1 at1 HB.out HFG.out).mono ?_); rintro e w2 ⟨rfl, j1⟩; simp only [set1] at j1; obtain ⟨v0, v1, v2⟩ := KC.out j1; clear j0))
                  go_roundw
                  case rel => exact ⟨c + 1, f', g', f2, g2, by go_num, by omega, j1⟩
                  case measure => simp [intOf]; omega
                · have h20f : ¬ (c : Int) < 20 := by omega
                  have H := Lib.hid h
                  clear h hc
                  go_wp2_with (fail)
                  go_loopw [13] (fun d' wv => ∃ d : Nat, d' = .int .i64 d ∧ d ≤ 4 ∧ Hp W wv [aSt tb y1 y2 f2 g2, aSt al z1 z2 f g, aSt sb x1 x2 f g] []) (fun d' _ => 4 - (intOf d').toNat)
                  case atStart => exact ⟨0, rfl, by omega, H.out⟩
                  case round =>
                    obtain ⟨d, rfl, hd, h⟩ := hrel
                    by_cases hd4 : d < 4
                    · obtain ⟨p, q, e0, hr⟩ : ∃ p q e, getR f g d = (p, q, e) := ⟨_, _, _, rfl⟩
                      have HG := Lib.hid hr
                      have HR : Hid (decide (getR f g d = (p, q, e0)) = true) := Lib.hid (decide_eq_true hr)
                      clear hr
                      go_wp2_with (first | (go_at_call 17; (with_reducible refine (get_as h 1 at1 d HG.out).mono ?_); rintro e w4 ⟨rfl, j⟩; clear h; have j0 := (j.lost (pObj p)).lost (sObj q); simp only [pObj, sObj] at j0) | (go_at_call 13; (with_reducible refine (has_any j0 2 at2 d p q e0 HR.out).mono ?_); rintro e w5 ⟨rfl, j1⟩; clear j0))
                      go_roundw
                      case rel => exact ⟨d + 1, by go_num, by omega, j1⟩
                      case measure => simp [intOf]; omega
                    · have hd4f : ¬ (d : Int) < 4 := by omega
                      go_wp2_with (first | (go_at_call 14; (with_reducible refine (awake_any h).mono ?_); rintro e w5 ⟨rfl, j1⟩))
                      exact bodyPost_ret (results_tmp rfl _ _ _) rfl ⟨rfl, j1.below⟩
              · have hltf : ¬ (c : Int) < (n2 : Int) := by omega
                have H := Lib.hid h
                clear h hc
                go_wp2_with (fail)
                go_loopw [13] (fun d' wv => ∃ d : Nat, d' = .int .i64 d ∧ d ≤ 4 ∧ Hp W wv [aSt tb y1 y2 f2 g2, aSt al z1 z2 f g, aSt sb x1 x2 f g] []) (fun d' _ => 4 - (intOf d').toNat)
                case atStart => exact ⟨0, rfl, by omega, H.out⟩
                case round =>
                  obtain ⟨d, rfl, hd, h⟩ := hrel
                  by_cases hd4 : d < 4
                  · obtain ⟨p, q, e0, hr⟩ : ∃ p q e, getR f g d = (p, q, e) := ⟨_, _, _, rfl⟩
                    have HG := Lib.hid hr
                    have HR : Hid (decide (getR f g d = (p, q, e0)) = true) := Lib.hid (decide_eq_true hr)
                    clear hr
                    go_wp2_with (first | (go_at_call 17; (with_reducible refine (get_as h 1 at1 d HG.out).mono ?_); rintro e w4 ⟨rfl, j⟩; clear h; have j0 := (j.lost (pObj p)).lost (sObj q); simp only [pObj, sObj] at j0) | (go_at_call 13; (with_reducible refine (has_any j0 2 at2 d p q e0 HR.out).mono ?_); rintro e w5 ⟨rfl, j1⟩; clear j0))
                    go_roundw
                    case rel => exact ⟨d + 1, by go_num, by omega, j1⟩
                    case measure => simp [intOf]; omega
                  · have hd4f : ¬ (d : Int) < 4 := by omega
                    go_wp2_with (first | (go_at_call 14; (with_reducible refine (awake_any h).mono ?_); rintro e w5 ⟨rfl, j1⟩))
                    exact bodyPost_ret (results_tmp rfl _ _ _) rfl ⟨rfl, j1.below⟩
    · have hltf : ¬ (c : Int) < (n1 : Int) := by omega
      have H := Lib.hid h
      clear h hc
      go_wp2_with (first | (go_at_call 22; (with_reducible refine (scopy_any H.out 1 at1).mono ?_); rintro e w3 ⟨tb, y1, y2, rfl, hh⟩))
      have H := Lib.hid hh
      clear hh
      go_loopw [11] (fun i' wr => ∃ (c : Nat) (f : Int → Option SpsD) (g : Int → Option PpsD) (f2 : Int → Option SpsD) (g2 : Int → Option PpsD), i' = .int .i64 c ∧ c ≤ n3 ∧ Hp W wr [aSt tb y1 y2 f2 g2, aSt al z1 z2 f g, aSt sb x1 x2 f g] []) (fun i' _ => n3 - (intOf i').toNat)
      case atStart => exact ⟨0, _, _, _, _, rfl, Nat.zero_le _, H.out⟩
      case round =>
        obtain ⟨c, f, g, f2, g2, rfl, hc, h⟩ := hrel
        by_cases hlt : c < n3
        · by_cases h20 : c < 20
          · have hdum := True.intro
            obtain ⟨rfl, hblt⟩ := HIN3.out.at_ (by omega)
            have k0 := HIN3.out.bool hlt 0 rfl
            obtain ⟨k1, q1⟩ := HIN3.out.int hlt 1 (k := .i64) rfl
            obtain ⟨k2, q2⟩ := HIN3.out.int hlt 2 (k := .i64) rfl
            simp only [List.length_cons, List.length_nil, Nat.zero_add, Nat.reduceAdd, Nat.add_zero] at k0 k1 k2
            have q1 := bounds_i64 q1
            have q2 := bounds_i64 q2
            generalize bat C3 c 0 = pb at *
            generalize zat C3 c 1 = i at *
            generalize zat C3 c 2 = o at *
            have KC : Hid (∀ {w' : World} {L' : List AObj}, Hp W w' L' [] → w'.cell? ⟨b3, o3 + c * 3, none⟩ = some (.bool pb) ∧ w'.cell? ⟨b3, o3 + c * 3 + 1, none⟩ = some (.int .i64 i) ∧ w'.cell? ⟨b3, o3 + c * 3 + 2, none⟩ = some (.int .i64 o)) :=
              Lib.hid fun h => ⟨(h.below.cell (p := ⟨b3, _, none⟩) hblt).trans k0, (h.below.cell (p := ⟨b3, _, none⟩) hblt).trans k1, (h.below.cell (p := ⟨b3, _, none⟩) hblt).trans k2⟩
            obtain ⟨v0, v1, v2⟩ := KC.out h
            have HB : Hid ((-9223372036854775808 ≤ i ∧ i < 9223372036854775808) ∧ (-9223372036854775808 ≤ o ∧ o < 9223372036854775808)) := Lib.hid ⟨by omega, by omega⟩
            clear k0 k1 k2 q1 q2
            obtain ⟨f', hf'⟩ : ∃ f', stS pb i o f2 = f' := ⟨_, rfl⟩
            obtain ⟨g', hg'⟩ : ∃ g', stP pb i o g2 = g' := ⟨_, rfl⟩
            have HFG := Lib.hid (And.intro hf' hg')
            clear hf' hg'
            go_wp2_with (first | (go_at_call 9; (with_reducible refine (lawput_as h 0 at0 HB.out HFG.out).mono ?_); rintro e w2 ⟨rfl, j0⟩; simp only [set0] at j0; obtain ⟨v0, v1, v2⟩ := KC.out j0; clear h))
            go_roundw
            case rel => exact ⟨c + 1, f, g, f', g', by go_num, by omega, j0⟩
            case measure => simp [intOf]; omega
          · have h20f : ¬ (c : Int) < 20 := by omega
            have H := Lib.hid h
            clear h hc
            go_wp2_with (fail)
            go_loopw [12] (fun i' wr => ∃ (c : Nat) (f : Int → Option SpsD) (g : Int → Option PpsD) (f2 : Int → Option SpsD) (g2 : Int → Option PpsD), i' = .int .i64 c ∧ c ≤ n2 ∧ Hp W wr [aSt tb y1 y2 f2 g2, aSt al z1 z2 f g, aSt sb x1 x2 f g] []) (fun i' _ => n2 - (intOf i').toNat)
            case atStart => exact ⟨0, _, _, _, _, rfl, Nat.zero_le _, H.out⟩
            case round =>
              obtain ⟨c, f, g, f2, g2, rfl, hc, h⟩ := hrel
              by_cases hlt : c < n2
              · by_cases h20 : c < 20
                · have hdum := True.intro
                  obtain ⟨rfl, hblt⟩ := HIN2.out.at_ (by omega)
                  have k0 := HIN2.out.bool hlt 0 rfl
                  obtain ⟨k1, q1⟩ := HIN2.out.int hlt 1 (k := .i64) rfl
                  obtain ⟨k2, q2⟩ := HIN2.out.int hlt 2 (k := .i64) rfl
                  simp only [List.length_cons, List.length_nil, Nat.zero_add, Nat.reduceAdd, Nat.add_zero] at k0 k1 k2
                  have q1 := bounds_i64 q1
                  have q2 := bounds_i64 q2
                  generalize bat C2 c 0 = pb at *
                  generalize zat C2 c 1 = i at *
                  generalize zat C2 c 2 = o at *
                  have KC : Hid (∀ {w' : World} {L' : List AObj}, Hp W w' L' [] → w'.cell? ⟨b2, o2 + c * 3, none⟩ = some (.bool pb) ∧ w'.cell? ⟨b2, o2 + c * 3 + 1, none⟩ = some (.int .i64 i) ∧ w'.cell? ⟨b2, o2 + c * 3 + 2, none⟩ = some (.int .i64 o)) :=
                    Lib.hid fun h => ⟨(h.below.cell (p := ⟨b2, _, none⟩) hblt).trans k0, (h.below.cell (p := ⟨b2, _, none⟩) hblt).trans k1, (h.below.cell (p := ⟨b2, _, none⟩) hblt).trans k2⟩
                  obtain ⟨v0, v1, v2⟩ := KC.out h
                  have HB : Hid ((-9223372036854775808 ≤ i ∧ i < 9223372036854775808) ∧ (-9223372036854775808 ≤ o ∧ o < 9223372036854775808)) := Lib.hid ⟨by omega, by omega⟩
                  clear k0 k1 k2 q1 q2
                  obtain ⟨f', hf'⟩ : ∃ f', stS pb i o f = f' := ⟨_, rfl⟩
                  obtain ⟨g', hg'⟩ : ∃ g', stP pb i o g = g' := ⟨_, rfl⟩
                  have HFG := Lib.hid (And.intro hf' hg')
                  clear hf' hg'
                  go_wp2_with (first | (go_at_call 9; (with_reducible refine (lawput_as h 2 at2 HB.out HFG.out).mono ?_); rintro e w2 ⟨rfl, j0⟩; simp only [set2] at j0; obtain ⟨v0, v1, v2⟩ := KC.out j0; clear h) | (go_at_call 9; (with_reducible refine (lawput_as j0 1 at1 HB.out HFG.out).mono ?_); rintro e w2 ⟨rfl, j1⟩; simp only [set1] at j1; obtain ⟨v0, v1, v2⟩ := KC.out j1; clear j0))
                  go_roundw
                  case rel => exact ⟨c + 1, f', g', f2, g2, by go_num, by omega, j1⟩
                  case measure => simp [intOf]; omega
                · have h20f : ¬ (c : Int) < 20 := by omega
                  have H := Lib.hid h
                  clear h hc
                  go_wp2_with (fail)
                  go_loopw [13] (fun d' wv => ∃ d : Nat, d' = .int .i64 d ∧ d ≤ 4 ∧ Hp W wv [aSt tb y1 y2 f2 g2, aSt al z1 z2 f g, aSt sb x1 x2 f g] []) (fun d' _ => 4 - (intOf d').toNat)
                  case atStart => exact ⟨0, rfl, by omega, H.out⟩
                  case round =>
                    obtain ⟨d, rfl, hd, h⟩ := hrel
                    by_cases hd4 : d < 4
                    · obtain ⟨p, q, e0, hr⟩ : ∃ p q e, getR f g d = (p, q, e) := ⟨_, _, _, rfl⟩
                      have HG := Lib.hid hr
                      have HR : Hid (decide (getR f g d = (p, q, e0)) = true) := Lib.hid (decide_eq_true hr)
                      clear hr
                      go_wp2_with (first | (go_at_call 17; (with_reducible refine (get_as h 1 at1 d HG.out).mono ?_); rintro e w4 ⟨rfl, j⟩; clear h; have j0 := (j.lost (pObj p)).lost (sObj q); simp only [pObj, sObj] at j0) | (go_at_call 13; (with_reducible refine (has_any j0 2 at2 d p q e0 HR.out).mono ?_); rintro e w5 ⟨rfl, j1⟩; clear j0))
                      go_roundw
                      case rel => exact ⟨d + 1, by go_num, by omega, j1⟩
                      case measure => simp [intOf]; omega
                    · have hd4f : ¬ (d : Int) < 4 := by omega
                      go_wp2_with (first | (go_at_call 14; (with_reducible refine (awake_any h).mono ?_); rintro e w5 ⟨rfl, j1⟩))
                      exact bodyPost_ret (results_tmp rfl _ _ _) rfl ⟨rfl, j1.below⟩
              · have hltf : ¬ (c : Int) < (n2 : Int) := by omega
                have H := Lib.hid h
                clear h hc
                go_wp2_with (fail)
                go_loopw [13] (fun d' wv => ∃ d : Nat, d' = .int .i64 d ∧ d ≤ 4 ∧ Hp W wv [aSt tb y1 y2 f2 g2, aSt al z1 z2 f g, aSt sb x1 x2 f g] []) (fun d' _ => 4 - (intOf d').toNat)
                case atStart => exact ⟨0, rfl, by omega, H.out⟩
                case round =>
                  obtain ⟨d, rfl, hd, h⟩ := hrel
                  by_cases hd4 : d < 4
                  · obtain ⟨p, q, e0, hr⟩ : ∃ p q e, getR f g d = (p, q, e) := ⟨_, _, _, rfl⟩
                    have HG := Lib.hid hr
                    have HR : Hid (decide (getR f g d = (p, q, e0)) = true) := Lib.hid (decide_eq_true hr)
                    clear hr
                    go_wp2_with (first | (go_at_call 17; (with_reducible refine (get_as h 1 at1 d HG.out).mono ?_); rintro e w4 ⟨rfl, j⟩; clear h; have j0 := (j.lost (pObj p)).lost (sObj q); simp only [pObj, sObj] at j0) | (go_at_call 13; (with_reducible refine (has_any j0 2 at2 d p q e0 HR.out).mono ?_); rintro e w5 ⟨rfl, j1⟩; clear j0))
                    go_roundw
                    case rel => exact ⟨d + 1, by go_num, by omega, j1⟩
                    case measure => simp [intOf]; omega
                  · have hd4f : ¬ (d : Int) < 4 := by omega
                    go_wp2_with (first | (go_at_call 14; (with_reducible refine (awake_any h).mono ?_); rintro e w5 ⟨rfl, j1⟩))
                    exact bodyPost_ret (results_tmp rfl _ _ _) rfl ⟨rfl, j1.below⟩
        · have hltf : ¬ (c : Int) < (n3 : Int) := by omega
          have H := Lib.hid h
          clear h hc
          go_wp2_with (fail)
          go_loopw [12] (fun i' wr => ∃ (c : Nat) (f : Int → Option SpsD) (g : Int → Option PpsD) (f2 : Int → Option SpsD) (g2 : Int → Option PpsD), i' = .int .i64 c ∧ c ≤ n2 ∧ Hp W wr [aSt tb y1 y2 f2 g2, aSt al z1 z2 f g, aSt sb x1 x2 f g] []) (fun i' _ => n2 - (intOf i').toNat)
          case atStart => exact ⟨0, _, _, _, _, rfl, Nat.zero_le _, H.out⟩
          case round =>
            obtain ⟨c, f, g, f2, g2, rfl, hc, h⟩ := hrel
            by_cases hlt : c < n2
            · by_cases h20 : c < 20
              · have hdum := True.intro
                obtain ⟨rfl, hblt⟩ := HIN2.out.at_ (by omega)
                have k0 := HIN2.out.bool hlt 0 rfl
                obtain ⟨k1, q1⟩ := HIN2.out.int hlt 1 (k := .i64) rfl
                obtain ⟨k2, q2⟩ := HIN2.out.int hlt 2 (k := .i64) rfl
                simp only [List.length_cons, List.length_nil, Nat.zero_add, Nat.reduceAdd, Nat.add_zero] at k0 k1 k2
                have q1 := bounds_i64 q1
                have q2 := bounds_i64 q2
                generalize bat C2 c 0 = pb at *
                generalize zat C2 c 1 = i at *
                generalize zat C2 c 2 = o at *
                have KC : Hid (∀ {w' : World} {L' : List AObj}, Hp W w' L' [] → w'.cell? ⟨b2, o2 + c * 3, none⟩ = some (.bool pb) ∧ w'.cell? ⟨b2, o2 + c * 3 + 1, none⟩ = some (.int .i64 i) ∧ w'.cell? ⟨b2, o2 + c * 3 + 2, none⟩ = some (.int .i64 o)) :=
                  Lib.hid fun h => ⟨(h.below.cell (p := ⟨b2, _, none⟩) hblt).trans k0, (h.below.cell (p := ⟨b2, _, none⟩) hblt).trans k1, (h.below.cell (p := ⟨b2, _, none⟩) hblt).trans k2⟩
                obtain ⟨v0, v1, v2⟩ := KC.out h
                have HB : Hid ((-9223372036854775808 ≤ i ∧ i < 9223372036854775808) ∧ (-9223372036854775808 ≤ o ∧ o < 9223372036854775808)) := Lib.hid ⟨by omega, by omega⟩
                clear k0 k1 k2 q1 q2
                obtain ⟨f', hf'⟩ : ∃ f', stS pb i o f = f' := ⟨_, rfl⟩
                obtain ⟨g', hg'⟩ : ∃ g', stP pb i o g = g' := ⟨_, rfl⟩
                have HFG := Lib.hid (And.intro hf' hg')
                clear hf' hg'
                go_wp2_with (first | (go_at_call 9; (with_reducible refine (lawput_as h 2 at2 HB.out HFG.out).mono ?_); rintro e w2 ⟨rfl, j0⟩; simp only [set2] at j0; obtain ⟨v0, v1, v2⟩ := KC.out j0; clear h) | (go_at_call 9; (with_reducible refine (lawput_as j0 1 at1 HB.out HFG.out).mono ?_); rintro e w2 ⟨rfl, j1⟩; simp only [set1] at j1; obtain ⟨v0, v1, v2⟩ := KC.out j1; clear j0))
                go_roundw
                case rel => exact ⟨c + 1, f', g', f2, g2, by go_num, by omega, j1⟩
                case measure => simp [intOf]; omega
              · have h20f : ¬ (c : Int) < 20 := by omega
                have H := Lib.hid h
                clear h hc
                go_wp2_with (fail)
                go_loopw [13] (fun d' wv => ∃ d : Nat, d' = .int .i64 d ∧ d ≤ 4 ∧ Hp W wv [aSt tb y1 y2 f2 g2, aSt al z1 z2 f g, aSt sb x1 x2 f g] []) (fun d' _ => 4 - (intOf d').toNat)
                case atStart => exact ⟨0, rfl, by omega, H.out⟩
                case round =>
                  obtain ⟨d, rfl, hd, h⟩ := hrel
                  by_cases hd4 : d < 4
                  · obtain ⟨p, q, e0, hr⟩ : ∃ p q e, getR f g d = (p, q, e) := ⟨_, _, _, rfl⟩
                    have HG := Lib.hid hr
                    have HR : Hid (decide (getR f g d = (p, q, e0)) = true) := Lib.hid (decide_eq_true hr)
                    clear hr
                    go_wp2_with (first | (go_at_call 17; (with_reducible refine (get_as h 1 at1 d HG.out).mono ?_); rintro e w4 ⟨rfl, j⟩; clear h; have j0 := (j.lost (pObj p)).lost (sObj q); simp only [pObj, sObj] at j0) | (go_at_call 13; (with_reducible refine (has_any j0 2 at2 d p q e0 HR.out).mono ?_); rintro e w5 ⟨rfl, j1⟩; clear j0))
                    go_roundw
                    case rel => exact ⟨d + 1, by go_num, by omega, j1⟩
                    case measure => simp [intOf]; omega
                  · have hd4f : ¬ (d : Int) < 4 := by omega
                    go_wp2_with (first | (go_at_call 14; (with_reducible refine (awake_any h).mono ?_); rintro e w5 ⟨rfl, j1⟩))
                    exact bodyPost_ret (results_tmp rfl _ _ _) rfl ⟨rfl, j1.below⟩
            · have hltf : ¬ (c : Int) < (n2 : Int) := by omega
              have H := Lib.hid h
              clear h hc
              go_wp2_with (fail)
              go_loopw [13] (fun d' wv => ∃ d : Nat, d' = .int .i64 d ∧ d ≤ 4 ∧ Hp W wv [aSt tb y1 y2 f2 g2, aSt al z1 z2 f g, aSt sb x1 x2 f g] []) (fun d' _ => 4 - (intOf d').toNat)
              case atStart => exact ⟨0, rfl, by omega, H.out⟩
              case round =>
                obtain ⟨d, rfl, hd, h⟩ := hrel
                by_cases hd4 : d < 4
                · obtain ⟨p, q, e0, hr⟩ : ∃ p q e, getR f g d = (p, q, e) := ⟨_, _, _, rfl⟩
                  have HG := Lib.hid hr
                  have HR : Hid (decide (getR f g d = (p, q, e0)) = true) := Lib.hid (decide_eq_true hr)
                  clear hr
                  go_wp2_with (first | (go_at_call 17; (with_reducible refine (get_as h 1 at1 d HG.out).mono ?_); rintro e w4 ⟨rfl, j⟩; clear h; have j0 := (j.lost (pObj p)).lost (sObj q); simp only [pObj, sObj] at j0) | (go_at_call 13; (with_reducible refine (has_any j0 2 at2 d p q e0 HR.out).mono ?_); rintro e w5 ⟨rfl, j1⟩; clear j0))
                  go_roundw
                  case rel => exact ⟨d + 1, by go_num, by omega, j1⟩
                  case measure => simp [intOf]; omega
                · have hd4f : ¬ (d : Int) < 4 := by omega
                  go_wp2_with (first | (go_at_call 14; (with_reducible refine (awake_any h).mono ?_); rintro e w5 ⟨rfl, j1⟩))
                  exact bodyPost_ret (results_tmp rfl _ _ _) rfl ⟨rfl, j1.below⟩

end Go.Proofs.Ytakpafmhdgnlmaa
