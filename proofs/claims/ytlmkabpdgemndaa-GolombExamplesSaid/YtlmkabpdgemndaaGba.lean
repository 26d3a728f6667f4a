/- The walk of GolombBack. -/
import Derived.Test.YtlmkabpdgemndaaGwr
import Derived.Test.YtlmkabpdgemndaaGap
namespace Go.Proofs.Ytlmkabpdgemndaa
open Go.RowKit
set_option linter.unusedVariables false
set_option maxRecDepth 100000
set_option linter.unusedSimpArgs false

/-- The codes of the calls that came in, made valid, one after another. -/
def cOf (C : Nat → List Value) (i : Nat) : List Bool := cB (zat C i 0) (gM (zat C i 1).toNat) (gK (zat C i 2)) (gV (zat C i 0) (zat C i 1).toNat (zat C i 2) (zat C i 3).toNat)
def outG (C : Nat → List Value) : Nat → List Bool
  | 0 => []
  | i + 1 => outG C i ++ cOf C i
theorem outG_split (C : Nat → List Value) (n : Nat) : ∀ d i, i + d = n → ∃ R, outG C n = outG C i ++ R
  | 0, i, h => ⟨[], by rw [← h]; simp⟩
  | d + 1, i, h => by
    obtain ⟨R, hR⟩ := outG_split C n d (i + 1) (by omega)
    exact ⟨cOf C i ++ R, by rw [hR, outG, List.append_assoc]⟩
theorem sbits_app (a b : ByteArray) : sbits (a ++ b) = sbits a ++ sbits b := by
  unfold sbits
  rw [← sbitsL_append]
  congr 1
theorem app_size (a b : ByteArray) : (a ++ b).size = a.size + b.size := by simp
theorem seg_mid {A X R : List Bool} : seg (A ++ (X ++ R)) A.length X.length = X := by
  have := seg_append_right A (X ++ R) 0 X.length
  rw [Nat.add_zero] at this
  rw [this]
  simp [seg]
theorem outG_back {C : Nat → List Value} {n i : Nat} (h : i < n) (t : ByteArray) :
    seg (sbits (pstr (outG C n) ++ t)) (outG C i).length (cOf C i).length = cOf C i ∧ (outG C i).length + (cOf C i).length ≤ 8 * (pstr (outG C n) ++ t).size := by
  obtain ⟨R, hR⟩ := outG_split C n (n - (i + 1)) (i + 1) (by omega)
  have hR2 : outG C n = outG C i ++ (cOf C i ++ R) := by rw [hR, outG, List.append_assoc]
  constructor
  · rw [sbits_app, sbits_pstr]
    have e : ∀ Z Y : List Bool, outG C n ++ Z ++ Y = outG C i ++ (cOf C i ++ (R ++ (Z ++ Y))) := fun Z Y => by
      conv => lhs; rw [hR2]
      simp only [List.append_assoc]
    rw [e, seg_mid]
  · have := congrArg List.length hR2
    rw [List.length_append, List.length_append] at this
    rw [app_size, pstr_size]; omega

set_option maxHeartbeats 2000000 in
theorem gback_walk {W : World} {sp : Option Addr} {n cap b o : Nat} {C : Nat → List Value} (t : ByteArray) (ht0 : t.size ≤ maxLen) (hin : RowsIn Try.prog W [.int .u8, .int .u64, .int .i64, .int .u64] sp n b o C) (hn63 : n ≤ 9223372036854775807) :
    Calls Try.prog 10 #[.slice sp n cap, .string t] W fun e w' => e = .returned (.bool true) ∧ Below W.heap.size W w' := by
  have hS := Hp.start W
  by_cases hg : n ≤ 40 ∧ t.size ≤ 100
  · obtain ⟨hn, ht⟩ := hg
    have hnd : decide ((40 : Int) < (n : Int)) = false := by simp; omega
    have htd : decide (100 < t.size) = false := by simp; omega
    have HIN := Lib.hid hin
    clear hin
    go_enter Try.func10, Try.ntmps10
    go_wp2_with (first | (go_at_call 13; (with_reducible refine (write_any hS).mono ?_); rintro e w1 ⟨wb, rfl, hS1⟩; clear hS))
    have HS := Lib.hid hS1; clear hS1
    go_loopw [6] (fun i wr => ∃ c : Nat, i = .int .i64 c ∧ c ≤ n ∧ (outG C c).length ≤ 71 * c ∧ Hp W wr [aWr wb (outG C c)] []) (fun i _ => n - (intOf i).toNat)
    case atStart => exact ⟨0, rfl, Nat.zero_le _, by simp [outG], HS.out⟩
    case round =>
      obtain ⟨c, rfl, g1, gB, g2⟩ := hrel
      by_cases hc : c < n
      · obtain ⟨rfl, hblt⟩ := HIN.out.at_ (by omega)
        have hcl := call_in HIN.out hc
        obtain ⟨B, hB⟩ : ∃ B, B = outG C c := ⟨_, rfl⟩
        have hB1 : outG C (c + 1) = B ++ cB (zat C c 0) (gM (zat C c 1).toNat) (gK (zat C c 2)) (gV (zat C c 0) (zat C c 1).toNat (zat C c 2) (zat C c 3).toNat) := by rw [hB]; rfl
        rw [← hB] at gB g2
        have HB1 := Lib.hid hB1; clear hB hB1
        generalize zat C c 0 = wh at hcl HB1
        generalize (zat C c 1).toNat = m at hcl HB1
        generalize zat C c 2 = k at hcl HB1
        generalize (zat C c 3).toNat = v at hcl HB1
        have hO := g2.below
        have k0 := (hO.cell (p := ⟨b, o + c * 4, none⟩) hblt).trans hcl.c0
        have k1 := (hO.cell (p := ⟨b, o + c * 4 + 1, none⟩) hblt).trans hcl.c1
        have k2 := (hO.cell (p := ⟨b, o + c * 4 + 2, none⟩) hblt).trans hcl.c2
        have k3 := (hO.cell (p := ⟨b, o + c * 4 + 3, none⟩) hblt).trans hcl.c3
        have ok := fit_ok hcl.w0.1 hcl.w0.2 m k v
        have hl := ok.len
        have hB39 : B.length ≤ 2 ^ 39 := by omega
        have HL := Lib.hid hl
        have HC := Lib.hid hcl; clear hcl hl
        go_wp2_with (first | (go_at_call 33; (with_reducible refine (gfit_hp g2 wh m k v HC.out.w0.1 HC.out.w0.2 HC.out.m1 HC.out.k1.1 HC.out.k1.2 HC.out.v1).mono ?_); rintro e w1 ⟨rfl, g3⟩; clear g2) | (go_at_call 45; (with_reducible refine (lput_any g3 0 at0 hB39 ok).mono ?_); rintro e w1 ⟨rfl, g4⟩; simp only [set0] at g4; clear g3))
        go_roundw
        case rel => exact ⟨c + 1, by go_num, by omega, by rw [HB1.out, List.length_append]; have := HL.out; omega, by rw [HB1.out]; exact g4⟩
        case measure => simp [intOf]; omega
      · obtain rfl : c = n := by omega
        have hbk := fun i (h : i < c) => outG_back (C := C) h t
        have HBK := Lib.hid hbk; clear hbk
        have hB41 : (outG C c).length ≤ 2 ^ 41 := by omega
        have hsz : (pstr (outG C c) ++ t).size ≤ 2 ^ 48 := by rw [app_size, pstr_size]; omega
        obtain ⟨B, hB⟩ : ∃ B, B = outG C c := ⟨_, rfl⟩
        rw [← hB] at g2 hB41 hsz HBK
        have HB := Lib.hid hB; clear hB
        go_wp2_with (first | (go_at_call 19; (with_reducible refine (bytes_any g2 0 at0 hB41).mono ?_); rintro e w1 ⟨rfl, g3⟩; clear g2) | (go_at_call 12; (refine (read_any g3 (pstr B ++ t) hsz).mono ?_); rintro e w1 ⟨rb, rfl, g4⟩; clear g3))
        have HS2 := Lib.hid g4; clear g4
        obtain ⟨S, hSe⟩ : ∃ S, S = pstr B ++ t := ⟨_, rfl⟩
        rw [← hSe] at hsz HBK HS2
        have HSe := Lib.hid hSe; clear hSe
        go_loopw [8] (fun i wx => ∃ q : Nat, i = .int .i64 q ∧ q ≤ c ∧ Hp W wx [aRd rb S (outG C q).length, aWr wb B] []) (fun i _ => c - (intOf i).toNat)
        case atStart => exact ⟨0, rfl, Nat.zero_le _, HS2.out⟩
        case round =>
          obtain ⟨q, rfl, q1, q2⟩ := hrel
          by_cases hq : q < c
          · obtain ⟨rfl, hblt⟩ := HIN.out.at_ (by omega)
            have hcl := call_in HIN.out hq
            obtain ⟨y1, y2⟩ := HBK.out q hq
            have hB1 : (outG C (q + 1)).length = (outG C q).length + (cOf C q).length := by rw [outG, List.length_append]
            obtain ⟨p, hp⟩ : ∃ p, p = (outG C q).length := ⟨_, rfl⟩
            rw [← hp] at q2 y1 y2 hB1
            unfold cOf at y1 y2 hB1
            have HP := Lib.hid hB1; clear hp hB1
            generalize zat C q 0 = wh at hcl HP y1 y2
            generalize (zat C q 1).toNat = m at hcl HP y1 y2
            generalize zat C q 2 = k at hcl HP y1 y2
            generalize (zat C q 3).toNat = v at hcl HP y1 y2
            have hO := q2.below
            have k0 := (hO.cell (p := ⟨b, o + q * 4, none⟩) hblt).trans hcl.c0
            have k1 := (hO.cell (p := ⟨b, o + q * 4 + 1, none⟩) hblt).trans hcl.c1
            have k2 := (hO.cell (p := ⟨b, o + q * 4 + 2, none⟩) hblt).trans hcl.c2
            have k3 := (hO.cell (p := ⟨b, o + q * 4 + 3, none⟩) hblt).trans hcl.c3
            have ok := fit_ok hcl.w0.1 hcl.w0.2 m k v
            have Y := Lib.hid (And.intro y2 y1); clear y1 y2
            have hfit := fun (w : World) (L : List AObj) (F : List (Nat × Obj)) (h : Hp W w L F) => gfit_hp h wh m k v hcl.w0.1 hcl.w0.2 hcl.m1 hcl.k1.1 hcl.k1.2 hcl.v1
            have HC := Lib.hid hcl; clear hcl
            generalize gV wh m k v = V at *
            generalize gM m = M at *
            generalize gK k = K at *
            go_wp2_with (first | (go_at_call 33; (with_reducible refine (hfit _ _ _ q2).mono ?_); rintro e w1 ⟨rfl, q3⟩; clear q2) | (go_at_call 46; (with_reducible refine (lget_any (q3.alloc (.cells #[.int .u8 wh, .int .u64 M, .int .i64 K, .int .u64 V] 42 (0, 0))) 0 at0 ok Y.out.1 Y.out.2 _).mono ?_); rintro e w1 ⟨rfl, q4⟩; simp only [set0] at q4; obtain ⟨d0, d1, d2, d3⟩ := cells4 (q4.blk (List.mem_cons_self ..)); clear q3))
            go_roundw
            case rel => exact ⟨q + 1, by go_num, by omega, by rw [HP.out]; exact q4.drop⟩
            case measure => simp [intOf]; omega
          · obtain rfl : q = c := by omega
            rw [← HB.out] at q2
            go_wp2_with (first | (go_at_call 21; (with_reducible refine (pos_any q2 0 at0).mono ?_); rintro e w1 ⟨rfl, rfl⟩) | (go_at_call 20; (with_reducible refine (len_hp q2 1 at1 hB41).mono ?_); rintro e w1 ⟨rfl, q3⟩; clear q2) | (go_at_call 11; (with_reducible refine (gknown_any q3).mono ?_); rintro e w1 ⟨rfl, q4⟩))
            exact bodyPost_ret (results_tmp rfl _ _ _) rfl ⟨rfl, q4.below⟩
  · by_cases hn : n ≤ 40
    · have hnd : decide ((40 : Int) < (n : Int)) = false := by simp; omega
      have htd : decide (100 < t.size) = true := by simp; omega
      go_enter Try.func10, Try.ntmps10
      go_wp2_with (first | (go_at_call 11; refine (gknown_any (by assumption)).mono ?_; rintro e w1 ⟨rfl, hS⟩))
      exact bodyPost_ret (results_tmp rfl _ _ _) rfl ⟨rfl, Hp.below (by assumption)⟩
    · have hnd : decide ((40 : Int) < (n : Int)) = true := by simp; omega
      go_enter Try.func10, Try.ntmps10
      go_wp2_with (first | (go_at_call 11; refine (gknown_any (by assumption)).mono ?_; rintro e w1 ⟨rfl, hS⟩))
      exact bodyPost_ret (results_tmp rfl _ _ _) rfl ⟨rfl, Hp.below (by assumption)⟩

end Go.Proofs.Ytlmkabpdgemndaa
