/- The reference's trailing bits: they say what the program's say. -/
import Derived.Test.YtkaoeilijdeioaaTz
import Derived.Test.YtkaoeilijdeioaaAs
import Derived.Deep.LoopGhost
namespace Go.Proofs.Ytkaoeilijdeioaa
open Go.RowKit
set_option linter.unusedVariables false
set_option maxRecDepth 100000
set_option linter.unusedSimpArgs false

theorem bit_val (s : ByteArray) (j : Nat) (h : j / 8 < s.size) : (bits .and .u8 (((s[j / 8]'h).toNat : Int) / 2 ^ (7 - j % 8)) 1 == 1) = decide (bt s j = 1) := by
  have hx : (s[j / 8]'h).toNat / 2 ^ (7 - j % 8) < 256 := Nat.lt_of_le_of_lt (Nat.div_le_self _ _) (s[j / 8]'h).toNat_lt
  have e1 : (((s[j / 8]'h).toNat : Int) / 2 ^ (7 - j % 8)) = (((s[j / 8]'h).toNat / 2 ^ (7 - j % 8) : Nat) : Int) := by simp
  rw [e1, u8_and_one hx, ← natB_seg_one s j h]
  unfold bt
  rw [Bool.eq_iff_iff]; simp; omega

theorem rbit_any (s : ByteArray) (j : Nat) (h : j < 8 * s.size) (hs : s.size ≤ 2 ^ 48) (w : World) {v : Bool} (hv : decide (bt s j = 1) = v) :
    Calls Try.prog 80 #[.string s, .int .i64 j] w fun e w' => e = .returned (.bool v) ∧ w = w' := by
  subst hv
  have q1 : IntKind.i64.wrap ((j : Int) / 8) = (j : Int) / 8 := IntWalk.i64_in _ (by omega)
  have q2 : 0 ≤ (j : Int) / 8 := by omega
  have q3 : ((j : Int) / 8).toNat = j / 8 := by omega
  have q4 : (j : Int) / 8 < s.size := by omega
  have q4' : j / 8 < s.size := by omega
  have q5 : IntKind.i64.wrap (7 - (j : Int) % 8) = 7 - (j : Int) % 8 := IntWalk.i64_in _ (by omega)
  go_enter Try.func80, Try.ntmps80
  go_wp2
  refine bodyPost_ret (results_tmp rfl _ _ _) rfl ⟨?_, rfl⟩
  rw [← bit_val s j q4']
  rfl

theorem rstop_any {W w : World} {L : List AObj} {F : List (Nat × Obj)} (h : Hp W w L F) (k : Nat) {b : Nat} {s : ByteArray} {i : Nat} (hk : L[k]? = some (aQrd b s i)) :
    Calls Try.prog 74 #[.pointer (some ⟨b, 0, none⟩)] w fun e w' => e = .returned (.int .i64 (stp s i (8 * s.size))) ∧ w = w' := by
  obtain ⟨h1, h2, h3⟩ := h.qrd k hk
  obtain ⟨c0, c1, f0, f1⟩ := cells_two h1
  clear h hk h1
  obtain ⟨E, hE⟩ : ∃ E, E = stp s i (8 * s.size) := ⟨_, rfl⟩
  rw [← hE]
  have HE := Lib.hid hE; clear hE
  go_enter Try.func74, Try.ntmps74
  go_wp2
  go_loop [3] (fun a => ∃ n : Nat, n ≤ 8 * s.size ∧ Hid (E = stp s i n) ∧ a = .int .i64 ((n : Int) - 1)) (fun a => (intOf a + 1).toNat)
  case atStart => exact ⟨8 * s.size, Nat.le_refl _, HE, by rw [show ((8 * s.size : Nat) : Int) = 8 * (s.size : Int) by omega]⟩
  case round =>
    obtain ⟨n, hn, hr, rfl⟩ := hrel
    by_cases hlt : i < n
    · obtain ⟨m, rfl⟩ : ∃ m, n = m + 1 := ⟨n - 1, by omega⟩
      have hm : m < 8 * s.size := by omega
      have hi : (i : Int) ≤ ((m + 1 : Nat) : Int) - 1 := by omega
      have e1 : ((m + 1 : Nat) : Int) - 1 = (m : Int) := by omega
      have hi2 : i ≤ m := by omega
      have hu : stp s i (m + 1) = if bt s m = 1 then (m : Int) else stp s i m := by
        show (if m < i then _ else _) = _
        rw [if_neg (by omega)]
      rw [e1]
      clear hi
      by_cases hb : bt s m = 1
      · rw [if_pos hb] at hu
        have HU := Lib.hid (And.intro hr.out hu); clear hu hr
        have HBt := Lib.hid (show decide (bt s m = 1) = true by simpa using hb); clear hb e1
        go_wp2_with (first | (go_at_call 80; (with_reducible refine (rbit_any s m hm h2 _ HBt.out).mono ?_); rintro e w1 ⟨rfl, rfl⟩))
        exact bodyPost_ret (results_tmp rfl _ _ _) rfl ⟨by rw [HU.out.1, HU.out.2]; rfl, rfl⟩
      · rw [if_neg hb] at hu
        have HU := Lib.hid (And.intro hr.out hu); clear hu hr
        have HBt := Lib.hid (show decide (bt s m = 1) = false by simpa using hb); clear hb e1
        go_wp2_with (first | (go_at_call 80; (with_reducible refine (rbit_any s m hm h2 _ HBt.out).mono ?_); rintro e w1 ⟨rfl, rfl⟩))
        go_round
        case rel => exact ⟨m, by omega, Lib.hid (HU.out.1.trans HU.out.2), rfl⟩
        case measure => simp [intOf]
    · have hu : stp s i n = -1 := by
        cases n with
        | zero => rfl
        | succ m => show (if m < i then _ else _) = _; rw [if_pos (by omega)]
      have HU := Lib.hid (And.intro hr.out hu); clear hu hr
      have hi : ¬ (i : Int) ≤ (n : Int) - 1 := by omega
      go_wp2_with (fail)
      exact bodyPost_ret (results_tmp rfl _ _ _) rfl ⟨by rw [HU.out.1, HU.out.2]; rfl, rfl⟩

theorem trB_eq (n : Nat) : trB n = true :: List.replicate (7 - n % 8) false := by
  unfold trB
  obtain ⟨q, hq⟩ : ∃ q, q = 7 - n % 8 := ⟨_, rfl⟩
  rw [← hq, show 8 - n % 8 = 1 + q by omega, bitsN_append, ← bitsN_mod q, Nat.mod_self, bitsN_zero, Nat.div_self (Nat.two_pow_pos q)]
  rfl

theorem rtrail_any {W w : World} {L : List AObj} {F : List (Nat × Obj)} (h : Hp W w L F) (k : Nat) {b : Nat} {B : List Bool} (hk : L[k]? = some (aQwr b B)) (hB : B.length ≤ 2 ^ 39) :
    Calls Try.prog 32 #[.pointer (some ⟨b, 0, none⟩)] w fun e w' => e = .returned (.int .i64 0) ∧ Hp W w' (L.set k (aQwr b (B ++ trB B.length))) F := by
  have H := Lib.hid h; clear h
  have HK := Lib.hid hk; clear hk
  have hB40 : B.length ≤ 2 ^ 40 := by omega
  have hp := Lib.hid (show pE 1 (Int.toNat 1) = 0 ∧ pE 1 (Int.toNat 0) = 0 from ⟨by decide, by decide⟩)
  have p1 : pB B 1 (Int.toNat 1) = B ++ [true] := by unfold pB; rw [if_pos hp.out.1]; rfl
  have P1 := Lib.hid p1; clear p1
  go_enter Try.func32, Try.ntmps32
  go_wp2_with (first | (go_at_call 29; (with_reducible refine (qput_int H.out k HK.out hB40 1 1 (by decide) (by decide)).mono ?_); rintro e w1 ⟨rfl, hS⟩; simp only [P1.out] at hS))
  have HS := Lib.hid hS; clear hS
  go_loopg [7] 8 (fun g _ wr => ∃ j : Nat, g = 8 - j ∧ j ≤ 7 - B.length % 8 ∧ Hp W wr (L.set k (aQwr b (B ++ true :: List.replicate j false))) F)
  case atStart => exact ⟨0, rfl, by omega, HS.out⟩
  case round =>
    obtain ⟨j, rfl, hj, g⟩ := hrel
    obtain ⟨X, hX⟩ : ∃ X, X = B ++ true :: List.replicate j false := ⟨_, rfl⟩
    have hl : X.length = B.length + 1 + j := by rw [hX]; simp; omega
    have hX40 : X.length ≤ 2 ^ 40 := by omega
    rw [← hX] at g
    by_cases hc : j = 7 - B.length % 8
    · have hm : ((X.length : Int) % 8 == 0) = true := by simp; omega
      have E : Hid (X = B ++ trB B.length) := Lib.hid (by rw [hX, trB_eq, hc])
      clear hX hl
      go_wp2_with (first | (go_at_call 63; (with_reducible refine (qlen_any g k (set_at HK.out _)).mono ?_); rintro e w1 ⟨rfl, rfl⟩))
      exact bodyPost_ret (results_tmp rfl _ _ _) rfl ⟨rfl, by rw [← E.out]; exact g⟩
    · have hm : ((X.length : Int) % 8 == 0) = false := by simp; omega
      have p2 : pB X 1 (Int.toNat 0) = B ++ true :: List.replicate (j + 1) false := by
        unfold pB; rw [if_pos hp.out.2, hX, List.replicate_succ', List.append_assoc]; rfl
      have P2 := Lib.hid p2; clear p2 hX hl
      go_wp2_with (first | (go_at_call 63; (with_reducible refine (qlen_any g k (set_at HK.out _)).mono ?_); rintro e w1 ⟨rfl, rfl⟩) | (go_at_call 29; (with_reducible refine (qput_int g k (set_at HK.out _) hX40 1 0 (by decide) (by decide)).mono ?_); rintro e w1 ⟨rfl, g2⟩; simp only [P2.out, set_set] at g2))
      go_roundg (8 - (j + 1))
      case measure => omega
      case rel => exact ⟨j + 1, rfl, by omega, g2⟩

theorem rleft_as {W w : World} {L : List AObj} {F : List (Nat × Obj)} {b : Nat} (h : Hp W w L F) (k : Nat) {s : ByteArray} {i l : Nat} (hk : L[k]? = some (aQrd b s i)) (hl : l = 8 * s.size - i) :
    Calls Try.prog 73 #[.pointer (some ⟨b, 0, none⟩)] w fun e w' => e = .returned (.int .i64 (l : Int)) ∧ ∃ g, w' = w.drewN g := by subst hl; exact qleft_any h k hk
theorem rstop_as {W w : World} {L : List AObj} {F : List (Nat × Obj)} {b : Nat} (h : Hp W w L F) (k : Nat) {s : ByteArray} {i : Nat} (hk : L[k]? = some (aQrd b s i)) {E : Int} (hE : E = stp s i (8 * s.size)) :
    Calls Try.prog 74 #[.pointer (some ⟨b, 0, none⟩)] w fun e w' => e = .returned (.int .i64 E) ∧ w = w' := by subst hE; exact rstop_any h k hk

set_option maxHeartbeats 1000000 in
theorem rend_any {W w : World} {L : List AObj} {F : List (Nat × Obj)} (h : Hp W w L F) (k : Nat) {b : Nat} {s : ByteArray} {i : Nat} (hk : L[k]? = some (aQrd b s i)) (wd : Bool) :
    Calls Try.prog 58 #[.pointer (some ⟨b, 0, none⟩), .bool wd] w fun e w' => e = .returned (.int .i64 (enE s i wd)) ∧ Hp W w' (L.set k (aQrd b s (enI s i wd))) F := by
  obtain ⟨h1, hs48, his⟩ := h.qrd k hk
  obtain ⟨c0, c1, f0, f1⟩ := cells_two h1
  clear h1
  have H := Lib.hid h; clear h
  have HK := Lib.hid hk; clear hk
  by_cases hi : 8 * s.size ≤ i
  · have e1 : enE s i wd = 5 := if_pos hi
    have e2 : enI s i wd = i := by unfold enI; rw [e1]; rfl
    have hl : 0 = 8 * s.size - i := by omega
    rw [e1, e2, set_same HK.out]
    have HL := Lib.hid hl; clear e1 e2 hl
    go_enter Try.func58, Try.ntmps58
    go_wp2_with (first | (go_at_call 73; (with_reducible refine (rleft_as H.out k HK.out HL.out).mono ?_); rintro e w1 ⟨rfl, g, rfl⟩))
    exact bodyPost_ret (results_tmp rfl _ _ _) rfl ⟨rfl, H.out.drewN _⟩
  · have hi' : i < 8 * s.size := by omega
    have hst := stp_end hi'
    obtain ⟨l, hl⟩ : ∃ l, l = 8 * s.size - i := ⟨_, rfl⟩
    obtain ⟨A, hA⟩ : ∃ A, A = (8 * s.size - i - 1) / 8 := ⟨_, rfl⟩
    have hl0 : 1 ≤ l := by omega
    have hl1 : ((l : Int) == 0) = false := by simp; omega
    have a0 : (s.size : Int) - ((i : Int) / 8 + 1) = (A : Int) := by omega
    have q1 : IntKind.i64.wrap ((i : Int) / 8) = (i : Int) / 8 := IntWalk.i64_in _ (by omega)
    have q2 : IntKind.i64.wrap ((i : Int) / 8 + 1) = (i : Int) / 8 + 1 := IntWalk.i64_in _ (by omega)
    have q3 : IntKind.i64.wrap ((s.size : Int) - ((i : Int) / 8 + 1)) = (A : Int) := by rw [a0]; exact IntWalk.i64_in _ (by omega)
    have q4 : IntKind.i64.wrap (8 * (s.size : Int)) = ((8 * s.size : Nat) : Int) := by rw [show 8 * (s.size : Int) = ((8 * s.size : Nat) : Int) by omega]; exact IntWalk.i64_in _ (by omega)
    have u1 : enE s i wd = if enG s i = true ∧ A % 2 = 0 ∧ (wd = false → A = 0) then 0 else 4 := by unfold enE; rw [if_neg hi, ← hA]
    have n1 : enE s i wd = 4 → enI s i wd = i := fun e => by unfold enI; rw [if_neg (by rw [e]; decide)]
    have n2 : enE s i wd = 0 → enI s i wd = 8 * s.size := fun e => by unfold enI; rw [if_pos e]
    have hAb : A ≤ 2 ^ 48 := by omega
    have HL := Lib.hid hl; clear hl hA a0
    obtain ⟨E, hE⟩ : ∃ E, E = stp s i (8 * s.size) := ⟨_, rfl⟩
    rw [← hE] at hst
    have HE := Lib.hid hE; clear hE
    by_cases hg : E = (i : Int)
    · have hg' := hst.1 hg
      have hEi : (E == (i : Int)) = true := by simpa using hg
      rw [hg'] at u1
      clear hst hg hg'
      by_cases hA0 : A = 0
      · have e1 : enE s i wd = 0 := by rw [u1, if_pos ⟨rfl, by omega, fun _ => hA0⟩]
        have e2 := n2 e1
        have hd : decide ((0 : Int) < (A : Int)) = false := by simp; omega
        have hd' : decide (0 < A) = false := by simp; omega
        clear u1 n1 n2 hA0
        have EE := Lib.hid (And.intro e1 e2); clear e1 e2
        go_enter Try.func58, Try.ntmps58
        go_wp2_with (first | (go_at_call 73; (with_reducible refine (rleft_as H.out k HK.out HL.out).mono ?_); rintro e w1 ⟨rfl, g, rfl⟩))
        have hh := H.out.drewN g
        generalize w.drewN g = w2 at *
        have H2 := Lib.hid hh; clear hh
        obtain ⟨c0, c1, f0, f1⟩ := cells_two (H2.out.qrd k HK.out).1
        go_quiet ((go_at_call 74; exact Calls.quiet_of_same ((rstop_as (Hp.drewN H2.out _) k HK.out HE.out).mono fun _ _ ⟨he, hw⟩ => ⟨he, hw.symm⟩)))
        go_wp2_with (fail)
        go_quiet (fail)
        go_wp2_with (fail)
        rw [EE.out.1, EE.out.2]
        exact bodyPost_ret (results_tmp rfl _ _ _) rfl ⟨rfl, (H2.out.drewN _).qrd_set k HK.out 0 (8 * s.size) (Nat.le_refl _)⟩
      · have hd : decide ((0 : Int) < (A : Int)) = true := by simp; omega
        have hd' : decide (0 < A) = true := by simp; omega
        cases wd
        · have e1 : enE s i false = 4 := by rw [u1, if_neg (fun hx => hA0 (hx.2.2 rfl))]
          have e2 := n1 e1
          clear u1 n1 n2 hA0
          have EE := Lib.hid (And.intro e1 e2); clear e1 e2
          go_enter Try.func58, Try.ntmps58
          go_wp2_with (first | (go_at_call 73; (with_reducible refine (rleft_as H.out k HK.out HL.out).mono ?_); rintro e w1 ⟨rfl, g, rfl⟩))
          have hh := H.out.drewN g
          generalize w.drewN g = w2 at *
          have H2 := Lib.hid hh; clear hh
          obtain ⟨c0, c1, f0, f1⟩ := cells_two (H2.out.qrd k HK.out).1
          go_quiet ((go_at_call 74; exact Calls.quiet_of_same ((rstop_as (Hp.drewN H2.out _) k HK.out HE.out).mono fun _ _ ⟨he, hw⟩ => ⟨he, hw.symm⟩)))
          go_wp2_with (fail)
          go_quiet (fail)
          go_wp2_with (fail)
          rw [EE.out.1, EE.out.2, set_same HK.out]
          exact bodyPost_ret (results_tmp rfl _ _ _) rfl ⟨rfl, H2.out.drewN _⟩
        · by_cases hA2 : A % 2 = 0
          · have e1 : enE s i true = 0 := by rw [u1, if_pos ⟨rfl, hA2, fun hx => by cases hx⟩]
            have e2 := n2 e1
            have hm : ((A : Int) % 2 == 1) = false := by simp; omega
            clear u1 n1 n2 hA0 hA2
            have EE := Lib.hid (And.intro e1 e2); clear e1 e2
            go_enter Try.func58, Try.ntmps58
            go_wp2_with (first | (go_at_call 73; (with_reducible refine (rleft_as H.out k HK.out HL.out).mono ?_); rintro e w1 ⟨rfl, g, rfl⟩))
            have hh := H.out.drewN g
            generalize w.drewN g = w2 at *
            have H2 := Lib.hid hh; clear hh
            obtain ⟨c0, c1, f0, f1⟩ := cells_two (H2.out.qrd k HK.out).1
            go_quiet ((go_at_call 74; exact Calls.quiet_of_same ((rstop_as (Hp.drewN H2.out _) k HK.out HE.out).mono fun _ _ ⟨he, hw⟩ => ⟨he, hw.symm⟩)))
            go_wp2_with (fail)
            go_quiet (fail)
            go_wp2_with (fail)
            rw [EE.out.1, EE.out.2]
            exact bodyPost_ret (results_tmp rfl _ _ _) rfl ⟨rfl, (H2.out.drewN _).qrd_set k HK.out 0 (8 * s.size) (Nat.le_refl _)⟩
          · have e1 : enE s i true = 4 := by rw [u1, if_neg (fun hx => hA2 hx.2.1)]
            have e2 := n1 e1
            have hm : ((A : Int) % 2 == 1) = true := by simp; omega
            clear u1 n1 n2 hA0 hA2
            have EE := Lib.hid (And.intro e1 e2); clear e1 e2
            go_enter Try.func58, Try.ntmps58
            go_wp2_with (first | (go_at_call 73; (with_reducible refine (rleft_as H.out k HK.out HL.out).mono ?_); rintro e w1 ⟨rfl, g, rfl⟩))
            have hh := H.out.drewN g
            generalize w.drewN g = w2 at *
            have H2 := Lib.hid hh; clear hh
            obtain ⟨c0, c1, f0, f1⟩ := cells_two (H2.out.qrd k HK.out).1
            go_quiet ((go_at_call 74; exact Calls.quiet_of_same ((rstop_as (Hp.drewN H2.out _) k HK.out HE.out).mono fun _ _ ⟨he, hw⟩ => ⟨he, hw.symm⟩)))
            go_wp2_with (fail)
            go_quiet (fail)
            go_wp2_with (fail)
            rw [EE.out.1, EE.out.2, set_same HK.out]
            exact bodyPost_ret (results_tmp rfl _ _ _) rfl ⟨rfl, H2.out.drewN _⟩
    · have e1 : enE s i wd = 4 := by rw [u1, if_neg (fun hx => hg (hst.2 hx.1))]
      have e2 := n1 e1
      have hEi : (E == (i : Int)) = false := by simpa using hg
      clear u1 n1 n2 hst hg
      have EE := Lib.hid (And.intro e1 e2); clear e1 e2
      go_enter Try.func58, Try.ntmps58
      go_wp2_with (first | (go_at_call 73; (with_reducible refine (rleft_as H.out k HK.out HL.out).mono ?_); rintro e w1 ⟨rfl, g, rfl⟩))
      have hh := H.out.drewN g
      generalize w.drewN g = w2 at *
      have H2 := Lib.hid hh; clear hh
      obtain ⟨c0, c1, f0, f1⟩ := cells_two (H2.out.qrd k HK.out).1
      go_quiet ((go_at_call 74; exact Calls.quiet_of_same ((rstop_as (Hp.drewN H2.out _) k HK.out HE.out).mono fun _ _ ⟨he, hw⟩ => ⟨he, hw.symm⟩)))
      go_wp2_with (fail)
      rw [EE.out.1, EE.out.2, set_same HK.out]
      exact bodyPost_ret (results_tmp rfl _ _ _) rfl ⟨rfl, H2.out.drewN _⟩

end Go.Proofs.Ytkaoeilijdeioaa
