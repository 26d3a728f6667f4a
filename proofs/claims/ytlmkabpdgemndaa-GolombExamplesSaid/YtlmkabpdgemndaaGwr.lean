/- The walk of GolombWrites. -/
import Derived.Test.YtlmkabpdgemndaaGre
import Derived.Deep.RegionHeld3
namespace Go.Proofs.Ytlmkabpdgemndaa
open Go.RowKit
set_option linter.unusedVariables false
set_option maxRecDepth 100000
set_option linter.unusedSimpArgs false

theorem pueB_len (B : List Bool) (v : Nat) : (pueB B v).length ≤ B.length + 80 := by
  unfold pueB
  split
  · rename_i h
    have hv : v ≤ 4294967294 := by unfold pueE at h; split at h <;> omega
    have := ueN_le hv
    rw [List.length_append, ueB_length]; omega
  · omega
theorem pseB_len (B : List Bool) (v : Int) : (pseB B v).length ≤ B.length + 80 := by
  unfold pseB
  split
  · rename_i h
    have hv : -2147483647 ≤ v ∧ v ≤ 2147483647 := by unfold pseE at h; split at h <;> omega
    have := ueN_le (seN_le hv.1 hv.2)
    rw [List.length_append, ueB_length]; omega
  · omega
theorem pteB_len (B : List Bool) (m v : Nat) : (pteB B m v).length ≤ B.length + 80 := by
  unfold pteB
  split
  · rename_i h
    have hv : v ≤ 4294967294 := by unfold pteE at h; split at h <;> omega
    have := ueN_le hv
    have := teB_length (m := m) (v := v)
    rw [List.length_append]; omega
  · omega
theorem pukB_len (B : List Bool) (k : Int) (v : Nat) : (pukB B k v).length ≤ B.length + 80 := by
  unfold pukB
  split
  · rename_i h
    have hv : 0 ≤ k ∧ k ≤ 8 ∧ v / 2 ^ k.toNat ≤ 4294967294 := by unfold pukE at h; split at h <;> omega
    have := ueN_le hv.2.2
    unfold ukB
    rw [List.length_append, List.length_append, ueB_length, bitsN_length]; omega
  · omega

set_option maxHeartbeats 2000000 in
theorem gwrites_walk {W : World} {sp : Option Addr} {n cap b o : Nat} {C : Nat → List Value} (hin : RowsIn Try.prog W [.int .u8, .int .u64, .int .i64, .int .u64] sp n b o C) (hn63 : n ≤ 9223372036854775807) :
    Calls Try.prog 4 #[.slice sp n cap] W fun e w' => e = .returned (.bool true) ∧ Below W.heap.size W w' := by
  have hS := Hp.start W
  by_cases hn : n ≤ 60
  · have hnd : decide ((60 : Int) < (n : Int)) = false := by simp; omega
    have HIN := Lib.hid hin
    clear hin
    go_enter Try.func4, Try.ntmps4
    go_wp2_with (first | (go_at_call 13; refine (write_any (by assumption)).mono ?_; rintro e w1 ⟨wb, rfl, hS⟩) | (go_at_call 22; refine (qwrite_any (by assumption)).mono ?_; rintro e w1 ⟨qwb, rfl, hS⟩))
    have HS := Lib.hid (by assumption : Hp W _ [_, _] _)
    go_loopw [5] (fun i wr => ∃ c : Nat, ∃ B : List Bool, i = .int .i64 c ∧ c ≤ n ∧ B.length ≤ 80 * c ∧ Hp W wr [aQwr qwb B, aWr wb B] []) (fun i _ => n - (intOf i).toNat)
    case atStart => exact ⟨0, [], rfl, Nat.zero_le _, by simp, HS.out⟩
    case round =>
      obtain ⟨c, B, rfl, g1, gB, g2⟩ := hrel
      by_cases hc : c < n
      · obtain ⟨rfl, hblt⟩ := HIN.out.at_ (by omega)
        have hcl := call_in HIN.out hc
        generalize zat C c 0 = wh at hcl
        generalize (zat C c 1).toNat = m at hcl
        generalize zat C c 2 = k at hcl
        generalize (zat C c 3).toNat = v at hcl
        have k0 : ∀ w', Below W.heap.size W w' → w'.cell? ⟨b, o + c * 4, none⟩ = some (.int .u8 wh) := fun w' hb => (hb.cell (p := ⟨b, o + c * 4, none⟩) hblt).trans hcl.c0
        have k1 : ∀ w', Below W.heap.size W w' → w'.cell? ⟨b, o + c * 4 + 1, none⟩ = some (.int .u64 m) := fun w' hb => (hb.cell (p := ⟨b, o + c * 4 + 1, none⟩) hblt).trans hcl.c1
        have k2 : ∀ w', Below W.heap.size W w' → w'.cell? ⟨b, o + c * 4 + 2, none⟩ = some (.int .i64 k) := fun w' hb => (hb.cell (p := ⟨b, o + c * 4 + 2, none⟩) hblt).trans hcl.c2
        have k3 : ∀ w', Below W.heap.size W w' → w'.cell? ⟨b, o + c * 4 + 3, none⟩ = some (.int .u64 v) := fun w' hb => (hb.cell (p := ⟨b, o + c * 4 + 3, none⟩) hblt).trans hcl.c3
        have t1 := hcl.w0
        have hm := hcl.m1
        have hk := hcl.k1
        have hv := hcl.v1
        have hO := g2.below
        have hB40 : B.length ≤ 2 ^ 40 := by omega
        have hB39 : B.length ≤ 2 ^ 39 := by omega
        obtain ⟨X, hX⟩ : ∃ X : Int, X = IntKind.i64.wrap (v : Int) := ⟨_, rfl⟩
        have hXb : -9223372036854775808 ≤ X ∧ X ≤ 9223372036854775807 := by rw [hX, IntKind.wrap_i64]; omega
        have hX' := hX.symm
        have hX1 := hXb.1; have hX2 := hXb.2
        clear hcl hX hXb
        have PB : Hid ((pueB B v).length ≤ B.length + 80 ∧ (pseB B X).length ≤ B.length + 80 ∧ (pteB B m v).length ≤ B.length + 80 ∧ (pukB B k v).length ≤ B.length + 80) := Lib.hid ⟨pueB_len _ _, pseB_len _ _, pteB_len _ _ _, pukB_len _ _ _⟩
        have c0 := k0 _ hO
        have h3 : wh % 4 = 0 ∨ wh % 4 = 1 ∨ wh % 4 = 2 ∨ wh % 4 = 3 := by omega
        rcases h3 with h3 | h3 | h3 | h3
        · have d0 : (wh % 4 == 0) = true := by rw [h3]; rfl
          have hL := PB.out.1
          have hL41 : (pueB B v).length ≤ 2 ^ 41 := by omega
          clear h3
          go_wp2_with (fail)
          clear c0
          have hq2 := Hp.drew (by assumption : Hp W _ [aQwr qwb B, aWr wb B] [])
          have hO2 := hq2.below
          have c3 := k3 _ hO
          go_region_held3 (fun w' => w'.cell? ⟨b, o + c * 4 + 3, none⟩ = some (.int .u64 v)) (first | exact k3 _ (by assumption) | go_keep) (first | (go_at_call 18; refine (gput_ue (by assumption) _ (by first | exact at0 | exact at1 | exact at2 | exact at3) (by first | assumption | omega) _ (by first | assumption | omega)).mono ?_; rintro e w1 ⟨rfl, hS⟩; simp only [set0, set1, set2, set3] at hS; have hO := hS.below) | (go_at_call 23; refine (qgput_ue (by assumption) _ (by first | exact at0 | exact at1 | exact at2 | exact at3) (by first | assumption | omega) _ (by first | assumption | omega)).mono ?_; rintro e w1 ⟨rfl, hS⟩; simp only [set0, set1, set2, set3] at hS; have hO := hS.below))
          go_wp2_with (first | (go_at_call 20; refine (len_hp (by assumption) _ (by first | exact at0 | exact at1 | exact at2 | exact at3) (by first | assumption | omega)).mono ?_; rintro e w1 ⟨rfl, hS⟩; have hO := hS.below) | (go_at_call 30; refine (qlen_any (by assumption) _ (by first | exact at0 | exact at1 | exact at2 | exact at3)).mono ?_; rintro e w1 ⟨rfl, rfl⟩))
          go_roundw
          case rel => exact ⟨c + 1, pueB B v, by go_num, by omega, by omega, by assumption⟩
          case measure => simp [intOf]; omega
        · have d0 : (wh % 4 == 0) = false := by rw [h3]; rfl
          have d1 : (wh % 4 == 1) = true := by rw [h3]; rfl
          have hL := PB.out.2.1
          have hL41 : (pseB B X).length ≤ 2 ^ 41 := by omega
          clear h3
          go_wp2_with (fail)
          clear c0
          have hq2 := Hp.drew (by assumption : Hp W _ [aQwr qwb B, aWr wb B] [])
          have hO2 := hq2.below
          have c3 := k3 _ hO
          go_region_held3 (fun w' => w'.cell? ⟨b, o + c * 4 + 3, none⟩ = some (.int .u64 v)) (first | exact k3 _ (by assumption) | go_keep) (first | (go_at_call 24; refine (gput_se (by assumption) _ (by first | exact at0 | exact at1 | exact at2 | exact at3) (by first | assumption | omega) _ (by first | assumption | omega) (by first | assumption | omega)).mono ?_; rintro e w1 ⟨rfl, hS⟩; simp only [set0, set1, set2, set3] at hS; have hO := hS.below) | (go_at_call 25; refine (qgput_se (by assumption) _ (by first | exact at0 | exact at1 | exact at2 | exact at3) (by first | assumption | omega) _ (by first | assumption | omega) (by first | assumption | omega)).mono ?_; rintro e w1 ⟨rfl, hS⟩; simp only [set0, set1, set2, set3] at hS; have hO := hS.below))
          go_wp2_with (first | (go_at_call 20; refine (len_hp (by assumption) _ (by first | exact at0 | exact at1 | exact at2 | exact at3) (by first | assumption | omega)).mono ?_; rintro e w1 ⟨rfl, hS⟩; have hO := hS.below) | (go_at_call 30; refine (qlen_any (by assumption) _ (by first | exact at0 | exact at1 | exact at2 | exact at3)).mono ?_; rintro e w1 ⟨rfl, rfl⟩))
          go_roundw
          case rel => exact ⟨c + 1, pseB B X, by go_num, by omega, by omega, by assumption⟩
          case measure => simp [intOf]; omega
        · have d0 : (wh % 4 == 0) = false := by rw [h3]; rfl
          have d1 : (wh % 4 == 1) = false := by rw [h3]; rfl
          have d2 : (wh % 4 == 2) = true := by rw [h3]; rfl
          have hL := PB.out.2.2.1
          have hL41 : (pteB B m v).length ≤ 2 ^ 41 := by omega
          clear h3
          go_wp2_with (fail)
          clear c0
          have hq2 := Hp.drew (by assumption : Hp W _ [aQwr qwb B, aWr wb B] [])
          have hO2 := hq2.below
          have c3 := k3 _ hO
          have c1 := k1 _ hO
          go_region_held3 (fun w' => w'.cell? ⟨b, o + c * 4 + 1, none⟩ = some (.int .u64 m) ∧ w'.cell? ⟨b, o + c * 4 + 3, none⟩ = some (.int .u64 v)) (first | exact ⟨k1 _ (by assumption), k3 _ (by assumption)⟩ | go_keep) (first | (go_at_call 26; refine (gput_te (by assumption) _ (by first | exact at0 | exact at1 | exact at2 | exact at3) (by first | assumption | omega) _ _ (by first | assumption | omega) (by first | assumption | omega)).mono ?_; rintro e w1 ⟨rfl, hS⟩; simp only [set0, set1, set2, set3] at hS; have hO := hS.below) | (go_at_call 27; refine (qgput_te (by assumption) _ (by first | exact at0 | exact at1 | exact at2 | exact at3) (by first | assumption | omega) _ _ (by first | assumption | omega) (by first | assumption | omega)).mono ?_; rintro e w1 ⟨rfl, hS⟩; simp only [set0, set1, set2, set3] at hS; have hO := hS.below))
          go_wp2_with (first | (go_at_call 20; refine (len_hp (by assumption) _ (by first | exact at0 | exact at1 | exact at2 | exact at3) (by first | assumption | omega)).mono ?_; rintro e w1 ⟨rfl, hS⟩; have hO := hS.below) | (go_at_call 30; refine (qlen_any (by assumption) _ (by first | exact at0 | exact at1 | exact at2 | exact at3)).mono ?_; rintro e w1 ⟨rfl, rfl⟩))
          go_roundw
          case rel => exact ⟨c + 1, pteB B m v, by go_num, by omega, by omega, by assumption⟩
          case measure => simp [intOf]; omega
        · have d0 : (wh % 4 == 0) = false := by rw [h3]; rfl
          have d1 : (wh % 4 == 1) = false := by rw [h3]; rfl
          have d2 : (wh % 4 == 2) = false := by rw [h3]; rfl
          have hL := PB.out.2.2.2
          have hL41 : (pukB B k v).length ≤ 2 ^ 41 := by omega
          clear h3
          go_wp2_with (fail)
          clear c0
          have hq2 := Hp.drew (by assumption : Hp W _ [aQwr qwb B, aWr wb B] [])
          have hO2 := hq2.below
          have c3 := k3 _ hO
          have c2 := k2 _ hO
          go_region_held3 (fun w' => w'.cell? ⟨b, o + c * 4 + 2, none⟩ = some (.int .i64 k) ∧ w'.cell? ⟨b, o + c * 4 + 3, none⟩ = some (.int .u64 v)) (first | exact ⟨k2 _ (by assumption), k3 _ (by assumption)⟩ | go_keep) (first | (go_at_call 28; refine (gput_uk (by assumption) _ (by first | exact at0 | exact at1 | exact at2 | exact at3) (by first | assumption | omega) _ _ (by first | assumption | omega)).mono ?_; rintro e w1 ⟨rfl, hS⟩; simp only [set0, set1, set2, set3] at hS; have hO := hS.below) | (go_at_call 29; refine (qgput_uk (by assumption) _ (by first | exact at0 | exact at1 | exact at2 | exact at3) (by first | assumption | omega) _ _ (by first | assumption | omega)).mono ?_; rintro e w1 ⟨rfl, hS⟩; simp only [set0, set1, set2, set3] at hS; have hO := hS.below))
          go_wp2_with (first | (go_at_call 20; refine (len_hp (by assumption) _ (by first | exact at0 | exact at1 | exact at2 | exact at3) (by first | assumption | omega)).mono ?_; rintro e w1 ⟨rfl, hS⟩; have hO := hS.below) | (go_at_call 30; refine (qlen_any (by assumption) _ (by first | exact at0 | exact at1 | exact at2 | exact at3)).mono ?_; rintro e w1 ⟨rfl, rfl⟩))
          go_roundw
          case rel => exact ⟨c + 1, pukB B k v, by go_num, by omega, by omega, by assumption⟩
          case measure => simp [intOf]; omega
      · obtain rfl : c = n := by omega
        have hB41 : B.length ≤ 2 ^ 41 := by omega
        go_wp2_with (first | (go_at_call 31; refine (wbits_any (by assumption) _ (by first | exact at0 | exact at1 | exact at2 | exact at3) (by first | assumption | omega)).mono ?_; rintro e w1 ⟨rfl, hS⟩; have hO := hS.below) | (go_at_call 32; refine (qbits_any (by assumption) _ (by first | exact at0 | exact at1 | exact at2 | exact at3)).mono ?_; rintro e w1 ⟨rfl, rfl⟩) | (go_at_call 11; refine (gknown_any (by assumption)).mono ?_; rintro e w1 ⟨rfl, hS⟩))
        exact bodyPost_ret (results_tmp rfl _ _ _) rfl ⟨rfl, Hp.below (by assumption)⟩
  · have hnd : decide ((60 : Int) < (n : Int)) = true := by simp; omega
    go_enter Try.func4, Try.ntmps4
    go_wp2_with (first | (go_at_call 11; refine (gknown_any (by assumption)).mono ?_; rintro e w1 ⟨rfl, hS⟩))
    exact bodyPost_ret (results_tmp rfl _ _ _) rfl ⟨rfl, Hp.below (by assumption)⟩

end Go.Proofs.Ytlmkabpdgemndaa
