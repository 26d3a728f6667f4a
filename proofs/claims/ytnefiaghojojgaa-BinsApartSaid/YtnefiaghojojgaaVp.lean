/- The law's put. -/
import Derived.Test.YtnefiaghojojgaaVl
import Derived.Deep.RegionWith
import Derived.BigRegion
import Derived.Deep.RegionHeld3
namespace Go.Proofs.Ytnefiaghojojgaa
open Go.RowKit Go.Shelf
set_option linter.unusedVariables false
set_option maxRecDepth 100000
set_option linter.unusedSimpArgs false

def putB (what V N : Int) : List (Int × Int) :=
  if what % 6 = 0 then unB (V % 60) (24 + N % 4) 28 29
  else if what % 6 = 1 then cutB (V % (N % 15 + 1)) (N % 15) 46 49
  else if what % 6 = 2 then escB (V % 2147483648).toNat (N % 9)
  else if what % 6 = 3 then mvB (V % 16385 - 8192) (N % 50) false
  else if what % 6 = 4 then mvB (V % 16385 - 8192) (N % 50) true
  else qpB (V % 52 - 26) (N % 2)

section
variable {W w : World} {L : List AObj} {F : List (Nat × Obj)}
theorem cells_el {w : World} {b : Nat} {x y z : Value} {t : TypeId} (h : w.heap[b]? = some (.cells #[x, y, z] t (0, 0))) : w.cell? ⟨b, 0, none⟩ = some x ∧ w.cell? ⟨b, 1, none⟩ = some y ∧ w.cell? ⟨b, 2, none⟩ = some z := by
  refine ⟨?_, ?_, ?_⟩ <;> simp [World.cell?, h]
theorem unary_to (h : Hp W w L F) {v f s r v' f' : Int} (hv : v' = v) (hf : f' = f) (h1 : -9223372036854775808 ≤ v) (h2 : v < 9223372036854775808) (hE : unE v f s r = 0) :
    Calls Try.prog 11 #[.int .i64 v', .int .i64 f', .int .i64 s, .int .i64 r] w fun e w' => ∃ y, e = .returned (.tuple #[y, .int .i64 0]) ∧ Hp W w' (aBn y (unB v f s r) :: L) F := by
  subst hv hf
  have := unary_any h v' f' s r h1 h2
  rwa [hE] at this

-- PRINTED by src/bput.py
theorem cut_to (h : Hp W w L F) {v m f r : Int} (hE : cutE v m f r = 0) :
    Calls Try.prog 27 #[.int .i64 v, .int .i64 m, .int .i64 f, .int .i64 r] w fun e w' => ∃ y, e = .returned (.tuple #[y, .int .i64 0]) ∧ Hp W w' (aBn y (cutB v m f r) :: L) F := by
  have := cut_any h v m f r
  rwa [hE] at this
theorem escape_to (h : Hp W w L F) {v : Nat} {k : Int} (hv : v < 18446744073709551616) (hE : escE v k = 0) :
    Calls Try.prog 12 #[.int .u64 v, .int .i64 k] w fun e w' => ∃ y, e = .returned (.tuple #[y, .int .i64 0]) ∧ Hp W w' (aBn y (escB v k) :: L) F := by
  have := escape_any h v k hv
  rwa [hE] at this
theorem mvd_to (h : Hp W w L F) {v sum : Int} {vert : Bool} (hE : mvE v sum = 0) :
    Calls Try.prog 13 #[.int .i64 v, .int .i64 sum, .bool vert] w fun e w' => ∃ y, e = .returned (.tuple #[y, .int .i64 0]) ∧ Hp W w' (aBn y (mvB v sum vert) :: L) F := by
  have := mvd_any h v sum vert
  rwa [hE] at this
theorem qp_to (h : Hp W w L F) {v inc : Int} (hE : qpE v inc = 0) :
    Calls Try.prog 32 #[.int .i64 v, .int .i64 inc] w fun e w' => ∃ y, e = .returned (.tuple #[y, .int .i64 0]) ∧ Hp W w' (aBn y (qpB v inc) :: L) F := by
  have := qp_any h v inc
  rwa [hE] at this
set_option maxHeartbeats 8000000 in
theorem put0 (h : Hp W w L F) (what V N : Int) (hw : what % 6 = 0) (w0 : 0 ≤ what) (w1 : what ≤ 255) (v1 : -9223372036854775808 ≤ V) (v2 : V < 9223372036854775808) (n1 : -9223372036854775808 ≤ N) (n2 : N < 9223372036854775808) :
    Calls Try.prog 15 #[.agg #[.int .u8 what, .int .i64 V, .int .i64 N]] w fun e w' => ∃ y, e = .returned (.tuple #[y, .int .i64 0]) ∧ Hp W w' (aBn y (unB (V % 60) (24 + N % 4) 28 29) :: L) F := by
  obtain ⟨b, hb⟩ : ∃ b, N % 4 = b := ⟨_, rfl⟩
  have b1 : 0 ≤ b ∧ b < 4 := by omega
  obtain ⟨a, ha⟩ : ∃ a, V % 60 = a := ⟨_, rfl⟩
  have a1 : 0 ≤ a ∧ a < 60 := by omega
  rw [ha, hb]
  obtain ⟨a11, a12⟩ := a1
  obtain ⟨b11, b12⟩ := b1
  have hE : unE a (24 + b) 28 29 = 0 := by
    refine if_pos ⟨a11, by omega, ?_⟩
    simp only [List.all_cons, List.all_nil, okc, Bool.and_true]
    rw [decide_eq_true (show -1 ≤ 24 + b by omega), decide_eq_true (show 24 + b < 286 by omega)]
    rfl
  have i0 : IntKind.i64.wrap (24 + b) = 24 + b := IntWalk.i64_in _ (by omega)
  have HE := Lib.hid hE
  have HA := Lib.hid (And.intro ha hb)
  clear ha hb hE
  have H := Lib.hid (h.alloc (.cells #[.int .u8 what, .int .i64 V, .int .i64 N] 43))
  have KC : ∀ w', Hp W w' L ((w.heap.size, .cells #[.int .u8 what, .int .i64 V, .int .i64 N] 43 (0, 0)) :: F) → w'.cell? ⟨w.heap.size, 0, none⟩ = some (.int .u8 what) ∧ w'.cell? ⟨w.heap.size, 1, none⟩ = some (.int .i64 V) ∧ w'.cell? ⟨w.heap.size, 2, none⟩ = some (.int .i64 N) := fun w' h => cells_el (h.blk (.head _))
  clear h
  go_enter Try.func15, Try.ntmps15
  go_wp2_with (fail)
  go_region_held3 (fun w' => w'.cell? ⟨w.heap.size, 0, none⟩ = some (.int .u8 what) ∧ w'.cell? ⟨w.heap.size, 1, none⟩ = some (.int .i64 V) ∧ w'.cell? ⟨w.heap.size, 2, none⟩ = some (.int .i64 N)) (first | exact cells_el (Hp.blk (by assumption) (.tail _ (.head _))) | exact cells_el (Hp.blk (by assumption) (.head _)) | go_keep) (first | (go_at_call 10; (with_reducible refine (rest_as HA.out.1 (by decide) (by decide) v1 v2 _).mono ?_); rintro e w1 ⟨rfl, rfl⟩) | (go_at_call 10; (with_reducible refine (rest_as HA.out.2 (by decide) (by decide) n1 n2 _).mono ?_); rintro e w1 ⟨rfl, rfl⟩) | (go_at_call 11; (with_reducible refine (unary_to H.out.drew (v := a) (f := 24 + b) rfl rfl (by omega) (by omega) HE.out).mono ?_); rintro e w2 ⟨y, rfl, h2⟩))
  all_goals
    go_wp2_with (fail)
    exact bodyPost_ret (results_tmp2 rfl _ _ _) rfl ⟨y, rfl, h2.drop⟩
set_option maxHeartbeats 8000000 in
theorem put1 (h : Hp W w L F) (what V N : Int) (hw : what % 6 = 1) (w0 : 0 ≤ what) (w1 : what ≤ 255) (v1 : -9223372036854775808 ≤ V) (v2 : V < 9223372036854775808) (n1 : -9223372036854775808 ≤ N) (n2 : N < 9223372036854775808) :
    Calls Try.prog 15 #[.agg #[.int .u8 what, .int .i64 V, .int .i64 N]] w fun e w' => ∃ y, e = .returned (.tuple #[y, .int .i64 0]) ∧ Hp W w' (aBn y (cutB (V % (N % 15 + 1)) (N % 15) 46 49) :: L) F := by
  obtain ⟨b, hb⟩ : ∃ b, N % 15 = b := ⟨_, rfl⟩
  have b1 : 0 ≤ b ∧ b < 15 := by omega
  rw [hb]
  obtain ⟨a, ha⟩ : ∃ a, V % (b + 1) = a := ⟨_, rfl⟩
  have a1 : 0 ≤ a ∧ a < b + 1 := by rw [← ha]; exact ⟨Int.emod_nonneg _ (by omega), Int.emod_lt_of_pos _ (by omega)⟩
  rw [ha]
  obtain ⟨a11, a12⟩ := a1
  obtain ⟨b11, b12⟩ := b1
  have hE : cutE a b 46 49 = 0 := if_pos ⟨b11, by omega, by decide, a11, by omega⟩
  have HE := Lib.hid hE
  have HA := Lib.hid (And.intro ha hb)
  clear ha hb hE
  have H := Lib.hid (h.lost (.cells #[.int .u8 what, .int .i64 V, .int .i64 N] 43))
  clear h
  go_enter Try.func15, Try.ntmps15
  go_wp2_with (first | (go_at_call 10; (with_reducible refine (rest_as HA.out.1 (by omega) (by omega) v1 v2 _).mono ?_); rintro e w1 ⟨rfl, rfl⟩) | (go_at_call 10; (with_reducible refine (rest_as HA.out.2 (by decide) (by decide) n1 n2 _).mono ?_); rintro e w1 ⟨rfl, rfl⟩) | (go_at_call 27; (with_reducible refine (cut_to H.out HE.out).mono ?_); rintro e w2 ⟨y, rfl, h2⟩))
  exact bodyPost_ret (results_tmp2 rfl _ _ _) rfl ⟨y, rfl, h2⟩
set_option maxHeartbeats 8000000 in
theorem put2 (h : Hp W w L F) (what V N : Int) (hw : what % 6 = 2) (w0 : 0 ≤ what) (w1 : what ≤ 255) (v1 : -9223372036854775808 ≤ V) (v2 : V < 9223372036854775808) (n1 : -9223372036854775808 ≤ N) (n2 : N < 9223372036854775808) :
    Calls Try.prog 15 #[.agg #[.int .u8 what, .int .i64 V, .int .i64 N]] w fun e w' => ∃ y, e = .returned (.tuple #[y, .int .i64 0]) ∧ Hp W w' (aBn y (escB (V % 2147483648).toNat (N % 9)) :: L) F := by
  obtain ⟨b, hb⟩ : ∃ b, N % 9 = b := ⟨_, rfl⟩
  have b1 : 0 ≤ b ∧ b < 9 := by omega
  obtain ⟨a, ha⟩ : ∃ a, V % 2147483648 = a := ⟨_, rfl⟩
  have a1 : 0 ≤ a ∧ a < 2147483648 := by omega
  rw [ha, hb]
  obtain ⟨a11, a12⟩ := a1
  obtain ⟨b11, b12⟩ := b1
  obtain ⟨A, rfl⟩ : ∃ A : Nat, a = (A : Int) := ⟨a.toNat, by omega⟩
  rw [Int.toNat_natCast]
  have hE : escE A b = 0 := by
    refine if_neg ?_
    have : A / 2 ^ b.toNat ≤ A := Nat.div_le_self _ _
    omega
  have i0 : IntKind.u64.wrap (A : Int) = (A : Int) := w_u64 (by omega)
  have HE := Lib.hid hE
  have HA := Lib.hid (And.intro ha hb)
  clear ha hb hE
  have H := Lib.hid (h.alloc (.cells #[.int .u8 what, .int .i64 V, .int .i64 N] 43))
  have KC : ∀ w', Hp W w' L ((w.heap.size, .cells #[.int .u8 what, .int .i64 V, .int .i64 N] 43 (0, 0)) :: F) → w'.cell? ⟨w.heap.size, 0, none⟩ = some (.int .u8 what) ∧ w'.cell? ⟨w.heap.size, 1, none⟩ = some (.int .i64 V) ∧ w'.cell? ⟨w.heap.size, 2, none⟩ = some (.int .i64 N) := fun w' h => cells_el (h.blk (.head _))
  clear h
  go_enter Try.func15, Try.ntmps15
  go_wp2_with (fail)
  go_region_held3 (fun w' => w'.cell? ⟨w.heap.size, 0, none⟩ = some (.int .u8 what) ∧ w'.cell? ⟨w.heap.size, 1, none⟩ = some (.int .i64 V) ∧ w'.cell? ⟨w.heap.size, 2, none⟩ = some (.int .i64 N)) (first | exact cells_el (Hp.blk (by assumption) (.tail _ (.head _))) | exact cells_el (Hp.blk (by assumption) (.head _)) | go_keep) (first | (go_at_call 10; (with_reducible refine (rest_as HA.out.1 (by decide) (by decide) v1 v2 _).mono ?_); rintro e w1 ⟨rfl, rfl⟩) | (go_at_call 10; (with_reducible refine (rest_as HA.out.2 (by decide) (by decide) n1 n2 _).mono ?_); rintro e w1 ⟨rfl, rfl⟩) | (go_at_call 12; (with_reducible refine (escape_to H.out.drew (by omega) HE.out).mono ?_); rintro e w2 ⟨y, rfl, h2⟩))
  all_goals
    go_wp2_with (fail)
    exact bodyPost_ret (results_tmp2 rfl _ _ _) rfl ⟨y, rfl, h2.drop⟩
set_option maxHeartbeats 8000000 in
theorem put3 (h : Hp W w L F) (what V N : Int) (hw : what % 6 = 3) (w0 : 0 ≤ what) (w1 : what ≤ 255) (v1 : -9223372036854775808 ≤ V) (v2 : V < 9223372036854775808) (n1 : -9223372036854775808 ≤ N) (n2 : N < 9223372036854775808) :
    Calls Try.prog 15 #[.agg #[.int .u8 what, .int .i64 V, .int .i64 N]] w fun e w' => ∃ y, e = .returned (.tuple #[y, .int .i64 0]) ∧ Hp W w' (aBn y (mvB (V % 16385 - 8192) (N % 50) false) :: L) F := by
  obtain ⟨b, hb⟩ : ∃ b, N % 50 = b := ⟨_, rfl⟩
  have b1 : 0 ≤ b ∧ b < 50 := by omega
  obtain ⟨a, ha⟩ : ∃ a, V % 16385 = a := ⟨_, rfl⟩
  have a1 : 0 ≤ a ∧ a < 16385 := by omega
  rw [ha, hb]
  obtain ⟨a11, a12⟩ := a1
  obtain ⟨b11, b12⟩ := b1
  have hE : mvE (a - 8192) b = 0 := if_pos ⟨b11, by omega, by omega⟩
  have i0 : IntKind.i64.wrap (a - 8192) = a - 8192 := IntWalk.i64_in _ (by omega)
  have i1 : what.tmod 6 = 3 := by rw [Int.tmod_eq_emod_of_nonneg w0]; exact hw
  have HE := Lib.hid hE
  have HA := Lib.hid (And.intro ha hb)
  clear ha hb hE
  have H := Lib.hid (h.alloc (.cells #[.int .u8 what, .int .i64 V, .int .i64 N] 43))
  have KC : ∀ w', Hp W w' L ((w.heap.size, .cells #[.int .u8 what, .int .i64 V, .int .i64 N] 43 (0, 0)) :: F) → w'.cell? ⟨w.heap.size, 0, none⟩ = some (.int .u8 what) ∧ w'.cell? ⟨w.heap.size, 1, none⟩ = some (.int .i64 V) ∧ w'.cell? ⟨w.heap.size, 2, none⟩ = some (.int .i64 N) := fun w' h => cells_el (h.blk (.head _))
  clear h
  go_enter Try.func15, Try.ntmps15
  go_wp2_with (fail)
  go_region_held3 (fun w' => w'.cell? ⟨w.heap.size, 0, none⟩ = some (.int .u8 what) ∧ w'.cell? ⟨w.heap.size, 1, none⟩ = some (.int .i64 V) ∧ w'.cell? ⟨w.heap.size, 2, none⟩ = some (.int .i64 N)) (first | exact cells_el (Hp.blk (by assumption) (.tail _ (.head _))) | exact cells_el (Hp.blk (by assumption) (.head _)) | go_keep) (first | (go_at_call 10; (with_reducible refine (rest_as HA.out.1 (by decide) (by decide) v1 v2 _).mono ?_); rintro e w1 ⟨rfl, rfl⟩) | (go_at_call 10; (with_reducible refine (rest_as HA.out.2 (by decide) (by decide) n1 n2 _).mono ?_); rintro e w1 ⟨rfl, rfl⟩) | (go_at_call 13; (with_reducible refine (mvd_to H.out.drew HE.out).mono ?_); rintro e w2 ⟨y, rfl, h2⟩))
  all_goals
    go_wp2_with (fail)
    exact bodyPost_ret (results_tmp2 rfl _ _ _) rfl ⟨y, rfl, h2.drop⟩
set_option maxHeartbeats 8000000 in
theorem put4 (h : Hp W w L F) (what V N : Int) (hw : what % 6 = 4) (w0 : 0 ≤ what) (w1 : what ≤ 255) (v1 : -9223372036854775808 ≤ V) (v2 : V < 9223372036854775808) (n1 : -9223372036854775808 ≤ N) (n2 : N < 9223372036854775808) :
    Calls Try.prog 15 #[.agg #[.int .u8 what, .int .i64 V, .int .i64 N]] w fun e w' => ∃ y, e = .returned (.tuple #[y, .int .i64 0]) ∧ Hp W w' (aBn y (mvB (V % 16385 - 8192) (N % 50) true) :: L) F := by
  obtain ⟨b, hb⟩ : ∃ b, N % 50 = b := ⟨_, rfl⟩
  have b1 : 0 ≤ b ∧ b < 50 := by omega
  obtain ⟨a, ha⟩ : ∃ a, V % 16385 = a := ⟨_, rfl⟩
  have a1 : 0 ≤ a ∧ a < 16385 := by omega
  rw [ha, hb]
  obtain ⟨a11, a12⟩ := a1
  obtain ⟨b11, b12⟩ := b1
  have hE : mvE (a - 8192) b = 0 := if_pos ⟨b11, by omega, by omega⟩
  have i0 : IntKind.i64.wrap (a - 8192) = a - 8192 := IntWalk.i64_in _ (by omega)
  have i1 : what.tmod 6 = 4 := by rw [Int.tmod_eq_emod_of_nonneg w0]; exact hw
  have HE := Lib.hid hE
  have HA := Lib.hid (And.intro ha hb)
  clear ha hb hE
  have H := Lib.hid (h.alloc (.cells #[.int .u8 what, .int .i64 V, .int .i64 N] 43))
  have KC : ∀ w', Hp W w' L ((w.heap.size, .cells #[.int .u8 what, .int .i64 V, .int .i64 N] 43 (0, 0)) :: F) → w'.cell? ⟨w.heap.size, 0, none⟩ = some (.int .u8 what) ∧ w'.cell? ⟨w.heap.size, 1, none⟩ = some (.int .i64 V) ∧ w'.cell? ⟨w.heap.size, 2, none⟩ = some (.int .i64 N) := fun w' h => cells_el (h.blk (.head _))
  clear h
  go_enter Try.func15, Try.ntmps15
  go_wp2_with (fail)
  go_region_held3 (fun w' => w'.cell? ⟨w.heap.size, 0, none⟩ = some (.int .u8 what) ∧ w'.cell? ⟨w.heap.size, 1, none⟩ = some (.int .i64 V) ∧ w'.cell? ⟨w.heap.size, 2, none⟩ = some (.int .i64 N)) (first | exact cells_el (Hp.blk (by assumption) (.tail _ (.head _))) | exact cells_el (Hp.blk (by assumption) (.head _)) | go_keep) (first | (go_at_call 10; (with_reducible refine (rest_as HA.out.1 (by decide) (by decide) v1 v2 _).mono ?_); rintro e w1 ⟨rfl, rfl⟩) | (go_at_call 10; (with_reducible refine (rest_as HA.out.2 (by decide) (by decide) n1 n2 _).mono ?_); rintro e w1 ⟨rfl, rfl⟩) | (go_at_call 13; (with_reducible refine (mvd_to H.out.drew HE.out).mono ?_); rintro e w2 ⟨y, rfl, h2⟩))
  all_goals
    go_wp2_with (fail)
    exact bodyPost_ret (results_tmp2 rfl _ _ _) rfl ⟨y, rfl, h2.drop⟩
set_option maxHeartbeats 8000000 in
theorem put5 (h : Hp W w L F) (what V N : Int) (hw : what % 6 = 5) (w0 : 0 ≤ what) (w1 : what ≤ 255) (v1 : -9223372036854775808 ≤ V) (v2 : V < 9223372036854775808) (n1 : -9223372036854775808 ≤ N) (n2 : N < 9223372036854775808) :
    Calls Try.prog 15 #[.agg #[.int .u8 what, .int .i64 V, .int .i64 N]] w fun e w' => ∃ y, e = .returned (.tuple #[y, .int .i64 0]) ∧ Hp W w' (aBn y (qpB (V % 52 - 26) (N % 2)) :: L) F := by
  obtain ⟨b, hb⟩ : ∃ b, N % 2 = b := ⟨_, rfl⟩
  have b1 : 0 ≤ b ∧ b < 2 := by omega
  obtain ⟨a, ha⟩ : ∃ a, V % 52 = a := ⟨_, rfl⟩
  have a1 : 0 ≤ a ∧ a < 52 := by omega
  rw [ha, hb]
  obtain ⟨a11, a12⟩ := a1
  obtain ⟨b11, b12⟩ := b1
  have hE : qpE (a - 26) b = 0 := if_pos ⟨b11, by omega, by omega, by omega⟩
  have i0 : IntKind.i64.wrap (a - 26) = a - 26 := IntWalk.i64_in _ (by omega)
  have HE := Lib.hid hE
  have HA := Lib.hid (And.intro ha hb)
  clear ha hb hE
  have H := Lib.hid (h.alloc (.cells #[.int .u8 what, .int .i64 V, .int .i64 N] 43))
  have KC : ∀ w', Hp W w' L ((w.heap.size, .cells #[.int .u8 what, .int .i64 V, .int .i64 N] 43 (0, 0)) :: F) → w'.cell? ⟨w.heap.size, 0, none⟩ = some (.int .u8 what) ∧ w'.cell? ⟨w.heap.size, 1, none⟩ = some (.int .i64 V) ∧ w'.cell? ⟨w.heap.size, 2, none⟩ = some (.int .i64 N) := fun w' h => cells_el (h.blk (.head _))
  clear h
  go_enter Try.func15, Try.ntmps15
  go_wp2_with (fail)
  go_region_held3 (fun w' => w'.cell? ⟨w.heap.size, 0, none⟩ = some (.int .u8 what) ∧ w'.cell? ⟨w.heap.size, 1, none⟩ = some (.int .i64 V) ∧ w'.cell? ⟨w.heap.size, 2, none⟩ = some (.int .i64 N)) (first | exact cells_el (Hp.blk (by assumption) (.tail _ (.head _))) | exact cells_el (Hp.blk (by assumption) (.head _)) | go_keep) (first | (go_at_call 10; (with_reducible refine (rest_as HA.out.1 (by decide) (by decide) v1 v2 _).mono ?_); rintro e w1 ⟨rfl, rfl⟩) | (go_at_call 10; (with_reducible refine (rest_as HA.out.2 (by decide) (by decide) n1 n2 _).mono ?_); rintro e w1 ⟨rfl, rfl⟩) | (go_at_call 32; (with_reducible refine (qp_to H.out.drew HE.out).mono ?_); rintro e w2 ⟨y, rfl, h2⟩))
  all_goals
    go_wp2_with (fail)
    exact bodyPost_ret (results_tmp2 rfl _ _ _) rfl ⟨y, rfl, h2.drop⟩
theorem bput_any (h : Hp W w L F) (what V N : Int) (w0 : 0 ≤ what) (w1 : what ≤ 255) (v1 : -9223372036854775808 ≤ V) (v2 : V < 9223372036854775808) (n1 : -9223372036854775808 ≤ N) (n2 : N < 9223372036854775808) :
    Calls Try.prog 15 #[.agg #[.int .u8 what, .int .i64 V, .int .i64 N]] w fun e w' => ∃ y, e = .returned (.tuple #[y, .int .i64 0]) ∧ Hp W w' (aBn y (putB what V N) :: L) F := by
  unfold putB
  split
  · exact put0 h what V N (by assumption) w0 w1 v1 v2 n1 n2
  split
  · exact put1 h what V N (by assumption) w0 w1 v1 v2 n1 n2
  split
  · exact put2 h what V N (by assumption) w0 w1 v1 v2 n1 n2
  split
  · exact put3 h what V N (by assumption) w0 w1 v1 v2 n1 n2
  split
  · exact put4 h what V N (by assumption) w0 w1 v1 v2 n1 n2
  · exact put5 h what V N (by omega) w0 w1 v1 v2 n1 n2
end

end Go.Proofs.Ytnefiaghojojgaa
