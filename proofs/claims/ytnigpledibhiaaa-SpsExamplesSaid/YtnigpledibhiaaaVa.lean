/- The law's own functions: mod, Plain, awake; contracts at known values. -/
import Derived.Test.YtnigpledibhiaaaUs
import Derived.Test.YtnigpledibhiaaaPb
import Derived.Test.YtnigpledibhiaaaPc
import Derived.Test.YtnigpledibhiaaaPd
import Derived.Test.YtnigpledibhiaaaPf
import Derived.Test.YtnigpledibhiaaaQuiet
import Derived.Deep.QuietTactic
import Derived.BigQuiet
import Derived.KernelRfl
namespace Go.Proofs.Ytnigpledibhiaaa
open Go.RowKit
set_option linter.unusedVariables false
set_option maxRecDepth 100000
set_option linter.unusedSimpArgs false

theorem vmod_any (x n : Int) (hn : 1 ≤ n) (hn2 : n ≤ 1048576) (hx1 : -9223372036854775808 ≤ x) (hx2 : x < 9223372036854775808) (w : World) :
    Calls Try.prog 18 #[.int .i64 x, .int .i64 n] w fun e w' => e = .returned (.int .i64 (x % n)) ∧ w = w' := by
  have h1 : x.tmod n < n := Int.tmod_lt_of_pos x (by omega)
  have h2 : -n < x.tmod n := Int.lt_tmod_of_pos x (by omega)
  have e : (x.tmod n + n) % n = x % n := by
    rw [Int.add_emod_right]
    rw [Int.tmod_def]
    exact Int.sub_mul_emod_self_left x n _
  have e2 : (x.tmod n + n).tmod n = x % n := by rw [Int.tmod_eq_emod_of_nonneg (by omega), e]
  have hw : IntKind.i64.wrap (x.tmod n + n) = x.tmod n + n := by rw [IntKind.wrap_i64]; omega
  have hn0 : ¬ n = 0 := by omega
  clear e
  go_enter Try.func18, Try.ntmps18
  go_wp2_with (fail)
  exact bodyPost_ret (results_tmp rfl _ _ _) rfl ⟨rfl, rfl⟩
theorem vmod_as {x n : Int} (hn : 1 ≤ n ∧ n ≤ 1048576) (hx : -9223372036854775808 ≤ x ∧ x < 9223372036854775808) {y : Int} (hy : x % n = y) (w : World) :
    Calls Try.prog 18 #[.int .i64 x, .int .i64 n] w fun e w' => e = .returned (.int .i64 y) ∧ w = w' := by
  subst hy
  exact vmod_any x n hn.1 hn.2 hx.1 hx.2 w
theorem results_cellV {fn : Func} {t : Tmp} {T : TypeId} (h : fn.results = #[.cell t T]) {tmps : Array Value} {P : Program} {w : World} {a : Addr} {x : Value} (ha : tmps.getD t undef = .pointer (some a)) (hx : (loadVar T a).run P w = .ok x w) :
    (results fn tmps).run P w = .ok x w := by
  have ha' : tmps[t]?.getD undef = .pointer (some a) := by simpa using ha
  simp [results, h, ha', asAddr, hx]
@[reducible] def plV : SpsD := ⟨77, 0, 10, 0, 4, 4, 1, 1, 1⟩
theorem plain_v {W w : World} {L : List AObj} {F : List (Nat × Obj)} (h : Hp W w L F) : Calls Try.prog 16 #[] w fun e w' => e = .returned (sv plV) ∧ Hp W w' L F := by
  have hfin : ∀ v, v = w.alloc (sOb plV) → (loadVar 23 ⟨w.heap.size, 0, none⟩).run Try.prog v = .ok (sv plV) v ∧ Hp W v L F := by
    rintro v rfl
    exact ⟨sOb_load ((h.alloc _).blk (List.mem_cons_self ..)), (h.alloc _).drop⟩
  have HF := Lib.hid hfin
  clear h hfin
  go_enter Try.func16, Try.ntmps16
  go_wp2_with (fail)
  obtain ⟨q1, q2⟩ := HF.out _ rfl
  exact bodyPost_ret (results_cellV rfl rfl q1) rfl ⟨rfl, q2⟩

section
variable {W w : World} {L : List AObj} {F : List (Nat × Obj)}
theorem senc_as (h : Hp W w L F) (x : SpsD) (hu : okU x) {S : ByteArray} {er : Int} (hx : sPay x = S ∧ sErr x = er) :
    Calls Try.prog 9 #[sv x] w fun e w' => e = .returned (.tuple #[.string S, .int .i64 er]) ∧ Hp W w' L F := by
  obtain ⟨rfl, rfl⟩ := hx
  exact senc_any h x hu
theorem rsenc_as (h : Hp W w L F) (x : SpsD) (hu : okU x) {S : ByteArray} {er : Int} (hx : sPay x = S ∧ sErr x = er) :
    Calls Try.prog 10 #[sv x] w fun e w' => e = .returned (.tuple #[.string S, .int .i64 er]) ∧ Hp W w' L F := by
  obtain ⟨rfl, rfl⟩ := hx
  exact rsenc_any h x hu
theorem sdec_as (h : Hp W w L F) (s : ByteArray) (hs : s.size ≤ 2 ^ 48) {x : SpsD} {er : Int} (hx : sDec s = (x, er)) :
    Calls Try.prog 14 #[.string s] w fun e w' => e = .returned (.tuple #[sv x, .int .i64 er]) ∧ Hp W w' L F := by
  have := sDec_dec s
  rw [hx] at this
  exact sdec_any h s hs this
theorem rsdec_as (h : Hp W w L F) (s : ByteArray) (hs : s.size ≤ 2 ^ 48) {x : SpsD} {er : Int} (hx : sDec s = (x, er)) :
    Calls Try.prog 15 #[.string s] w fun e w' => e = .returned (.tuple #[sv x, .int .i64 er]) ∧ Hp W w' L F := by
  have := sDec_dec s
  rw [hx] at this
  exact rsdec_any h s hs this
theorem scheck_as (h : Hp W w L F) (x : SpsD) {er : Int} (hx : sErr x = er) :
    Calls Try.prog 11 #[sv x] w fun e w' => e = .returned (.int .i64 er) ∧ Hp W w' L F := by
  subst hx
  exact (scheck_any x w).mono fun _ _ ⟨he, hb⟩ => ⟨he, h.same hb⟩
theorem rscheck_as (h : Hp W w L F) (x : SpsD) {er : Int} (hx : sErr x = er) :
    Calls Try.prog 12 #[sv x] w fun e w' => e = .returned (.int .i64 er) ∧ Hp W w' L F := by
  subst hx
  exact (rscheck_any x w).mono fun _ _ ⟨he, hb⟩ => ⟨he, h.same hb⟩
end
theorem okU_V : okU plV := by unfold okU; decide
theorem kn_enc : sPay plV = ⟨#[77, 0, 10, 244, 242]⟩ ∧ sErr plV = 0 := by decide +kernel
theorem kn_dec0 : sDec ⟨#[77, 0, 10, 244, 242]⟩ = (plV, 0) := by decide +kernel
theorem kn_dec1 : sDec ⟨#[77, 0, 10, 244]⟩ = (s00, 5) := by decide +kernel
theorem kn_dec2 : sDec ⟨#[77, 0, 10, 244, 242, 0]⟩ = (s00, 4) := by decide +kernel
theorem kn_dec3 : sDec ⟨#[77, 0, 10, 244, 250]⟩ = (s00, 9) := by decide +kernel
theorem kn_chk : sErr ⟨77, 0, 10, 32, 4, 4, 1, 1, 1⟩ = 3 ∧ sErr ⟨77, 0, 10, 0, 3, 4, 1, 1, 1⟩ = 3 ∧ sErr ⟨77, 0, 10, 0, 4, 4, 1, 128, 64⟩ = 3 ∧ sErr s00 = 3 := by decide +kernel
end Go.Proofs.Ytnigpledibhiaaa
