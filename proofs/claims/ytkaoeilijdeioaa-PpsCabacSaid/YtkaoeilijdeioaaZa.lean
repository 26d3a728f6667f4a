/- The law's own functions: mod, Plain, awake; contracts at known values. -/
import Derived.Test.YtkaoeilijdeioaaYs
import Derived.Test.YtkaoeilijdeioaaYb
import Derived.Test.YtkaoeilijdeioaaYc
import Derived.Test.YtkaoeilijdeioaaYd
import Derived.Test.YtkaoeilijdeioaaYf
import Derived.Test.YtkaoeilijdeioaaQuiet
import Derived.Deep.QuietTactic
import Derived.BigQuiet
import Derived.KernelRfl
namespace Go.Proofs.Ytkaoeilijdeioaa
open Go.RowKit
set_option linter.unusedVariables false
set_option maxRecDepth 100000
set_option linter.unusedSimpArgs false

theorem wmod_any (x n : Int) (hn : 1 ≤ n) (hn2 : n ≤ 1048576) (hx1 : -9223372036854775808 ≤ x) (hx2 : x < 9223372036854775808) (w : World) :
    Calls Try.prog 59 #[.int .i64 x, .int .i64 n] w fun e w' => e = .returned (.int .i64 (x % n)) ∧ w = w' := by
  have h1 : x.tmod n < n := Int.tmod_lt_of_pos x (by omega)
  have h2 : -n < x.tmod n := Int.lt_tmod_of_pos x (by omega)
  have e : (x.tmod n + n) % n = x % n := by
    rw [Int.add_emod_right]
    rw [Int.tmod_def]
    exact Int.sub_mul_emod_self_left x n _
  have e2 : (x.tmod n + n).tmod n = x % n := by rw [Int.tmod_eq_emod_of_nonneg (by omega), e]
  have hw : IntKind.i64.wrap (x.tmod n + n) = x.tmod n + n := by rw [IntKind.wrap_i64]; omega
  have hn0 : ¬ n = 0 := by omega
  clear e
  go_enter Try.func59, Try.ntmps59
  go_wp2_with (fail)
  exact bodyPost_ret (results_tmp rfl _ _ _) rfl ⟨rfl, rfl⟩
theorem wmod_as {x n : Int} (hn : 1 ≤ n ∧ n ≤ 1048576) (hx : -9223372036854775808 ≤ x ∧ x < 9223372036854775808) {y : Int} (hy : x % n = y) (w : World) :
    Calls Try.prog 59 #[.int .i64 x, .int .i64 n] w fun e w' => e = .returned (.int .i64 y) ∧ w = w' := by
  subst hy
  exact wmod_any x n hn.1 hn.2 hx.1 hx.2 w
theorem results_cellW {fn : Func} {t : Tmp} {T : TypeId} (h : fn.results = #[.cell t T]) {tmps : Array Value} {P : Program} {w : World} {a : Addr} {x : Value} (ha : tmps.getD t undef = .pointer (some a)) (hx : (loadVar T a).run P w = .ok x w) :
    (results fn tmps).run P w = .ok x w := by
  have ha' : tmps[t]?.getD undef = .pointer (some a) := by simpa using ha
  simp [results, h, ha', asAddr, hx]
@[reducible] def plW : PpsD := ⟨0, 0, false, 1, 1, 0, 0, 0, false, false⟩
theorem plain_w {W w : World} {L : List AObj} {F : List (Nat × Obj)} (h : Hp W w L F) : Calls Try.prog 16 #[] w fun e w' => e = .returned (pv plW) ∧ Hp W w' L F := by
  have hfin : ∀ v, v = w.alloc (pOb plW) → (loadVar 23 ⟨w.heap.size, 0, none⟩).run Try.prog v = .ok (pv plW) v ∧ Hp W v L F := by
    rintro v rfl
    exact ⟨pOb_load ((h.alloc _).blk (List.mem_cons_self ..)), (h.alloc _).drop⟩
  have HF := Lib.hid hfin
  clear h hfin
  go_enter Try.func16, Try.ntmps16
  go_wp2_with (fail)
  obtain ⟨q1, q2⟩ := HF.out _ rfl
  exact bodyPost_ret (results_cellW rfl rfl q1) rfl ⟨rfl, q2⟩

section
variable {W w : World} {L : List AObj} {F : List (Nat × Obj)}
theorem penc_as (h : Hp W w L F) (x : PpsD) {S : ByteArray} {er : Int} (hx : pPay x = S ∧ pErr x = er) :
    Calls Try.prog 9 #[pv x] w fun e w' => e = .returned (.tuple #[.string S, .int .i64 er]) ∧ Hp W w' L F := by
  obtain ⟨rfl, rfl⟩ := hx
  exact penc_any h x
theorem rpenc_as (h : Hp W w L F) (x : PpsD) {S : ByteArray} {er : Int} (hx : pPay x = S ∧ pErr x = er) :
    Calls Try.prog 10 #[pv x] w fun e w' => e = .returned (.tuple #[.string S, .int .i64 er]) ∧ Hp W w' L F := by
  obtain ⟨rfl, rfl⟩ := hx
  exact rpenc_any h x
theorem pdec_as (h : Hp W w L F) (s : ByteArray) (hs : s.size ≤ 2 ^ 48) {x : PpsD} {er : Int} (hx : pDec s = (x, er)) :
    Calls Try.prog 14 #[.string s] w fun e w' => e = .returned (.tuple #[pv x, .int .i64 er]) ∧ Hp W w' L F := by
  have := pDec_dec s
  rw [hx] at this
  exact pdec_any h s hs this
theorem rpdec_as (h : Hp W w L F) (s : ByteArray) (hs : s.size ≤ 2 ^ 48) {x : PpsD} {er : Int} (hx : pDec s = (x, er)) :
    Calls Try.prog 15 #[.string s] w fun e w' => e = .returned (.tuple #[pv x, .int .i64 er]) ∧ Hp W w' L F := by
  have := pDec_dec s
  rw [hx] at this
  exact rpdec_any h s hs this
theorem pcheck_as (h : Hp W w L F) (x : PpsD) {er : Int} (hx : pErr x = er) :
    Calls Try.prog 11 #[pv x] w fun e w' => e = .returned (.int .i64 er) ∧ Hp W w' L F := by
  subst hx
  exact (pcheck_any x w).mono fun _ _ ⟨he, hb⟩ => ⟨he, h.same hb⟩
theorem rpcheck_as (h : Hp W w L F) (x : PpsD) {er : Int} (hx : pErr x = er) :
    Calls Try.prog 12 #[pv x] w fun e w' => e = .returned (.int .i64 er) ∧ Hp W w' L F := by
  subst hx
  exact (rpcheck_any x w).mono fun _ _ ⟨he, hb⟩ => ⟨he, h.same hb⟩
end
theorem kn7_enc : pPay plW = ⟨#[206, 56, 128]⟩ ∧ pErr plW = 0 := by decide +kernel
theorem kn7_enc2 : pPay ⟨0, 0, true, 1, 1, 0, 0, 0, false, false⟩ = ⟨#[238, 56, 128]⟩ ∧ pErr ⟨0, 0, true, 1, 1, 0, 0, 0, false, false⟩ = 0 := by decide +kernel
theorem kn7_dec0 : pDec ⟨#[206, 56, 128]⟩ = (plW, 0) := by decide +kernel
theorem kn7_dec1 : pDec ⟨#[206, 56]⟩ = (p00, 5) := by decide +kernel
theorem kn7_dec2 : pDec ⟨#[206, 56, 128, 0]⟩ = (p00, 4) := by decide +kernel
theorem kn7_dec3 : pDec ⟨#[222, 56, 128]⟩ = (p00, 9) := by decide +kernel
theorem kn7_chk : pErr ⟨0, 0, false, 0, 1, 0, 0, 0, false, false⟩ = 3 ∧ pErr ⟨0, 0, false, 1, 1, 26, 0, 0, false, false⟩ = 3 ∧ pErr ⟨0, 0, false, 1, 1, 0, 0, -13, false, false⟩ = 3 ∧ pErr p00 = 3 := by decide +kernel
end Go.Proofs.Ytkaoeilijdeioaa
