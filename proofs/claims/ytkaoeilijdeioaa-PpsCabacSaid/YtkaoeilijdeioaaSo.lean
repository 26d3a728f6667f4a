/- Parameter sets as values; a store of them (two maps) as an object. -/
import Derived.Test.YtkaoeilijdeioaaMp
namespace Go.Proofs.Ytkaoeilijdeioaa
open Go.RowKit
set_option linter.unusedVariables false
set_option maxRecDepth 100000
set_option linter.unusedSimpArgs false

structure SpsD where
  (pr fl le id fb pb refs w h : Int)
  deriving DecidableEq
structure PpsD where
  (id sps : Int) (cab : Bool) (refs refs1 qp qs ch : Int) (deb intra : Bool)
  deriving DecidableEq
@[reducible] def sv (x : SpsD) : Value := .agg #[.int .u8 x.pr, .int .u8 x.fl, .int .u8 x.le, .int .i64 x.id, .int .i64 x.fb, .int .i64 x.pb, .int .i64 x.refs, .int .i64 x.w, .int .i64 x.h]
@[reducible] def pv (x : PpsD) : Value := .agg #[.int .i64 x.id, .int .i64 x.sps, .bool x.cab, .int .i64 x.refs, .int .i64 x.refs1, .int .i64 x.qp, .int .i64 x.qs, .int .i64 x.ch, .bool x.deb, .bool x.intra]
@[reducible] def s00 : SpsD := ⟨0, 0, 0, 0, 0, 0, 0, 0, 0⟩
@[reducible] def p00 : PpsD := ⟨0, 0, false, 0, 0, 0, 0, 0, false, false⟩

theorem part_plain {T : TypeId} {w : World} (ha : (isAgg T).run Try.prog w = .ok false w) {cs : Array Value} {i : Nat} {v : Value} (hv : cs[i]? = some v) : (part T cs i).run Try.prog w = .ok v w := by
  simp [part, ha, hv]
theorem sps_iff (x y : SpsD) : x = y ↔ x.pr = y.pr ∧ x.fl = y.fl ∧ x.le = y.le ∧ x.id = y.id ∧ x.fb = y.fb ∧ x.pb = y.pb ∧ x.refs = y.refs ∧ x.w = y.w ∧ x.h = y.h := by
  cases x; cases y; simp
theorem pps_iff (x y : PpsD) : x = y ↔ x.id = y.id ∧ x.sps = y.sps ∧ x.cab = y.cab ∧ x.refs = y.refs ∧ x.refs1 = y.refs1 ∧ x.qp = y.qp ∧ x.qs = y.qs ∧ x.ch = y.ch ∧ x.deb = y.deb ∧ x.intra = y.intra := by
  cases x; cases y; simp
set_option maxHeartbeats 1000000 in
theorem pps_eq (x y : PpsD) (w : World) : (Op.equalIn 10000 23 (pv x) (pv y)).run Try.prog w = .ok (decide (x = y)) w := by
  rw [show (10000 : Nat) = 9999 + 1 from rfl]
  unfold Op.equalIn
  simp only [Sem.run_bind, run_underlying Try.underlying23, Result.andThen_ok]
  have ai : ∀ w, (isAgg 3).run Try.prog w = .ok false w := fun w => by simp [isAgg, run_underlying Try.underlying3]
  have au : ∀ w, (isAgg 5).run Try.prog w = .ok false w := fun w => by simp [isAgg, run_underlying Try.underlying5]
  have ab : ∀ w, (isAgg 4).run Try.prog w = .ok false w := fun w => by simp [isAgg, run_underlying Try.underlying4]
  have ei : ∀ (a b : Int) w, (Op.equalIn 9999 3 (.int .i64 a) (.int .i64 b)).run Try.prog w = .ok (a == b) w := fun a b w => run_equalIn_int w 9998 3 .i64 .i64 a b Try.underlying3
  have eu : ∀ (a b : Int) w, (Op.equalIn 9999 5 (.int .u8 a) (.int .u8 b)).run Try.prog w = .ok (a == b) w := fun a b w => run_equalIn_int w 9998 5 .u8 .u8 a b Try.underlying5
  have eb : ∀ (a b : Bool) w, (Op.equalIn 9999 4 (.bool a) (.bool b)).run Try.prog w = .ok (a == b) w := fun a b w => run_equalIn_bool w 9998 4 a b Try.underlying4
  have e : decide (x = y) = ((x.id == y.id) && (x.sps == y.sps) && (x.cab == y.cab) && (x.refs == y.refs) && (x.refs1 == y.refs1) && (x.qp == y.qp) && (x.qs == y.qs) && (x.ch == y.ch) && (x.deb == y.deb) && (x.intra == y.intra)) := by rw [Bool.eq_iff_iff, decide_eq_true_iff, pps_iff]; simp only [Bool.and_eq_true, beq_iff_eq, and_assoc]
  rw [e]
  clear e
  simp
  rw [part_plain (ai _) (v := .int .i64 x.id) rfl, Result.andThen_ok, part_plain (ai _) (v := .int .i64 y.id) rfl, Result.andThen_ok, ei, Result.andThen_ok]
  cases (x.id == y.id)
  · simp
  simp only [Bool.true_and, if_false, Bool.true_eq_false, reduceCtorEq]
  rw [part_plain (ai _) (v := .int .i64 x.sps) rfl, Result.andThen_ok, part_plain (ai _) (v := .int .i64 y.sps) rfl, Result.andThen_ok, ei, Result.andThen_ok]
  cases (x.sps == y.sps)
  · simp
  simp only [Bool.true_and, if_false, Bool.true_eq_false, reduceCtorEq]
  rw [part_plain (ab _) (v := .bool x.cab) rfl, Result.andThen_ok, part_plain (ab _) (v := .bool y.cab) rfl, Result.andThen_ok, eb, Result.andThen_ok]
  cases (x.cab == y.cab)
  · simp
  simp only [Bool.true_and, if_false, Bool.true_eq_false, reduceCtorEq]
  rw [part_plain (ai _) (v := .int .i64 x.refs) rfl, Result.andThen_ok, part_plain (ai _) (v := .int .i64 y.refs) rfl, Result.andThen_ok, ei, Result.andThen_ok]
  cases (x.refs == y.refs)
  · simp
  simp only [Bool.true_and, if_false, Bool.true_eq_false, reduceCtorEq]
  rw [part_plain (ai _) (v := .int .i64 x.refs1) rfl, Result.andThen_ok, part_plain (ai _) (v := .int .i64 y.refs1) rfl, Result.andThen_ok, ei, Result.andThen_ok]
  cases (x.refs1 == y.refs1)
  · simp
  simp only [Bool.true_and, if_false, Bool.true_eq_false, reduceCtorEq]
  rw [part_plain (ai _) (v := .int .i64 x.qp) rfl, Result.andThen_ok, part_plain (ai _) (v := .int .i64 y.qp) rfl, Result.andThen_ok, ei, Result.andThen_ok]
  cases (x.qp == y.qp)
  · simp
  simp only [Bool.true_and, if_false, Bool.true_eq_false, reduceCtorEq]
  rw [part_plain (ai _) (v := .int .i64 x.qs) rfl, Result.andThen_ok, part_plain (ai _) (v := .int .i64 y.qs) rfl, Result.andThen_ok, ei, Result.andThen_ok]
  cases (x.qs == y.qs)
  · simp
  simp only [Bool.true_and, if_false, Bool.true_eq_false, reduceCtorEq]
  rw [part_plain (ai _) (v := .int .i64 x.ch) rfl, Result.andThen_ok, part_plain (ai _) (v := .int .i64 y.ch) rfl, Result.andThen_ok, ei, Result.andThen_ok]
  cases (x.ch == y.ch)
  · simp
  simp only [Bool.true_and, if_false, Bool.true_eq_false, reduceCtorEq]
  rw [part_plain (ab _) (v := .bool x.deb) rfl, Result.andThen_ok, part_plain (ab _) (v := .bool y.deb) rfl, Result.andThen_ok, eb, Result.andThen_ok]
  cases (x.deb == y.deb)
  · simp
  simp only [Bool.true_and, if_false, Bool.true_eq_false, reduceCtorEq]
  rw [part_plain (ab _) (v := .bool x.intra) rfl, Result.andThen_ok, part_plain (ab _) (v := .bool y.intra) rfl, Result.andThen_ok, eb, Result.andThen_ok]
  cases (x.intra == y.intra)
  · simp
  · simp

end Go.Proofs.Ytkaoeilijdeioaa
