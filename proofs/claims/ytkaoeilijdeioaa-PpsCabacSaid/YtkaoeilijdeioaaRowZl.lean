/- The statement PpsCabacSaid: for every input the Go function PpsCabac returns true, and each argument reads afterwards as before. No condition. -/
import Derived.Test.YtkaoeilijdeioaaRows
import Derived.Test.YtkaoeilijdeioaaZl
import Derived.ProofKit
import Derived.OpenShut
import Derived.ShutString
import Derived.Carry
import Derived.Test.YtkaoeilijdeioaaFl
namespace Go.Proofs.Ytkaoeilijdeioaa.ppsCabac
open Go.ChangeShapes Go.WideShapes Go.ChangeAt Go.RowKit
open Go.ChangeMaps (open_string shut_string)
set_option linter.unusedVariables false

theorem own : ownKnob Try.prog.godebug = none := by kernel_rfl
theorem laidOut : laidOutB Try.prog = true := by kernel_rfl

theorem okWide_arr {P : Program} {w : World} {r : Reach} {b : Nat} {t : TypeId} {x y} {v : Value} (ht : P.underlying t = some (.array x y)) (h : Value.okWide P w r b t v) : ∃ cs, v = .agg cs := by
  unfold Value.okWide at h
  rw [ht] at h
  obtain ⟨cs, rfl, _⟩ := h
  exact ⟨cs, rfl⟩

set_option maxRecDepth 100000 in
theorem lifted (os : Os) (started : os.Started) (H : Type) (enc : TypeId × Value → H) :
    ReturnsInHanded {} Try.checked os 8 .any (Rows.ppsCabacSpec.pre6 enc Try.prog Try.f8 Rows.ppsCabacRow.domain false) (Rows.ppsCabacSpec.post enc Try.prog Try.f8 false true false false) := by
  refine returnsInHanded_of_change (C := Try.checked) own started (by kernel_rfl) Try.func8
    (ChangeSpec.witness6 (enc := enc) (C := Try.checked) false ⟨#[], #[.agg #[.int .i64 0, .int .i64 0, .int .i64 0, .int .i64 0, .int .i64 0, .int .i64 0, .int .i64 0, .int .i64 0]], []⟩ 8 (by kernel_rfl) (by kernel_rfl) (by kernel_rfl) (by kernel_rfl)) ?_
  intro W base args ds gs before hval0 hW hcnd _
  have hval : ∀ (j : Nat) t v, Try.f8.params[j]? = some t → args[j]? = some v → Value.okWide Try.prog W .any base t v := hval0
  have hW' := hW
  obtain ⟨p, q, hA0, hV, rfl, hfz, hnd⟩ := hW
  have hA : DataW.TrodAll enc Try.prog W 0 (fun _ => true) true Try.f8.params.toList args.toList ds p := hA0
  rw [Try.params8] at hA hval
  obtain ⟨v0, vs0, d0, ds0, p0, q0, hargs, rfl, rfl, h0, r0⟩ := trodAll_cons hA
  obtain ⟨rfl, rfl, rfl⟩ := trodAll_nil r0
  obtain rfl : args = #[v0] := by cases args; simp_all
  obtain ⟨rfl, rfl⟩ := trodVars_none hV
  simp only [List.append_nil] at hW'
  have hlt : ∀ x ∈ p0, x.block < W.heap.size := fun x hx => by have := hW'.lt x (by simpa using hx); simpa using this
  have k0 : ∀ (W' : World), Below W.heap.size W W' → DataW.Trod enc Try.prog W' 0 (fun b => decide (b < W.heap.size)) true 38 v0 d0 p0 :=
    fun W' hn => Below.trod laidOut (by kernel_rfl) (of_decide_eq_true (by kernel_rfl)) h0 hn (fun x hx => hlt x (by simp [hx]))
  obtain ⟨cs0, rfl⟩ := okWide_arr Try.underlying38 (hval 0 38 v0 rfl rfl)
  have hx0 := open_flat_arr (m := 6) (t := 38) (ks := [.int .i64, .int .i64, .int .i64, .int .i64, .int .i64, .int .i64, .int .i64, .int .i64]) (by kernel_rfl) h0
  obtain ⟨z0_0, w0_0, z0_1, w0_1, z0_2, w0_2, z0_3, w0_3, z0_4, w0_4, z0_5, w0_5, z0_6, w0_6, z0_7, w0_7, hy0⟩ := hx0
  simp only [Value.agg.injEq] at hy0; subst hy0
  have b0 := bounds_i64 w0_0; have b1 := bounds_i64 w0_1; have b2 := bounds_i64 w0_2; have b3 := bounds_i64 w0_3; have b4 := bounds_i64 w0_4; have b5 := bounds_i64 w0_5; have b6 := bounds_i64 w0_6
  refine (pcabac_walk z0_0 z0_1 z0_2 z0_3 z0_4 z0_5 z0_6 z0_7 ⟨b0.1, by omega⟩ ⟨b1.1, by omega⟩ ⟨b2.1, by omega⟩ ⟨b3.1, by omega⟩ ⟨b4.1, by omega⟩ ⟨b5.1, by omega⟩ ⟨b6.1, by omega⟩ W).mono fun e W' ⟨he, hb⟩ => ?_
  subst he
  exact ⟨_, rfl, _, _, _, [], p0 ++ [], [], hW', trodAll_cons_mk (shut_bool Try.underlying4 _) trodAll_mk0, (trodAll_cons_mk (k0 W' hb) trodAll_mk0), rfl, hb.frame _, fun h => by cases h⟩

theorem over : Rows.ppsCabacRow.holds Try.pinned (OpenSpec.ofChange Rows.ppsCabacSpec) :=
  OpenClaim.holds_of_wide 8 Try.f8 rfl rfl rfl rfl rfl rfl rfl ⟨rfl, rfl, rfl, rfl, rfl⟩ rfl rfl rfl rfl rfl (by kernel_rfl) Try.func8 (by kernel_rfl)
    (of_decide_eq_true (by kernel_rfl)) (by unfold Func.isWrapper; first | (rw [if_pos (by decide +kernel)]; kernel_rfl) | (rw [if_neg (by decide +kernel)]; exact ⟨rfl, rfl⟩))
    (fun os started H enc _ => lifted os started H enc)

theorem proved : Rows.PpsCabacSaid := over
#print axioms proved
end Go.Proofs.Ytkaoeilijdeioaa.ppsCabac
