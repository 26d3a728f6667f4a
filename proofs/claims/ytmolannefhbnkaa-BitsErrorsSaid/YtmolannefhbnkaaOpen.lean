/- The law's calls, a slice of structs that came in, opened to its cells. -/
import Derived.Test.YtmolannefhbnkaaCall
import Derived.Deep.Slices
import Derived.Deep.Fields
import Derived.ChangeSame
import Derived.ProofKit
import Derived.OpenShut
namespace Go.Proofs.Ytmolannefhbnkaa
open Go.RowKit Go.ChangeShapes Go.WideShapes Go.Deep
set_option linter.unusedVariables false
set_option linter.unusedSimpArgs false

theorem cells_call : Try.prog.cellsOf 32 = 3 := by kernel_rfl

theorem addr_add_off (B o j : Nat) : (⟨B, o, none⟩ : Addr).add j = ⟨B, o + j, none⟩ := by unfold Addr.add; split <;> simp_all

theorem cells_f0 : Try.prog.cellsOf 5 = 1 := by kernel_rfl
theorem cells_f1 : Try.prog.cellsOf 3 = 1 := by kernel_rfl
theorem cells_f2 : Try.prog.cellsOf 30 = 1 := by kernel_rfl

/-- Element i's cell of field j, an integer of kind k. -/
theorem field_int {H : Type} {enc : TypeId × Value → H} {W : World} {n : Nat} {T : TypeId} {k : IntKind} (hT : Try.prog.underlying T = some (.int k)) {v : Value} {y : DataW H × List MemPlace}
    (h : DataW.trod enc Try.prog W 0 (fun _ => true) true n T [v] = some y) : ∃ z, v = .int k z ∧ (Lit.int k z).wf = true := by
  obtain ⟨a, e, _, wa⟩ := DataW.trod_int hT h
  simp at e
  exact ⟨a, e, wa⟩

theorem open_calls {H : Type} {enc : TypeId × Value → H} {W : World} {sp : Option Addr} {n cap : Nat} {d : DataW H} {p : List MemPlace}
    (h : DataW.Trod enc Try.prog W 0 (fun _ => true) true 22 (.slice sp n cap) d p) (hlt : ∀ x ∈ p, x.block < W.heap.size) :
    ∃ b o wh nn vv, CallsIn W sp n b o wh nn vv ∧ n ≤ maxLen := by
  obtain ⟨fuel, hf⟩ := h
  rcases open_slice Try.underlying22 hf with ⟨hcs, hx⟩ | ⟨a, len, cap', m, N, D, Pl, hcs, hb, hl, hm, hmm, hx, hi⟩
  · simp only [Value.cells] at hcs
    have : n = 0 := by simp at hcs; exact hcs.2.1
    subst this
    exact ⟨0, 0, fun _ => 0, fun _ => 0, fun _ => 0, ⟨fun h => by omega, fun i h => by omega, fun i h => by omega, fun i h => by omega, fun i h => by omega, fun i h => by omega, fun i h => by omega⟩, Nat.zero_le _⟩
  · simp only [Value.cells] at hcs
    have hcs' := hcs
    simp at hcs'
    obtain ⟨rfl, rfl, rfl⟩ := hcs'
    have hnm : n ≤ m := by simp at hmm; omega
    -- each element, field by field
    have hel : ∀ i, i < n → ∃ z0 z1 z2 : Int, W.cell? (a.add (i * 3)) = some (.int .u8 z0) ∧ W.cell? (a.add (i * 3 + 1)) = some (.int .i64 z1) ∧ W.cell? (a.add (i * 3 + 2)) = some (.int .u64 z2) ∧
        (Lit.int .u8 z0).wf = true ∧ (Lit.int .i64 z1).wf = true ∧ (Lit.int .u64 z2).wf = true := by
      intro i hin
      obtain ⟨cs, hc, ht⟩ := hi i (by omega)
      rw [cells_call] at hc
      obtain ⟨ys, n', hn', hy, hlen, hyl, hfl⟩ := DataW.trod_struct Try.underlying32 ht
      obtain ⟨_, hcl, hat⟩ := World.cells?_some hc
      match cs, hcl with
      | [x0, x1, x2], _ =>
        have hy3 : ys.length = 3 := by simpa using hyl
        have g0 : DataW.trod enc Try.prog W 0 (fun _ => true) true n' 5 [x0] = ys[0]? := by have := hfl 0 _ rfl; simpa [cells_f0] using this
        have g1 : DataW.trod enc Try.prog W 0 (fun _ => true) true n' 3 [x1] = ys[1]? := by have := hfl 1 _ rfl; simpa [cells_f1] using this
        have g2 : DataW.trod enc Try.prog W 0 (fun _ => true) true n' 30 [x2] = ys[2]? := by have := hfl 2 _ rfl; simpa [cells_f2] using this
        rw [List.getElem?_eq_getElem (by omega)] at g0 g1 g2
        obtain ⟨z0, rfl, w0⟩ := field_int Try.underlying5 g0
        obtain ⟨z1, rfl, w1⟩ := field_int Try.underlying3 g1
        obtain ⟨z2, rfl, w2⟩ := field_int Try.underlying30 g2
        have e0 := hat 0 (by omega)
        have e1 := hat 1 (by omega)
        have e2 := hat 2 (by omega)
        rw [Go.Deep.add_add] at e0 e1 e2
        exact ⟨z0, z1, z2, e0, e1, e2, w0, w1, w2⟩
    by_cases h0 : n = 0
    · subst h0
      exact ⟨0, 0, fun _ => 0, fun _ => 0, fun _ => 0, ⟨fun h => by omega, fun i h => by omega, fun i h => by omega, fun i h => by omega, fun i h => by omega, fun i h => by omega, fun i h => by omega⟩, by omega⟩
    · obtain ⟨z0, z1, z2, e0, _⟩ := hel 0 (by omega)
      rw [Nat.zero_mul] at e0
      have ha : a.add 0 = a := rfl
      rw [ha] at e0
      obtain ⟨bb, oo, ss⟩ := a
      have hs : ss = none := by
        cases ss with
        | none => rfl
        | some q => simp [World.cell?] at e0; split at e0 <;> simp at e0
      subst hs
      have hbl : bb < W.heap.size := by
        rcases Nat.lt_or_ge bb W.heap.size with h' | h'
        · exact h'
        · simp [World.cell?, Array.getElem?_eq_none h'] at e0
      have hz : ∀ i, ∃ z : Int × Int × Int, i < n → W.cell? ⟨bb, oo + i * 3, none⟩ = some (.int .u8 z.1) ∧ W.cell? ⟨bb, oo + i * 3 + 1, none⟩ = some (.int .i64 z.2.1) ∧ W.cell? ⟨bb, oo + i * 3 + 2, none⟩ = some (.int .u64 z.2.2) ∧
          (Lit.int .u8 z.1).wf = true ∧ (Lit.int .i64 z.2.1).wf = true ∧ (Lit.int .u64 z.2.2).wf = true := by
        intro i
        by_cases hi' : i < n
        · obtain ⟨a0, a1, a2, q0, q1, q2, q3⟩ := hel i hi'
          rw [addr_add_off] at q0 q1 q2
          exact ⟨(a0, a1, a2), fun _ => ⟨q0, by rw [Nat.add_assoc]; exact q1, by rw [Nat.add_assoc]; exact q2, q3⟩⟩
        · exact ⟨(0, 0, 0), fun h => absurd h hi'⟩
      obtain ⟨Z, hZ⟩ := Classical.axiomOfChoice hz
      refine ⟨bb, oo, fun i => (Z i).1, fun i => (Z i).2.1, fun i => (Z i).2.2.toNat, ⟨fun _ => ⟨rfl, hbl⟩, fun i h => (hZ i h).1, fun i h => (hZ i h).2.1, fun i h => ?_, fun i h => bounds_u8 (hZ i h).2.2.2.1, fun i h => bounds_i64 (hZ i h).2.2.2.2.1, fun i h => ?_⟩, by omega⟩
      · have hb := bounds_u64 (hZ i h).2.2.2.2.2
        rw [(hZ i h).2.2.1]
        congr 2
        exact (Int.toNat_of_nonneg hb.1).symm
      · have hb := bounds_u64 (hZ i h).2.2.2.2.2
        show (Z i).2.2.toNat < _
        omega

end Go.Proofs.Ytmolannefhbnkaa
