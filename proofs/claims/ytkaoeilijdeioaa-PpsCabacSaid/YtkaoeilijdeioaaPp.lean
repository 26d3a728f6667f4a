/- Blocks that hold a picture parameter set. -/
import Derived.Test.YtkaoeilijdeioaaPg
import Derived.Test.YtkaoeilijdeioaaSo
namespace Go.Proofs.Ytkaoeilijdeioaa
open Go.RowKit
set_option linter.unusedVariables false
set_option maxRecDepth 100000
set_option linter.unusedSimpArgs false

@[reducible] def pOb (x : PpsD) : Obj := .cells #[.int .i64 x.id, .int .i64 x.sps, .bool x.cab, .int .i64 x.refs, .int .i64 x.refs1, .int .i64 x.qp, .int .i64 x.qs, .int .i64 x.ch, .bool x.deb, .bool x.intra] 23 (0, 0)
theorem pOb_cells {w : World} {b : Nat} {x : PpsD} (h : w.heap[b]? = some (pOb x)) : w.cell? ⟨b, 0, none⟩ = some (.int .i64 x.id) ∧ w.cell? ⟨b, 1, none⟩ = some (.int .i64 x.sps) ∧ w.cell? ⟨b, 2, none⟩ = some (.bool x.cab) ∧ w.cell? ⟨b, 3, none⟩ = some (.int .i64 x.refs) ∧ w.cell? ⟨b, 4, none⟩ = some (.int .i64 x.refs1) ∧ w.cell? ⟨b, 5, none⟩ = some (.int .i64 x.qp) ∧ w.cell? ⟨b, 6, none⟩ = some (.int .i64 x.qs) ∧ w.cell? ⟨b, 7, none⟩ = some (.int .i64 x.ch) ∧ w.cell? ⟨b, 8, none⟩ = some (.bool x.deb) ∧ w.cell? ⟨b, 9, none⟩ = some (.bool x.intra) := by
  simp [World.cell?, h]
theorem pOb_free {w : World} {b : Nat} {x : PpsD} (h : w.heap[b]? = some (pOb x)) : w.frozen? ⟨b, 0, none⟩ = false ∧ w.frozen? ⟨b, 1, none⟩ = false ∧ w.frozen? ⟨b, 2, none⟩ = false ∧ w.frozen? ⟨b, 3, none⟩ = false ∧ w.frozen? ⟨b, 4, none⟩ = false ∧ w.frozen? ⟨b, 5, none⟩ = false ∧ w.frozen? ⟨b, 6, none⟩ = false ∧ w.frozen? ⟨b, 7, none⟩ = false ∧ w.frozen? ⟨b, 8, none⟩ = false ∧ w.frozen? ⟨b, 9, none⟩ = false := by
  simp [World.frozen?, h]
theorem pOb_load {w : World} {b : Nat} {x : PpsD} (h : w.heap[b]? = some (pOb x)) : (loadVar 23 ⟨b, 0, none⟩).run Try.prog w = .ok (pv x) w := by
  obtain ⟨s0, s1, s2, s3, s4, s5, s6, s7, s8, s9⟩ := pOb_cells h
  simp [loadVar, go_sem, run_underlying Try.underlying23, s0, s1, s2, s3, s4, s5, s6, s7, s8, s9, Result.andThen]
/-- A whole value is stored. -/
abbrev pTo (w : World) (b : Nat) (x : PpsD) : World := ((((((((((w.setCell ⟨b, 0, none⟩ (.int .i64 x.id)).setCell ⟨b, 1, none⟩ (.int .i64 x.sps)).setCell ⟨b, 2, none⟩ (.bool x.cab)).setCell ⟨b, 3, none⟩ (.int .i64 x.refs)).setCell ⟨b, 4, none⟩ (.int .i64 x.refs1)).setCell ⟨b, 5, none⟩ (.int .i64 x.qp)).setCell ⟨b, 6, none⟩ (.int .i64 x.qs)).setCell ⟨b, 7, none⟩ (.int .i64 x.ch)).setCell ⟨b, 8, none⟩ (.bool x.deb)).setCell ⟨b, 9, none⟩ (.bool x.intra))
theorem pTo_blk {w : World} {b : Nat} {y : PpsD} (h : w.heap[b]? = some (pOb y)) (x : PpsD) : (pTo w b x).heap[b]? = some (pOb x) := by
  have h0 := setCell_at h 0 (.int .i64 x.id)
  have h1 := setCell_at h0 1 (.int .i64 x.sps)
  have h2 := setCell_at h1 2 (.bool x.cab)
  have h3 := setCell_at h2 3 (.int .i64 x.refs)
  have h4 := setCell_at h3 4 (.int .i64 x.refs1)
  have h5 := setCell_at h4 5 (.int .i64 x.qp)
  have h6 := setCell_at h5 6 (.int .i64 x.qs)
  have h7 := setCell_at h6 7 (.int .i64 x.ch)
  have h8 := setCell_at h7 8 (.bool x.deb)
  have h9 := setCell_at h8 9 (.bool x.intra)
  simp only [List.setIfInBounds_toArray, List.set_cons_zero, List.set_cons_succ] at h9
  exact h9
theorem pOb_load_drew {v : World} {b : Nat} {x : PpsD} (h : v.heap[b]? = some (pOb x)) : (loadVar 23 ⟨b, 0, none⟩).run Try.prog v.drew = .ok (pv x) v.drew := pOb_load (w := v.drew) h
theorem pTo_load_drew {w : World} {b : Nat} {y : PpsD} (h : w.heap[b]? = some (pOb y)) (x : PpsD) : (loadVar 23 ⟨b, 0, none⟩).run Try.prog (pTo w b x).drew = .ok (pv x) (pTo w b x).drew := pOb_load_drew (pTo_blk h x)
theorem Hp.pTo {W w : World} {L : List AObj} {F : List (Nat × Obj)} {b : Nat} {y : PpsD} (h : Hp W w L ((b, pOb y) :: F)) (x : PpsD) : Hp W (pTo w b x) L ((b, pOb x) :: F) := by
  have h0 := h.set 0 rfl 0 (.int .i64 x.id)
  simp only [List.set_cons_zero, List.setIfInBounds_toArray, List.set_cons_succ] at h0
  have h1 := h0.set 0 rfl 1 (.int .i64 x.sps)
  simp only [List.set_cons_zero, List.setIfInBounds_toArray, List.set_cons_succ] at h1
  have h2 := h1.set 0 rfl 2 (.bool x.cab)
  simp only [List.set_cons_zero, List.setIfInBounds_toArray, List.set_cons_succ] at h2
  have h3 := h2.set 0 rfl 3 (.int .i64 x.refs)
  simp only [List.set_cons_zero, List.setIfInBounds_toArray, List.set_cons_succ] at h3
  have h4 := h3.set 0 rfl 4 (.int .i64 x.refs1)
  simp only [List.set_cons_zero, List.setIfInBounds_toArray, List.set_cons_succ] at h4
  have h5 := h4.set 0 rfl 5 (.int .i64 x.qp)
  simp only [List.set_cons_zero, List.setIfInBounds_toArray, List.set_cons_succ] at h5
  have h6 := h5.set 0 rfl 6 (.int .i64 x.qs)
  simp only [List.set_cons_zero, List.setIfInBounds_toArray, List.set_cons_succ] at h6
  have h7 := h6.set 0 rfl 7 (.int .i64 x.ch)
  simp only [List.set_cons_zero, List.setIfInBounds_toArray, List.set_cons_succ] at h7
  have h8 := h7.set 0 rfl 8 (.bool x.deb)
  simp only [List.set_cons_zero, List.setIfInBounds_toArray, List.set_cons_succ] at h8
  have h9 := h8.set 0 rfl 9 (.bool x.intra)
  simp only [List.set_cons_zero, List.setIfInBounds_toArray, List.set_cons_succ] at h9
  exact h9
theorem Hp.pTo0 {W w : World} {L : List AObj} {F : List (Nat × Obj)} {a : Nat × Obj} {b : Nat} {y : PpsD} (h : Hp W w L (a :: (b, pOb y) :: F)) (v : Int) : Hp W (w.setCell ⟨b, 0, none⟩ (.int .i64 v)) L (a :: (b, pOb {y with id := v}) :: F) := h.set 1 rfl 0 _
theorem Hp.pTo1 {W w : World} {L : List AObj} {F : List (Nat × Obj)} {a : Nat × Obj} {b : Nat} {y : PpsD} (h : Hp W w L (a :: (b, pOb y) :: F)) (v : Int) : Hp W (w.setCell ⟨b, 1, none⟩ (.int .i64 v)) L (a :: (b, pOb {y with sps := v}) :: F) := h.set 1 rfl 1 _
theorem Hp.pTo2 {W w : World} {L : List AObj} {F : List (Nat × Obj)} {a : Nat × Obj} {b : Nat} {y : PpsD} (h : Hp W w L (a :: (b, pOb y) :: F)) (v : Bool) : Hp W (w.setCell ⟨b, 2, none⟩ (.bool v)) L (a :: (b, pOb {y with cab := v}) :: F) := h.set 1 rfl 2 _
theorem Hp.pTo3 {W w : World} {L : List AObj} {F : List (Nat × Obj)} {a : Nat × Obj} {b : Nat} {y : PpsD} (h : Hp W w L (a :: (b, pOb y) :: F)) (v : Int) : Hp W (w.setCell ⟨b, 3, none⟩ (.int .i64 v)) L (a :: (b, pOb {y with refs := v}) :: F) := h.set 1 rfl 3 _
theorem Hp.pTo4 {W w : World} {L : List AObj} {F : List (Nat × Obj)} {a : Nat × Obj} {b : Nat} {y : PpsD} (h : Hp W w L (a :: (b, pOb y) :: F)) (v : Int) : Hp W (w.setCell ⟨b, 4, none⟩ (.int .i64 v)) L (a :: (b, pOb {y with refs1 := v}) :: F) := h.set 1 rfl 4 _
theorem Hp.pTo5 {W w : World} {L : List AObj} {F : List (Nat × Obj)} {a : Nat × Obj} {b : Nat} {y : PpsD} (h : Hp W w L (a :: (b, pOb y) :: F)) (v : Int) : Hp W (w.setCell ⟨b, 5, none⟩ (.int .i64 v)) L (a :: (b, pOb {y with qp := v}) :: F) := h.set 1 rfl 5 _
theorem Hp.pTo6 {W w : World} {L : List AObj} {F : List (Nat × Obj)} {a : Nat × Obj} {b : Nat} {y : PpsD} (h : Hp W w L (a :: (b, pOb y) :: F)) (v : Int) : Hp W (w.setCell ⟨b, 6, none⟩ (.int .i64 v)) L (a :: (b, pOb {y with qs := v}) :: F) := h.set 1 rfl 6 _
theorem Hp.pTo7 {W w : World} {L : List AObj} {F : List (Nat × Obj)} {a : Nat × Obj} {b : Nat} {y : PpsD} (h : Hp W w L (a :: (b, pOb y) :: F)) (v : Int) : Hp W (w.setCell ⟨b, 7, none⟩ (.int .i64 v)) L (a :: (b, pOb {y with ch := v}) :: F) := h.set 1 rfl 7 _
theorem Hp.pTo8 {W w : World} {L : List AObj} {F : List (Nat × Obj)} {a : Nat × Obj} {b : Nat} {y : PpsD} (h : Hp W w L (a :: (b, pOb y) :: F)) (v : Bool) : Hp W (w.setCell ⟨b, 8, none⟩ (.bool v)) L (a :: (b, pOb {y with deb := v}) :: F) := h.set 1 rfl 8 _
theorem Hp.pTo9 {W w : World} {L : List AObj} {F : List (Nat × Obj)} {a : Nat × Obj} {b : Nat} {y : PpsD} (h : Hp W w L (a :: (b, pOb y) :: F)) (v : Bool) : Hp W (w.setCell ⟨b, 9, none⟩ (.bool v)) L (a :: (b, pOb {y with intra := v}) :: F) := h.set 1 rfl 9 _
end Go.Proofs.Ytkaoeilijdeioaa
