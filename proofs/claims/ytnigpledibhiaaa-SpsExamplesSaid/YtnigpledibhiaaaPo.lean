/- Blocks that hold a parameter set. -/
import Derived.Test.YtnigpledibhiaaaPz
namespace Go.Proofs.Ytnigpledibhiaaa
open Go.RowKit
set_option linter.unusedVariables false
set_option maxRecDepth 100000
set_option linter.unusedSimpArgs false

theorem Hp.reorder {W w : World} {L : List AObj} {F F' : List (Nat × Obj)} (h : Hp W w L F) (hp : F.Perm F') : Hp W w L F' := by
  obtain ⟨b, o, ho, hF, hn, hL⟩ := h
  exact ⟨b, o, ho, fun p hm => hF p (hp.mem_iff.2 hm), (hp.map _).nodup_iff.1 hn, hL⟩
theorem mem1 {α : Type} {a b : α} {l : List α} : b ∈ a :: b :: l := List.mem_cons_of_mem _ (List.mem_cons_self ..)
theorem mem2 {α : Type} {a b c : α} {l : List α} : c ∈ a :: b :: c :: l := List.mem_cons_of_mem _ mem1
theorem mem3 {α : Type} {a b c d : α} {l : List α} : d ∈ a :: b :: c :: d :: l := List.mem_cons_of_mem _ mem2
theorem mem4 {α : Type} {a b c d e : α} {l : List α} : e ∈ a :: b :: c :: d :: e :: l := List.mem_cons_of_mem _ mem3
theorem Hp.apart {W w : World} {L : List AObj} {F : List (Nat × Obj)} (h : Hp W w L F) {i j : Nat} (hij : i ≠ j) {p q : Nat × Obj} (hi : F[i]? = some p) (hj : F[j]? = some q) : p.1 ≠ q.1 := by
  obtain ⟨bl, o, ho, hF, hn, hL⟩ := h
  intro e
  have hi' := (List.getElem?_eq_some_iff.1 hi).1
  have hj' := (List.getElem?_eq_some_iff.1 hj).1
  have e1 : (F.map (·.1))[i]'(by simpa using hi') = (F.map (·.1))[j]'(by simpa using hj') := by
    simp only [List.getElem_map]
    rw [(List.getElem?_eq_some_iff.1 hi).2, (List.getElem?_eq_some_iff.1 hj).2]; exact e
  exact hij (List.getElem_inj hn |>.1 e1)
theorem results_ct {fn : Func} {t v : Tmp} {T : TypeId} (h : fn.results = #[.cell t T, .tmp v]) {tmps : Array Value} {P : Program} {w : World} {a : Addr} {x : Value} (ha : tmps.getD t undef = .pointer (some a)) (hx : (loadVar T a).run P w = .ok x w) :
    (results fn tmps).run P w = .ok (.tuple #[x, tmps.getD v undef]) w := by
  have ha' : tmps[t]?.getD undef = .pointer (some a) := by simpa using ha
  simp [results, h, ha', asAddr, hx]
theorem setCell_at {w : World} {b : Nat} {cs : Array Value} {t : TypeId} (h : w.heap[b]? = some (.cells cs t (0, 0))) (j : Nat) (v : Value) : (w.setCell ⟨b, j, none⟩ v).heap[b]? = some (.cells (cs.setIfInBounds j v) t (0, 0)) := by
  have hlt := lt_of_block h
  have h3 : w.heap[b] = .cells cs t (0, 0) := by simpa [Array.getElem?_eq_getElem hlt] using h
  show (w.heap.modify b _)[b]? = _
  rw [Array.getElem?_eq_getElem (by simpa using hlt), Array.getElem_modify_self, h3]
  rfl

@[reducible] def sOb (x : SpsD) : Obj := .cells #[.int .u8 x.pr, .int .u8 x.fl, .int .u8 x.le, .int .i64 x.id, .int .i64 x.fb, .int .i64 x.pb, .int .i64 x.refs, .int .i64 x.w, .int .i64 x.h] 23 (0, 0)
theorem sOb_cells {w : World} {b : Nat} {x : SpsD} (h : w.heap[b]? = some (sOb x)) : w.cell? ⟨b, 0, none⟩ = some (.int .u8 x.pr) ∧ w.cell? ⟨b, 1, none⟩ = some (.int .u8 x.fl) ∧ w.cell? ⟨b, 2, none⟩ = some (.int .u8 x.le) ∧ w.cell? ⟨b, 3, none⟩ = some (.int .i64 x.id) ∧ w.cell? ⟨b, 4, none⟩ = some (.int .i64 x.fb) ∧ w.cell? ⟨b, 5, none⟩ = some (.int .i64 x.pb) ∧ w.cell? ⟨b, 6, none⟩ = some (.int .i64 x.refs) ∧ w.cell? ⟨b, 7, none⟩ = some (.int .i64 x.w) ∧ w.cell? ⟨b, 8, none⟩ = some (.int .i64 x.h) := by
  simp [World.cell?, h]
theorem sOb_free {w : World} {b : Nat} {x : SpsD} (h : w.heap[b]? = some (sOb x)) : w.frozen? ⟨b, 0, none⟩ = false ∧ w.frozen? ⟨b, 1, none⟩ = false ∧ w.frozen? ⟨b, 2, none⟩ = false ∧ w.frozen? ⟨b, 3, none⟩ = false ∧ w.frozen? ⟨b, 4, none⟩ = false ∧ w.frozen? ⟨b, 5, none⟩ = false ∧ w.frozen? ⟨b, 6, none⟩ = false ∧ w.frozen? ⟨b, 7, none⟩ = false ∧ w.frozen? ⟨b, 8, none⟩ = false := by
  simp [World.frozen?, h]
theorem sOb_load {w : World} {b : Nat} {x : SpsD} (h : w.heap[b]? = some (sOb x)) : (loadVar 23 ⟨b, 0, none⟩).run Try.prog w = .ok (sv x) w := by
  obtain ⟨s0, s1, s2, s3, s4, s5, s6, s7, s8⟩ := sOb_cells h
  simp [loadVar, go_sem, run_underlying Try.underlying23, s0, s1, s2, s3, s4, s5, s6, s7, s8, Result.andThen]
/-- A whole value is stored. -/
abbrev sTo (w : World) (b : Nat) (x : SpsD) : World := (((((((((w.setCell ⟨b, 0, none⟩ (.int .u8 x.pr)).setCell ⟨b, 1, none⟩ (.int .u8 x.fl)).setCell ⟨b, 2, none⟩ (.int .u8 x.le)).setCell ⟨b, 3, none⟩ (.int .i64 x.id)).setCell ⟨b, 4, none⟩ (.int .i64 x.fb)).setCell ⟨b, 5, none⟩ (.int .i64 x.pb)).setCell ⟨b, 6, none⟩ (.int .i64 x.refs)).setCell ⟨b, 7, none⟩ (.int .i64 x.w)).setCell ⟨b, 8, none⟩ (.int .i64 x.h))
theorem sTo_blk {w : World} {b : Nat} {y : SpsD} (h : w.heap[b]? = some (sOb y)) (x : SpsD) : (sTo w b x).heap[b]? = some (sOb x) := by
  have h0 := setCell_at h 0 (.int .u8 x.pr)
  have h1 := setCell_at h0 1 (.int .u8 x.fl)
  have h2 := setCell_at h1 2 (.int .u8 x.le)
  have h3 := setCell_at h2 3 (.int .i64 x.id)
  have h4 := setCell_at h3 4 (.int .i64 x.fb)
  have h5 := setCell_at h4 5 (.int .i64 x.pb)
  have h6 := setCell_at h5 6 (.int .i64 x.refs)
  have h7 := setCell_at h6 7 (.int .i64 x.w)
  have h8 := setCell_at h7 8 (.int .i64 x.h)
  simp only [List.setIfInBounds_toArray, List.set_cons_zero, List.set_cons_succ] at h8
  exact h8
theorem sOb_load_drew {v : World} {b : Nat} {x : SpsD} (h : v.heap[b]? = some (sOb x)) : (loadVar 23 ⟨b, 0, none⟩).run Try.prog v.drew = .ok (sv x) v.drew := sOb_load (w := v.drew) h
theorem sTo_load_drew {w : World} {b : Nat} {y : SpsD} (h : w.heap[b]? = some (sOb y)) (x : SpsD) : (loadVar 23 ⟨b, 0, none⟩).run Try.prog (sTo w b x).drew = .ok (sv x) (sTo w b x).drew := sOb_load_drew (sTo_blk h x)
theorem Hp.sTo {W w : World} {L : List AObj} {F : List (Nat × Obj)} {b : Nat} {y : SpsD} (h : Hp W w L ((b, sOb y) :: F)) (x : SpsD) : Hp W (sTo w b x) L ((b, sOb x) :: F) := by
  have h0 := h.set 0 rfl 0 (.int .u8 x.pr)
  simp only [List.set_cons_zero, List.setIfInBounds_toArray, List.set_cons_succ] at h0
  have h1 := h0.set 0 rfl 1 (.int .u8 x.fl)
  simp only [List.set_cons_zero, List.setIfInBounds_toArray, List.set_cons_succ] at h1
  have h2 := h1.set 0 rfl 2 (.int .u8 x.le)
  simp only [List.set_cons_zero, List.setIfInBounds_toArray, List.set_cons_succ] at h2
  have h3 := h2.set 0 rfl 3 (.int .i64 x.id)
  simp only [List.set_cons_zero, List.setIfInBounds_toArray, List.set_cons_succ] at h3
  have h4 := h3.set 0 rfl 4 (.int .i64 x.fb)
  simp only [List.set_cons_zero, List.setIfInBounds_toArray, List.set_cons_succ] at h4
  have h5 := h4.set 0 rfl 5 (.int .i64 x.pb)
  simp only [List.set_cons_zero, List.setIfInBounds_toArray, List.set_cons_succ] at h5
  have h6 := h5.set 0 rfl 6 (.int .i64 x.refs)
  simp only [List.set_cons_zero, List.setIfInBounds_toArray, List.set_cons_succ] at h6
  have h7 := h6.set 0 rfl 7 (.int .i64 x.w)
  simp only [List.set_cons_zero, List.setIfInBounds_toArray, List.set_cons_succ] at h7
  have h8 := h7.set 0 rfl 8 (.int .i64 x.h)
  simp only [List.set_cons_zero, List.setIfInBounds_toArray, List.set_cons_succ] at h8
  exact h8
theorem Hp.sTo0 {W w : World} {L : List AObj} {F : List (Nat × Obj)} {a : Nat × Obj} {b : Nat} {y : SpsD} (h : Hp W w L (a :: (b, sOb y) :: F)) (v : Int) : Hp W (w.setCell ⟨b, 0, none⟩ (.int .u8 v)) L (a :: (b, sOb {y with pr := v}) :: F) := h.set 1 rfl 0 _
theorem Hp.sTo1 {W w : World} {L : List AObj} {F : List (Nat × Obj)} {a : Nat × Obj} {b : Nat} {y : SpsD} (h : Hp W w L (a :: (b, sOb y) :: F)) (v : Int) : Hp W (w.setCell ⟨b, 1, none⟩ (.int .u8 v)) L (a :: (b, sOb {y with fl := v}) :: F) := h.set 1 rfl 1 _
theorem Hp.sTo2 {W w : World} {L : List AObj} {F : List (Nat × Obj)} {a : Nat × Obj} {b : Nat} {y : SpsD} (h : Hp W w L (a :: (b, sOb y) :: F)) (v : Int) : Hp W (w.setCell ⟨b, 2, none⟩ (.int .u8 v)) L (a :: (b, sOb {y with le := v}) :: F) := h.set 1 rfl 2 _
theorem Hp.sTo3 {W w : World} {L : List AObj} {F : List (Nat × Obj)} {a : Nat × Obj} {b : Nat} {y : SpsD} (h : Hp W w L (a :: (b, sOb y) :: F)) (v : Int) : Hp W (w.setCell ⟨b, 3, none⟩ (.int .i64 v)) L (a :: (b, sOb {y with id := v}) :: F) := h.set 1 rfl 3 _
theorem Hp.sTo4 {W w : World} {L : List AObj} {F : List (Nat × Obj)} {a : Nat × Obj} {b : Nat} {y : SpsD} (h : Hp W w L (a :: (b, sOb y) :: F)) (v : Int) : Hp W (w.setCell ⟨b, 4, none⟩ (.int .i64 v)) L (a :: (b, sOb {y with fb := v}) :: F) := h.set 1 rfl 4 _
theorem Hp.sTo5 {W w : World} {L : List AObj} {F : List (Nat × Obj)} {a : Nat × Obj} {b : Nat} {y : SpsD} (h : Hp W w L (a :: (b, sOb y) :: F)) (v : Int) : Hp W (w.setCell ⟨b, 5, none⟩ (.int .i64 v)) L (a :: (b, sOb {y with pb := v}) :: F) := h.set 1 rfl 5 _
theorem Hp.sTo6 {W w : World} {L : List AObj} {F : List (Nat × Obj)} {a : Nat × Obj} {b : Nat} {y : SpsD} (h : Hp W w L (a :: (b, sOb y) :: F)) (v : Int) : Hp W (w.setCell ⟨b, 6, none⟩ (.int .i64 v)) L (a :: (b, sOb {y with refs := v}) :: F) := h.set 1 rfl 6 _
theorem Hp.sTo7 {W w : World} {L : List AObj} {F : List (Nat × Obj)} {a : Nat × Obj} {b : Nat} {y : SpsD} (h : Hp W w L (a :: (b, sOb y) :: F)) (v : Int) : Hp W (w.setCell ⟨b, 7, none⟩ (.int .i64 v)) L (a :: (b, sOb {y with w := v}) :: F) := h.set 1 rfl 7 _
theorem Hp.sTo8 {W w : World} {L : List AObj} {F : List (Nat × Obj)} {a : Nat × Obj} {b : Nat} {y : SpsD} (h : Hp W w L (a :: (b, sOb y) :: F)) (v : Int) : Hp W (w.setCell ⟨b, 8, none⟩ (.int .i64 v)) L (a :: (b, sOb {y with h := v}) :: F) := h.set 1 rfl 8 _
end Go.Proofs.Ytnigpledibhiaaa
