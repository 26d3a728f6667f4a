/- Plain blocks: order, apartness, results in memory. -/
import Derived.Test.YtkaoeilijdeioaaPz
namespace Go.Proofs.Ytkaoeilijdeioaa
open Go.RowKit
set_option linter.unusedVariables false
set_option maxRecDepth 100000
set_option linter.unusedSimpArgs false

theorem Hp.reorder {W w : World} {L : List AObj} {F F' : List (Nat × Obj)} (h : Hp W w L F) (hp : F.Perm F') : Hp W w L F' := by
  obtain ⟨b, o, ho, hF, hn, hL⟩ := h
  exact ⟨b, o, ho, fun p hm => hF p (hp.mem_iff.2 hm), (hp.map _).nodup_iff.1 hn, hL⟩
theorem mem1 {α : Type} {a b : α} {l : List α} : b ∈ a :: b :: l := List.mem_cons_of_mem _ (List.mem_cons_self ..)
theorem mem2 {α : Type} {a b c : α} {l : List α} : c ∈ a :: b :: c :: l := List.mem_cons_of_mem _ mem1
theorem mem3 {α : Type} {a b c d : α} {l : List α} : d ∈ a :: b :: c :: d :: l := List.mem_cons_of_mem _ mem2
theorem mem4 {α : Type} {a b c d e : α} {l : List α} : e ∈ a :: b :: c :: d :: e :: l := List.mem_cons_of_mem _ mem3
theorem Hp.apart {W w : World} {L : List AObj} {F : List (Nat × Obj)} (h : Hp W w L F) {i j : Nat} (hij : i ≠ j) {p q : Nat × Obj} (hi : F[i]? = some p) (hj : F[j]? = some q) : p.1 ≠ q.1 := by
  obtain ⟨bl, o, ho, hF, hn, hL⟩ := h
  intro e
  have hi' := (List.getElem?_eq_some_iff.1 hi).1
  have hj' := (List.getElem?_eq_some_iff.1 hj).1
  have e1 : (F.map (·.1))[i]'(by simpa using hi') = (F.map (·.1))[j]'(by simpa using hj') := by
    simp only [List.getElem_map]
    rw [(List.getElem?_eq_some_iff.1 hi).2, (List.getElem?_eq_some_iff.1 hj).2]; exact e
  exact hij (List.getElem_inj hn |>.1 e1)
theorem results_ct {fn : Func} {t v : Tmp} {T : TypeId} (h : fn.results = #[.cell t T, .tmp v]) {tmps : Array Value} {P : Program} {w : World} {a : Addr} {x : Value} (ha : tmps.getD t undef = .pointer (some a)) (hx : (loadVar T a).run P w = .ok x w) :
    (results fn tmps).run P w = .ok (.tuple #[x, tmps.getD v undef]) w := by
  have ha' : tmps[t]?.getD undef = .pointer (some a) := by simpa using ha
  simp [results, h, ha', asAddr, hx]
theorem setCell_at {w : World} {b : Nat} {cs : Array Value} {t : TypeId} (h : w.heap[b]? = some (.cells cs t (0, 0))) (j : Nat) (v : Value) : (w.setCell ⟨b, j, none⟩ v).heap[b]? = some (.cells (cs.setIfInBounds j v) t (0, 0)) := by
  have hlt := lt_of_block h
  have h3 : w.heap[b] = .cells cs t (0, 0) := by simpa [Array.getElem?_eq_getElem hlt] using h
  show (w.heap.modify b _)[b]? = _
  rw [Array.getElem?_eq_getElem (by simpa using hlt), Array.getElem_modify_self, h3]
  rfl

end Go.Proofs.Ytkaoeilijdeioaa
