/- The program's store: an object of three blocks. -/
import Derived.Test.YtakpafmhdgnlmaaSc
namespace Go.Proofs.Ytakpafmhdgnlmaa
open Go.RowKit
set_option linter.unusedVariables false
set_option maxRecDepth 100000
set_option linter.unusedSimpArgs false

def aSt (b m1 m2 : Nat) (f : Int → Option SpsD) (g : Int → Option PpsD) : AObj where
  P w G := (G b ∧ G m1 ∧ G m2) ∧ (b ≠ m1 ∧ b ≠ m2 ∧ m1 ≠ m2) ∧ w.heap[b]? = some (.cells #[.map (some m1), .map (some m2)] 68 (0, 0)) ∧ MapAt w m1 (fun k => (f k).map sv) ∧ MapAt w m2 (fun k => (g k).map pv)
  loc := by
    intro w w' G G' hh hG ⟨⟨g1, g2, g3⟩, hn, h1, h2, h3⟩
    exact ⟨⟨hG _ g1, hG _ g2, hG _ g3⟩, hn, (hh _ g1).trans h1, h2.kept (hh _ g2), h3.kept (hh _ g3)⟩
def upd {α : Type} (f : Int → Option α) (k : Int) (x : α) : Int → Option α := fun k' => if k' = k then some x else f k'

theorem MapAt.lt {w : World} {m : Nat} {f : Int → Option Value} (h : MapAt w m f) : m < w.heap.size := by
  obtain ⟨es, c, h1, _⟩ := h
  exact (Array.getElem?_eq_some_iff.1 h1).1
theorem heap_set_ne {w : World} {m c : Nat} (o : Obj) (h : c ≠ m) : ({ w with heap := w.heap.setIfInBounds m o } : World).heap[c]? = w.heap[c]? := by
  show (w.heap.setIfInBounds m o)[c]? = _
  rw [Array.getElem?_setIfInBounds, if_neg (fun e => h e.symm)]
theorem heap_set_at {w : World} {m : Nat} (o : Obj) (h : m < w.heap.size) : ({ w with heap := w.heap.setIfInBounds m o } : World).heap[m]? = some o := by
  show (w.heap.setIfInBounds m o)[m]? = _
  rw [Array.getElem?_setIfInBounds]
  simp [h]
/-- A store into a map: what the block holds. -/
theorem MapAt.upd {P : Program} {w : World} {T K E : TypeId} {m : Nat} {f : Int → Option Value} (h : MapAt w m f) (hT : P.underlying T = some (.map K E)) (hK : P.underlying K = some (.int .i64)) (k : Int) (x : Value) :
    ∃ o, (Instr.mapUpdate T (.map (some m)) (.int .i64 k) x).run P w = .ok () { w with heap := w.heap.setIfInBounds m o } ∧ MapAt { w with heap := w.heap.setIfInBounds m o } m fun k' => if k' = k then some x else f k' := by
  have hlt := h.lt
  obtain ⟨es, c, h1, h2, h3⟩ := h
  obtain ⟨es', c', e1, e2, e3⟩ := run_upd_int hT hK h1 h2 k x
  exact ⟨_, e1, es', c', heap_set_at _ hlt, e2, fun k' => by rw [e3, h3]⟩
theorem MapAt.look {P : Program} {w : World} {T K E : TypeId} {m : Nat} {f : Int → Option Value} (h : MapAt w m f) (hT : P.underlying T = some (.map K E)) (hK : P.underlying K = some (.int .i64)) (k : Int) {z : Value} (hz : (zeroValue E).run P w = .ok z w) {v : Value} {b : Bool} (hv : v = ((f k).getD z)) (hb : b = (f k).isSome) :
    (Instr.lookup T (.map (some m)) (.int .i64 k) true).run P w = .ok (.tuple #[v, .bool b]) w := by
  obtain ⟨es, c, h1, h2, h3⟩ := h
  subst hv hb
  cases hf : f k with
  | none => exact run_look_none hT hK h1 h2 (by rw [h3]; exact hf) hz
  | some x => exact run_look_some hT hK h1 h2 (by rw [h3]; exact hf)

section
variable {W w : World} {L : List AObj} {F : List (Nat × Obj)} {b m1 m2 : Nat} {f : Int → Option SpsD} {g : Int → Option PpsD}
theorem Hp.st (h : Hp W w L F) (k : Nat) (hk : L[k]? = some (aSt b m1 m2 f g)) :
    (w.cell? ⟨b, 0, none⟩ = some (.map (some m1)) ∧ w.cell? ⟨b, 1, none⟩ = some (.map (some m2))) ∧ MapAt w m1 (fun k => (f k).map sv) ∧ MapAt w m2 (fun k => (g k).map pv) := by
  obtain ⟨_, o, _, _, _, hL⟩ := h
  obtain ⟨_, _, h1, h2, h3⟩ := hL k _ hk
  obtain ⟨c0, c1, _, _⟩ := cells_two h1
  exact ⟨⟨c0, c1⟩, h2, h3⟩
theorem szero (w : World) : (zeroValue 29).run Try.prog w = .ok (sv s00) w := by kernel_rfl
theorem pzero (w : World) : (zeroValue 26).run Try.prog w = .ok (pv p00) w := by kernel_rfl
/-- A look-up in the store's maps. -/
theorem Hp.look_s (h : Hp W w L F) (k : Nat) (hk : L[k]? = some (aSt b m1 m2 f g)) (id : Int) {x : SpsD} {is : Bool} (hx : (f id).getD s00 = x) (hi : (f id).isSome = is) :
    (Instr.lookup 57 (.map (some m1)) (.int .i64 id) true).run Try.prog w = .ok (.tuple #[sv x, .bool is]) w := by
  refine (h.st k hk).2.1.look Try.underlying57 Try.underlying3 id (szero w) ?_ ?_
  · rw [← hx]; cases f id <;> rfl
  · rw [← hi]; cases f id <;> rfl
theorem Hp.look_p (h : Hp W w L F) (k : Nat) (hk : L[k]? = some (aSt b m1 m2 f g)) (id : Int) {x : PpsD} {is : Bool} (hx : (g id).getD p00 = x) (hi : (g id).isSome = is) :
    (Instr.lookup 62 (.map (some m2)) (.int .i64 id) true).run Try.prog w = .ok (.tuple #[pv x, .bool is]) w := by
  refine (h.st k hk).2.2.look Try.underlying62 Try.underlying3 id (pzero w) ?_ ?_
  · rw [← hx]; cases g id <;> rfl
  · rw [← hi]; cases g id <;> rfl
theorem Hp.put_s (h : Hp W w L F) (k : Nat) (hk : L[k]? = some (aSt b m1 m2 f g)) (id : Int) (x : SpsD) :
    ∃ w', (Instr.mapUpdate 57 (.map (some m1)) (.int .i64 id) (sv x)).run Try.prog w = .ok () w' ∧ Hp W w' (L.set k (aSt b m1 m2 (upd f id x) g)) F := by
  obtain ⟨o, e1, e2⟩ := (h.st k hk).2.1.upd Try.underlying57 Try.underlying3 id (sv x)
  refine ⟨_, e1, ?_⟩
  obtain ⟨G, ⟨⟨g1, g2, g3⟩, ⟨n1, n2, n3⟩, q1, q2, q3⟩, hG, hx⟩ := h.turn k hk
  refine hx _ _ rfl rfl rfl (by simp) (fun c hc hn => heap_set_ne o (fun e => hn (e ▸ g2))) ⟨⟨Or.inl g1, Or.inl g2, Or.inl g3⟩, ⟨n1, n2, n3⟩, (heap_set_ne o n1).trans q1, ?_, q3.kept (heap_set_ne o n3.symm)⟩
  obtain ⟨es, c, a1, a2, a3⟩ := e2
  refine ⟨es, c, a1, a2, fun k' => ?_⟩
  rw [a3]
  show (if k' = id then _ else _) = Option.map _ (if k' = id then _ else _)
  split <;> rfl
theorem Hp.put_p (h : Hp W w L F) (k : Nat) (hk : L[k]? = some (aSt b m1 m2 f g)) (id : Int) (x : PpsD) :
    ∃ w', (Instr.mapUpdate 62 (.map (some m2)) (.int .i64 id) (pv x)).run Try.prog w = .ok () w' ∧ Hp W w' (L.set k (aSt b m1 m2 f (upd g id x))) F := by
  obtain ⟨o, e1, e2⟩ := (h.st k hk).2.2.upd Try.underlying62 Try.underlying3 id (pv x)
  refine ⟨_, e1, ?_⟩
  obtain ⟨G, ⟨⟨g1, g2, g3⟩, ⟨n1, n2, n3⟩, q1, q2, q3⟩, hG, hx⟩ := h.turn k hk
  refine hx _ _ rfl rfl rfl (by simp) (fun c hc hn => heap_set_ne o (fun e => hn (e ▸ g3))) ⟨⟨Or.inl g1, Or.inl g2, Or.inl g3⟩, ⟨n1, n2, n3⟩, (heap_set_ne o n2).trans q1, q2.kept (heap_set_ne o n3), ?_⟩
  obtain ⟨es, c, a1, a2, a3⟩ := e2
  refine ⟨es, c, a1, a2, fun k' => ?_⟩
  rw [a3]
  show (if k' = id then _ else _) = Option.map _ (if k' = id then _ else _)
  split <;> rfl
/-- A new store out of three new blocks. -/
theorem Hp.st_new (h : Hp W w L F) {w' : World} (hb : Below w.heap.size w w') (hn : b ≠ m1 ∧ b ≠ m2 ∧ m1 ≠ m2) (hs : w.heap.size ≤ b ∧ w.heap.size ≤ m1 ∧ w.heap.size ≤ m2) (h1 : w'.heap[b]? = some (.cells #[.map (some m1), .map (some m2)] 68 (0, 0)))
    (h2 : MapAt w' m1 (fun k => (f k).map sv)) (h3 : MapAt w' m2 (fun k => (g k).map pv)) : Hp W w' (aSt b m1 m2 f g :: L) F :=
  h.make hb ⟨⟨⟨hs.1, lt_of_block h1⟩, ⟨hs.2.1, h2.lt⟩, ⟨hs.2.2, h3.lt⟩⟩, hn, h1, h2, h3⟩
end

theorem setsnew_any {W w : World} {L : List AObj} {F : List (Nat × Obj)} (h : Hp W w L F) :
    Calls Try.prog 8 #[] w fun e w' => ∃ b m1 m2, e = .returned (.pointer (some ⟨b, 0, none⟩)) ∧ Hp W w' (aSt b m1 m2 (fun _ => none) (fun _ => none) :: L) F := by
  have H := Lib.hid h
  have hmm := @run_makeMap Try.prog
  clear h
  go_enter Try.func8, Try.ntmps8
  go_wp2_with (fail)
  refine bodyPost_ret (results_tmp rfl _ _ _) rfl ?_
  obtain ⟨v1, e1⟩ : ∃ v, v = w.alloc (.map #[] 0) := ⟨_, rfl⟩
  obtain ⟨v2, e2⟩ : ∃ v, v = v1.alloc (.map #[] 0) := ⟨_, rfl⟩
  have s1 : v1.heap.size = w.heap.size + 1 := by rw [e1]; simp
  have s2 : v2.heap.size = w.heap.size + 1 + 1 := by rw [e2]; simp [s1]
  have q1 : MapAt v1 w.heap.size (fun _ => none) := by rw [e1]; exact MapAt.new w
  have q2 : MapAt v2 (w.heap.size + 1) (fun _ => none) := by rw [e2, ← s1]; exact MapAt.new v1
  have q1' : MapAt v2 w.heap.size (fun _ => none) := q1.kept (by rw [e2]; exact Below.heap_alloc _ _ _ (by omega))
  have hb2 : Below w.heap.size w v2 := by rw [e2, e1]; exact ((Below.refl _ _).alloc (Nat.le_refl _) _).alloc (by simp) _
  rw [← e1, ← e2]
  clear e1 e2
  refine ⟨_, w.heap.size, w.heap.size + 1, rfl, H.out.st_new (hb2.alloc (by omega) _) ⟨by omega, by omega, by omega⟩ ⟨by omega, by omega, by omega⟩ ?_ ?_ ?_⟩
  · rw [← s2]; exact (MapKept.heap_alloc _ _).1
  · exact q1'.kept (Below.heap_alloc _ _ _ (by omega))
  · exact q2.kept (Below.heap_alloc _ _ _ (by omega))

end Go.Proofs.Ytakpafmhdgnlmaa
