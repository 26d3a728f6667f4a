/- Arrays of parameter sets and of bools: blocks as objects. -/
import Derived.Test.YtakpafmhdgnlmaaSy
namespace Go.Proofs.Ytakpafmhdgnlmaa
open Go.RowKit
set_option linter.unusedVariables false
set_option maxRecDepth 100000
set_option linter.unusedSimpArgs false

/-- An object that is one block. -/
def aOb (b : Nat) (o : Obj) : AObj where
  P w G := G b ∧ w.heap[b]? = some o
  loc hh hG := fun ⟨h1, h2⟩ => ⟨hG _ h1, (hh _ h1).trans h2⟩
/-- Only block b has turned. -/
structure OneBlk (w w' : World) (b : Nat) : Prop where
  os : w'.os = w.os
  tape : w'.tape = w.tape
  output : w'.output = w.output
  size : w'.heap.size = w.heap.size
  same : ∀ c, c ≠ b → w'.heap[c]? = w.heap[c]?
theorem OneBlk.refl (w : World) (b : Nat) : OneBlk w w b := ⟨rfl, rfl, rfl, rfl, fun _ _ => rfl⟩
theorem OneBlk.set {w w' : World} {b : Nat} (h : OneBlk w w' b) (j : Nat) (v : Value) : OneBlk w (w'.setCell ⟨b, j, none⟩ v) b :=
  ⟨h.os, h.tape, h.output, by have := h.size; simpa [World.setCell] using this, fun c hc => (Below.heap_setCell w' ⟨b, j, none⟩ v c hc).trans (h.same c hc)⟩
section
variable {W w w' : World} {L : List AObj} {F : List (Nat × Obj)} {b : Nat} {o o' : Obj}
theorem Hp.ob (h : Hp W w L F) (k : Nat) (hk : L[k]? = some (aOb b o)) : w.heap[b]? = some o := by
  obtain ⟨_, o, _, _, _, hL⟩ := h
  exact (hL k _ hk).2
theorem Hp.ob_new (h : Hp W w L F) (o : Obj) : Hp W (w.alloc o) (aOb w.heap.size o :: L) F :=
  h.make ((Below.refl _ _).alloc (Nat.le_refl _) _) ⟨⟨Nat.le_refl _, by simp⟩, (MapKept.heap_alloc w o).1⟩
theorem Hp.ob_turn (h : Hp W w L F) (k : Nat) (hk : L[k]? = some (aOb b o)) (h1 : OneBlk w w' b) (h2 : w'.heap[b]? = some o') : Hp W w' (L.set k (aOb b o')) F := by
  obtain ⟨G, ⟨g1, g2⟩, hG, hx⟩ := h.turn k hk
  exact hx _ _ h1.os h1.tape h1.output (Nat.le_of_eq h1.size.symm) (fun c hc hn => h1.same c (fun e => hn (e ▸ g1))) ⟨Or.inl g1, h2⟩
end
theorem four {P : Nat → Prop} (h0 : P 0) (h1 : P 1) (h2 : P 2) (h3 : P 3) {k : Nat} (hk : k < 4) : P k := by
  have : k = 0 ∨ k = 1 ∨ k = 2 ∨ k = 3 := by omega
  rcases this with rfl | rfl | rfl | rfl <;> assumption
def putAt {α : Type} (P : Nat → α) (k : Nat) (x : α) : Nat → α := fun i => if i = k then x else P i

def sArr (P : Nat → SpsD) : Obj := .cells #[.int .u8 (P 0).pr, .int .u8 (P 0).fl, .int .u8 (P 0).le, .int .i64 (P 0).id, .int .i64 (P 0).fb, .int .i64 (P 0).pb, .int .i64 (P 0).refs, .int .i64 (P 0).w, .int .i64 (P 0).h, .int .u8 (P 1).pr, .int .u8 (P 1).fl, .int .u8 (P 1).le, .int .i64 (P 1).id, .int .i64 (P 1).fb, .int .i64 (P 1).pb, .int .i64 (P 1).refs, .int .i64 (P 1).w, .int .i64 (P 1).h, .int .u8 (P 2).pr, .int .u8 (P 2).fl, .int .u8 (P 2).le, .int .i64 (P 2).id, .int .i64 (P 2).fb, .int .i64 (P 2).pb, .int .i64 (P 2).refs, .int .i64 (P 2).w, .int .i64 (P 2).h, .int .u8 (P 3).pr, .int .u8 (P 3).fl, .int .u8 (P 3).le, .int .i64 (P 3).id, .int .i64 (P 3).fb, .int .i64 (P 3).pb, .int .i64 (P 3).refs, .int .i64 (P 3).w, .int .i64 (P 3).h] 30 (0, 0)
theorem sArr_cells {w : World} {b : Nat} {P : Nat → SpsD} (h : w.heap[b]? = some (sArr P)) {k : Nat} (hk : k < 4) : w.cell? ⟨b, k * 9, none⟩ = some (.int .u8 (P k).pr) ∧ w.cell? ⟨b, k * 9 + 1, none⟩ = some (.int .u8 (P k).fl) ∧ w.cell? ⟨b, k * 9 + 2, none⟩ = some (.int .u8 (P k).le) ∧ w.cell? ⟨b, k * 9 + 3, none⟩ = some (.int .i64 (P k).id) ∧ w.cell? ⟨b, k * 9 + 4, none⟩ = some (.int .i64 (P k).fb) ∧ w.cell? ⟨b, k * 9 + 5, none⟩ = some (.int .i64 (P k).pb) ∧ w.cell? ⟨b, k * 9 + 6, none⟩ = some (.int .i64 (P k).refs) ∧ w.cell? ⟨b, k * 9 + 7, none⟩ = some (.int .i64 (P k).w) ∧ w.cell? ⟨b, k * 9 + 8, none⟩ = some (.int .i64 (P k).h) := by
  unfold sArr at h
  revert hk
  refine fun hk => four (P := fun k => w.cell? ⟨b, k * 9, none⟩ = some (.int .u8 (P k).pr) ∧ w.cell? ⟨b, k * 9 + 1, none⟩ = some (.int .u8 (P k).fl) ∧ w.cell? ⟨b, k * 9 + 2, none⟩ = some (.int .u8 (P k).le) ∧ w.cell? ⟨b, k * 9 + 3, none⟩ = some (.int .i64 (P k).id) ∧ w.cell? ⟨b, k * 9 + 4, none⟩ = some (.int .i64 (P k).fb) ∧ w.cell? ⟨b, k * 9 + 5, none⟩ = some (.int .i64 (P k).pb) ∧ w.cell? ⟨b, k * 9 + 6, none⟩ = some (.int .i64 (P k).refs) ∧ w.cell? ⟨b, k * 9 + 7, none⟩ = some (.int .i64 (P k).w) ∧ w.cell? ⟨b, k * 9 + 8, none⟩ = some (.int .i64 (P k).h)) ?_ ?_ ?_ ?_ hk <;> simp [World.cell?, h]
theorem sArr_free {w : World} {b : Nat} {P : Nat → SpsD} (h : w.heap[b]? = some (sArr P)) (j : Nat) : w.frozen? ⟨b, j, none⟩ = false := by
  unfold sArr at h
  simp [World.frozen?, h]
def sArrSet (w : World) (b k : Nat) (x : SpsD) : World := ((((((((w.setCell ⟨b, k * 9, none⟩ (.int .u8 x.pr)).setCell ⟨b, k * 9 + 1, none⟩ (.int .u8 x.fl)).setCell ⟨b, k * 9 + 2, none⟩ (.int .u8 x.le)).setCell ⟨b, k * 9 + 3, none⟩ (.int .i64 x.id)).setCell ⟨b, k * 9 + 4, none⟩ (.int .i64 x.fb)).setCell ⟨b, k * 9 + 5, none⟩ (.int .i64 x.pb)).setCell ⟨b, k * 9 + 6, none⟩ (.int .i64 x.refs)).setCell ⟨b, k * 9 + 7, none⟩ (.int .i64 x.w)).setCell ⟨b, k * 9 + 8, none⟩ (.int .i64 x.h)
theorem sArrSet_one (w : World) (b k : Nat) (x : SpsD) : OneBlk w (sArrSet w b k x) b := by
  unfold sArrSet
  exact (((((((((OneBlk.refl w b).set _ _).set _ _).set _ _).set _ _).set _ _).set _ _).set _ _).set _ _).set _ _
set_option maxHeartbeats 2000000 in
theorem sArrSet_blk {w : World} {b : Nat} {P : Nat → SpsD} (h : w.heap[b]? = some (sArr P)) (x : SpsD) {k : Nat} (hk : k < 4) : (sArrSet w b k x).heap[b]? = some (sArr (putAt P k x)) := by
  unfold sArr at h
  have h0 := setCell_blk h (k * 9) (.int .u8 x.pr)
  have h1 := setCell_blk h0 (k * 9 + 1) (.int .u8 x.fl)
  have h2 := setCell_blk h1 (k * 9 + 2) (.int .u8 x.le)
  have h3 := setCell_blk h2 (k * 9 + 3) (.int .i64 x.id)
  have h4 := setCell_blk h3 (k * 9 + 4) (.int .i64 x.fb)
  have h5 := setCell_blk h4 (k * 9 + 5) (.int .i64 x.pb)
  have h6 := setCell_blk h5 (k * 9 + 6) (.int .i64 x.refs)
  have h7 := setCell_blk h6 (k * 9 + 7) (.int .i64 x.w)
  have h8 := setCell_blk h7 (k * 9 + 8) (.int .i64 x.h)
  have e : (sArrSet w b k x).heap[b]? = _ := h8
  rw [e]
  clear e h8 h7 h6 h5 h4 h3 h2 h1 h0
  have : k = 0 ∨ k = 1 ∨ k = 2 ∨ k = 3 := by omega
  rcases this with rfl | rfl | rfl | rfl <;> simp only [Nat.zero_mul, Nat.one_mul, Nat.reduceMul, Nat.reduceAdd, Nat.zero_add, List.setIfInBounds_toArray, List.set_cons_zero, List.set_cons_succ, sArr, putAt, if_pos, if_neg, reduceIte, reduceCtorEq, Nat.reduceEqDiff, Nat.zero_ne_one, Nat.one_ne_zero]
def pArr (P : Nat → PpsD) : Obj := .cells #[.int .i64 (P 0).id, .int .i64 (P 0).sps, .bool (P 0).cab, .int .i64 (P 0).refs, .int .i64 (P 0).refs1, .int .i64 (P 0).qp, .int .i64 (P 0).qs, .int .i64 (P 0).ch, .bool (P 0).deb, .bool (P 0).intra, .int .i64 (P 1).id, .int .i64 (P 1).sps, .bool (P 1).cab, .int .i64 (P 1).refs, .int .i64 (P 1).refs1, .int .i64 (P 1).qp, .int .i64 (P 1).qs, .int .i64 (P 1).ch, .bool (P 1).deb, .bool (P 1).intra, .int .i64 (P 2).id, .int .i64 (P 2).sps, .bool (P 2).cab, .int .i64 (P 2).refs, .int .i64 (P 2).refs1, .int .i64 (P 2).qp, .int .i64 (P 2).qs, .int .i64 (P 2).ch, .bool (P 2).deb, .bool (P 2).intra, .int .i64 (P 3).id, .int .i64 (P 3).sps, .bool (P 3).cab, .int .i64 (P 3).refs, .int .i64 (P 3).refs1, .int .i64 (P 3).qp, .int .i64 (P 3).qs, .int .i64 (P 3).ch, .bool (P 3).deb, .bool (P 3).intra] 27 (0, 0)
theorem pArr_cells {w : World} {b : Nat} {P : Nat → PpsD} (h : w.heap[b]? = some (pArr P)) {k : Nat} (hk : k < 4) : w.cell? ⟨b, k * 10, none⟩ = some (.int .i64 (P k).id) ∧ w.cell? ⟨b, k * 10 + 1, none⟩ = some (.int .i64 (P k).sps) ∧ w.cell? ⟨b, k * 10 + 2, none⟩ = some (.bool (P k).cab) ∧ w.cell? ⟨b, k * 10 + 3, none⟩ = some (.int .i64 (P k).refs) ∧ w.cell? ⟨b, k * 10 + 4, none⟩ = some (.int .i64 (P k).refs1) ∧ w.cell? ⟨b, k * 10 + 5, none⟩ = some (.int .i64 (P k).qp) ∧ w.cell? ⟨b, k * 10 + 6, none⟩ = some (.int .i64 (P k).qs) ∧ w.cell? ⟨b, k * 10 + 7, none⟩ = some (.int .i64 (P k).ch) ∧ w.cell? ⟨b, k * 10 + 8, none⟩ = some (.bool (P k).deb) ∧ w.cell? ⟨b, k * 10 + 9, none⟩ = some (.bool (P k).intra) := by
  unfold pArr at h
  revert hk
  refine fun hk => four (P := fun k => w.cell? ⟨b, k * 10, none⟩ = some (.int .i64 (P k).id) ∧ w.cell? ⟨b, k * 10 + 1, none⟩ = some (.int .i64 (P k).sps) ∧ w.cell? ⟨b, k * 10 + 2, none⟩ = some (.bool (P k).cab) ∧ w.cell? ⟨b, k * 10 + 3, none⟩ = some (.int .i64 (P k).refs) ∧ w.cell? ⟨b, k * 10 + 4, none⟩ = some (.int .i64 (P k).refs1) ∧ w.cell? ⟨b, k * 10 + 5, none⟩ = some (.int .i64 (P k).qp) ∧ w.cell? ⟨b, k * 10 + 6, none⟩ = some (.int .i64 (P k).qs) ∧ w.cell? ⟨b, k * 10 + 7, none⟩ = some (.int .i64 (P k).ch) ∧ w.cell? ⟨b, k * 10 + 8, none⟩ = some (.bool (P k).deb) ∧ w.cell? ⟨b, k * 10 + 9, none⟩ = some (.bool (P k).intra)) ?_ ?_ ?_ ?_ hk <;> simp [World.cell?, h]
theorem pArr_free {w : World} {b : Nat} {P : Nat → PpsD} (h : w.heap[b]? = some (pArr P)) (j : Nat) : w.frozen? ⟨b, j, none⟩ = false := by
  unfold pArr at h
  simp [World.frozen?, h]
def pArrSet (w : World) (b k : Nat) (x : PpsD) : World := (((((((((w.setCell ⟨b, k * 10, none⟩ (.int .i64 x.id)).setCell ⟨b, k * 10 + 1, none⟩ (.int .i64 x.sps)).setCell ⟨b, k * 10 + 2, none⟩ (.bool x.cab)).setCell ⟨b, k * 10 + 3, none⟩ (.int .i64 x.refs)).setCell ⟨b, k * 10 + 4, none⟩ (.int .i64 x.refs1)).setCell ⟨b, k * 10 + 5, none⟩ (.int .i64 x.qp)).setCell ⟨b, k * 10 + 6, none⟩ (.int .i64 x.qs)).setCell ⟨b, k * 10 + 7, none⟩ (.int .i64 x.ch)).setCell ⟨b, k * 10 + 8, none⟩ (.bool x.deb)).setCell ⟨b, k * 10 + 9, none⟩ (.bool x.intra)
theorem pArrSet_one (w : World) (b k : Nat) (x : PpsD) : OneBlk w (pArrSet w b k x) b := by
  unfold pArrSet
  exact ((((((((((OneBlk.refl w b).set _ _).set _ _).set _ _).set _ _).set _ _).set _ _).set _ _).set _ _).set _ _).set _ _
set_option maxHeartbeats 2000000 in
theorem pArrSet_blk {w : World} {b : Nat} {P : Nat → PpsD} (h : w.heap[b]? = some (pArr P)) (x : PpsD) {k : Nat} (hk : k < 4) : (pArrSet w b k x).heap[b]? = some (pArr (putAt P k x)) := by
  unfold pArr at h
  have h0 := setCell_blk h (k * 10) (.int .i64 x.id)
  have h1 := setCell_blk h0 (k * 10 + 1) (.int .i64 x.sps)
  have h2 := setCell_blk h1 (k * 10 + 2) (.bool x.cab)
  have h3 := setCell_blk h2 (k * 10 + 3) (.int .i64 x.refs)
  have h4 := setCell_blk h3 (k * 10 + 4) (.int .i64 x.refs1)
  have h5 := setCell_blk h4 (k * 10 + 5) (.int .i64 x.qp)
  have h6 := setCell_blk h5 (k * 10 + 6) (.int .i64 x.qs)
  have h7 := setCell_blk h6 (k * 10 + 7) (.int .i64 x.ch)
  have h8 := setCell_blk h7 (k * 10 + 8) (.bool x.deb)
  have h9 := setCell_blk h8 (k * 10 + 9) (.bool x.intra)
  have e : (pArrSet w b k x).heap[b]? = _ := h9
  rw [e]
  clear e h9 h8 h7 h6 h5 h4 h3 h2 h1 h0
  have : k = 0 ∨ k = 1 ∨ k = 2 ∨ k = 3 := by omega
  rcases this with rfl | rfl | rfl | rfl <;> simp only [Nat.zero_mul, Nat.one_mul, Nat.reduceMul, Nat.reduceAdd, Nat.zero_add, List.setIfInBounds_toArray, List.set_cons_zero, List.set_cons_succ, pArr, putAt, if_pos, if_neg, reduceIte, reduceCtorEq, Nat.reduceEqDiff, Nat.zero_ne_one, Nat.one_ne_zero]
def bArr (P : Nat → Bool) : Obj := .cells #[.bool (P 0), .bool (P 1), .bool (P 2), .bool (P 3)] 31 (0, 0)
theorem bArr_cells {w : World} {b : Nat} {P : Nat → Bool} (h : w.heap[b]? = some (bArr P)) {k : Nat} (hk : k < 4) : w.cell? ⟨b, k, none⟩ = some (.bool (P k)) := by
  unfold bArr at h
  revert hk
  refine fun hk => four (P := fun k => w.cell? ⟨b, k, none⟩ = some (.bool (P k))) ?_ ?_ ?_ ?_ hk <;> simp [World.cell?, h]
theorem bArr_free {w : World} {b : Nat} {P : Nat → Bool} (h : w.heap[b]? = some (bArr P)) (j : Nat) : w.frozen? ⟨b, j, none⟩ = false := by
  unfold bArr at h
  simp [World.frozen?, h]
theorem bArrSet_blk {w : World} {b : Nat} {P : Nat → Bool} (h : w.heap[b]? = some (bArr P)) (x : Bool) {k : Nat} (hk : k < 4) : (w.setCell ⟨b, k, none⟩ (.bool x)).heap[b]? = some (bArr (putAt P k x)) := by
  unfold bArr at h
  rw [setCell_blk h k (.bool x)]
  have : k = 0 ∨ k = 1 ∨ k = 2 ∨ k = 3 := by omega
  rcases this with rfl | rfl | rfl | rfl <;> simp [bArr, putAt]

end Go.Proofs.Ytakpafmhdgnlmaa
