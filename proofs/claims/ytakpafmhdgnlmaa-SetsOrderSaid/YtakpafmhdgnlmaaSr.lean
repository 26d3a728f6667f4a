/- The order of puts: plain facts; a slice of puts in a block of its own. -/
import Derived.Test.YtakpafmhdgnlmaaSn
namespace Go.Proofs.Ytakpafmhdgnlmaa
open Go.RowKit
set_option linter.unusedVariables false
set_option maxRecDepth 100000
set_option linter.unusedSimpArgs false

structure PutD where
  (pb : Bool) (i o : Int)
abbrev StD := (Int → Option SpsD) × (Int → Option PpsD)
def st1 (x : PutD) (s : StD) : StD := (stS x.pb x.i x.o s.1, stP x.pb x.i x.o s.2)
def run1 (l : List PutD) : StD := l.foldl (fun s x => st1 x s) (F0, G0)
theorem run1_take {l : List PutD} {c : Nat} {x : PutD} (h : l[c]? = some x) : run1 (l.take (c + 1)) = st1 x (run1 (l.take c)) := by
  obtain ⟨hc, hx⟩ := List.getElem?_eq_some_iff.1 h
  rw [List.take_succ_eq_append_getElem hc, hx]
  unfold run1
  rw [List.foldl_append]
  rfl
theorem upd_upd {α : Type} (f : Int → Option α) (k : Int) (x y : α) : upd (upd f k x) k y = upd f k y := by
  funext j
  unfold upd
  split <;> rfl
theorem upd_comm {α : Type} (f : Int → Option α) {k j : Int} (h : k ≠ j) (x y : α) : upd (upd f k x) j y = upd (upd f j y) k x := by
  funext i
  unfold upd
  by_cases h1 : i = j
  · subst h1
    rw [if_pos rfl, if_neg (fun e => h e.symm), if_pos rfl]
  · rw [if_neg h1]
    by_cases h2 : i = k
    · rw [if_pos h2, if_pos h2]
    · rw [if_neg h2, if_neg h2, if_neg h1]
theorem st1_idem (x : PutD) (s : StD) : st1 x (st1 x s) = st1 x s := by
  unfold st1 stS stP
  cases x.pb
  · simp only [Bool.false_eq_true, if_false, upd_upd]
  · simp only [if_true, upd_upd]
theorem st1_comm (a b : PutD) (s : StD) (h : a.pb ≠ b.pb ∨ a.i % 4 ≠ b.i % 4) : st1 a (st1 b s) = st1 b (st1 a s) := by
  unfold st1 stS stP
  cases ha : a.pb <;> cases hb : b.pb <;> simp only [Bool.false_eq_true, if_false, if_true]
  · rw [upd_comm _ (by rw [ha, hb] at h; simpa using fun e => h.elim (fun x => x rfl) (fun x => x e.symm))]
  · rw [upd_comm _ (by rw [ha, hb] at h; simpa using fun e => h.elim (fun x => x rfl) (fun x => x e.symm))]
def swp (l : List PutD) (k : Nat) (a b : PutD) : List PutD := (l.set k b).set (k + 1) a
theorem swp_length (l : List PutD) (k : Nat) (a b : PutD) : (swp l k a b).length = l.length := by simp [swp]
theorem run1_swp {l : List PutD} {k : Nat} {a b : PutD} (ha : l[k]? = some a) (hb : l[k + 1]? = some b) (h : a.pb ≠ b.pb ∨ a.i % 4 ≠ b.i % 4) : run1 (swp l k a b) = run1 l := by
  obtain ⟨h1, ea⟩ := List.getElem?_eq_some_iff.1 ha
  obtain ⟨h2, eb⟩ := List.getElem?_eq_some_iff.1 hb
  have e1 : l = l.take k ++ a :: b :: l.drop (k + 2) := by
    conv => lhs; rw [← List.take_append_drop k l]
    rw [List.drop_eq_getElem_cons h1, List.drop_eq_getElem_cons h2, ea, eb]
  have e2 : swp l k a b = l.take k ++ b :: a :: l.drop (k + 2) := by
    unfold swp
    have hk : (l.take k).length = k := by simp; omega
    conv => lhs; rw [e1]
    rw [List.set_append_right _ _ (by omega), hk, Nat.sub_self, List.set_cons_zero, List.set_append_right _ _ (by omega), hk, show k + 1 - k = 1 by omega, List.set_cons_succ, List.set_cons_zero]
  conv => rhs; rw [e1]
  rw [e2]
  unfold run1
  simp only [List.foldl_append, List.foldl_cons]
  rw [st1_comm a b _ h]

@[reducible] def qcs (x : PutD) : List Value := [.bool x.pb, .int .i64 x.i, .int .i64 x.o]
theorem qcs_one (l : List PutD) : ∀ u ∈ l.flatMap qcs, u.oneCell' = true := by
  intro u hu
  obtain ⟨a, _, h⟩ := List.mem_flatMap.1 hu
  simp only [qcs, List.mem_cons, List.not_mem_nil, or_false] at h
  rcases h with rfl | rfl | rfl <;> rfl
theorem qcs_len (l : List PutD) : (l.flatMap qcs).length = l.length * 3 := by
  induction l with
  | nil => rfl
  | cons a l ih => rw [List.flatMap_cons, List.length_append, ih]; simp only [qcs, List.length_cons, List.length_nil]; omega
theorem qcs_at {l : List PutD} {c : Nat} {x : PutD} (h : l[c]? = some x) (j : Nat) (hj : j < 3) : (l.flatMap qcs)[c * 3 + j]? = (qcs x)[j]? := flat_at qcs 3 (fun _ => rfl) h j hj

/-- A slice of puts in a block of its own. -/
def aPo (g : Nat) (l : List PutD) : AObj where
  P w G := G g ∧ ∃ cur : Array Value, w.heap[g]? = some (.cells cur 35 (0, 0)) ∧ l.length * 3 ≤ cur.size ∧ ∀ (c : Nat) (x : PutD), l[c]? = some x → cur[c * 3]? = some (.bool x.pb) ∧ cur[c * 3 + 1]? = some (.int .i64 x.i) ∧ cur[c * 3 + 2]? = some (.int .i64 x.o)
  loc hh hG := fun ⟨h1, cur, h2, h3⟩ => ⟨hG _ h1, cur, (hh _ h1).trans h2, h3⟩
section
variable {W w w' : World} {L : List AObj} {F : List (Nat × Obj)} {g : Nat} {l : List PutD}
theorem Hp.po (h : Hp W w L F) (k : Nat) (hk : L[k]? = some (aPo g l)) : ∃ cur : Array Value, w.heap[g]? = some (.cells cur 35 (0, 0)) ∧ l.length * 3 ≤ cur.size ∧ ∀ (c : Nat) (x : PutD), l[c]? = some x → cur[c * 3]? = some (.bool x.pb) ∧ cur[c * 3 + 1]? = some (.int .i64 x.i) ∧ cur[c * 3 + 2]? = some (.int .i64 x.o) := by
  obtain ⟨_, o, _, _, _, hL⟩ := h
  exact (hL k _ hk).2
theorem Hp.po_cells (h : Hp W w L F) (k : Nat) (hk : L[k]? = some (aPo g l)) {c : Nat} {x : PutD} (hx : l[c]? = some x) :
    (w.cell? ⟨g, c * 3, none⟩ = some (.bool x.pb) ∧ w.cell? ⟨g, c * 3 + 1, none⟩ = some (.int .i64 x.i) ∧ w.cell? ⟨g, c * 3 + 2, none⟩ = some (.int .i64 x.o)) ∧ ∀ j, w.frozen? ⟨g, j, none⟩ = false := by
  obtain ⟨cur, h1, _, h2⟩ := h.po k hk
  obtain ⟨q0, q1, q2⟩ := h2 c x hx
  exact ⟨⟨by simp [World.cell?, h1, q0], by simp [World.cell?, h1, q1], by simp [World.cell?, h1, q2]⟩, fun j => by simp [World.frozen?, h1]⟩
theorem Hp.po_of {v : Value} (h : Hp W w L F) (k : Nat) (hk : L[k]? = some (aSl 35 3 v l.length (l.flatMap qcs))) (hn : 0 < l.length) :
    ∃ g cap, v = .slice (some ⟨g, 0, none⟩) l.length cap ∧ l.length ≤ cap ∧ Hp W w (L.set k (aPo g l)) F := by
  obtain ⟨G, ⟨⟨o1, o2⟩, o3⟩, hG, hx⟩ := h.turn k hk
  rcases o2 with ⟨_, e0⟩ | ⟨g, cap, cur, rfl, hg, hh, h4, h5, h6, h7⟩
  · omega
  · have hat : ∀ (j : Nat) (u : Value), (l.flatMap qcs)[j]? = some u → cur[j]? = some u := by
      intro j u hu
      rw [← h7, List.getElem?_take] at hu
      split at hu
      · simpa using hu
      · cases hu
    refine ⟨g, cap, rfl, h4, hx w _ rfl rfl rfl (Nat.le_refl _) (fun _ _ _ => rfl) ⟨Or.inl (o3 g rfl), cur, hh, by omega, fun c x hc => ⟨?_, ?_, ?_⟩⟩⟩
    · exact hat _ _ (qcs_at hc 0 (by decide))
    · exact hat _ _ (qcs_at hc 1 (by decide))
    · exact hat _ _ (qcs_at hc 2 (by decide))
theorem arr_get (cur : Array Value) (i : Nat) (v : Value) (hi : i < cur.size) (j : Nat) : (cur.setIfInBounds i v)[j]? = if i = j then some v else cur[j]? := by
  rw [Array.getElem?_setIfInBounds]
  by_cases h : i = j
  · rw [if_pos h, if_pos h, if_pos (by omega)]
  · rw [if_neg h, if_neg h]
theorem arr6 (cur : Array Value) (k : Nat) (hs : (k + 2) * 3 ≤ cur.size) (v0 v1 v2 v3 v4 v5 : Value) (j : Nat) :
    ((((((cur.setIfInBounds (k * 3) v0).setIfInBounds (k * 3 + 1) v1).setIfInBounds (k * 3 + 2) v2).setIfInBounds ((k + 1) * 3) v3).setIfInBounds ((k + 1) * 3 + 1) v4).setIfInBounds ((k + 1) * 3 + 2) v5)[j]? =
      if (k + 1) * 3 + 2 = j then some v5 else if (k + 1) * 3 + 1 = j then some v4 else if (k + 1) * 3 = j then some v3 else if k * 3 + 2 = j then some v2 else if k * 3 + 1 = j then some v1 else if k * 3 = j then some v0 else cur[j]? := by
  rw [arr_get _ _ _ (by simp; omega), arr_get _ _ _ (by simp; omega), arr_get _ _ _ (by simp; omega), arr_get _ _ _ (by simp; omega), arr_get _ _ _ (by simp; omega), arr_get _ _ _ (by omega)]
theorem arr6_new (cur : Array Value) (k : Nat) (hs : (k + 2) * 3 ≤ cur.size) (v0 v1 v2 v3 v4 v5 : Value) {c : Array Value} (hc : c = (((((cur.setIfInBounds (k * 3) v0).setIfInBounds (k * 3 + 1) v1).setIfInBounds (k * 3 + 2) v2).setIfInBounds ((k + 1) * 3) v3).setIfInBounds ((k + 1) * 3 + 1) v4).setIfInBounds ((k + 1) * 3 + 2) v5) :
    (c[(k + 1) * 3]? = some v3 ∧ c[(k + 1) * 3 + 1]? = some v4 ∧ c[(k + 1) * 3 + 2]? = some v5) ∧ (c[k * 3]? = some v0 ∧ c[k * 3 + 1]? = some v1 ∧ c[k * 3 + 2]? = some v2) ∧ ∀ j, j ≠ k → j ≠ k + 1 → ∀ r, r < 3 → c[j * 3 + r]? = cur[j * 3 + r]? := by
  subst hc
  refine ⟨⟨?_, ?_, ?_⟩, ⟨?_, ?_, ?_⟩, fun j h1 h2 r hr => ?_⟩ <;> rw [arr6 cur k hs] <;> (repeat (first | rw [if_pos (by first | trivial | omega)] | rw [if_neg (by omega)]))
/-- Two elements change places. -/
def poSwap (w : World) (g k : Nat) (a b : PutD) : World :=
  (((((w.setCell ⟨g, k * 3, none⟩ (.bool b.pb)).setCell ⟨g, k * 3 + 1, none⟩ (.int .i64 b.i)).setCell ⟨g, k * 3 + 2, none⟩ (.int .i64 b.o)).setCell ⟨g, (k + 1) * 3, none⟩ (.bool a.pb)).setCell ⟨g, (k + 1) * 3 + 1, none⟩ (.int .i64 a.i)).setCell ⟨g, (k + 1) * 3 + 2, none⟩ (.int .i64 a.o)
theorem Hp.po_swap (h : Hp W w L F) (n : Nat) (hn : L[n]? = some (aPo g l)) {k : Nat} {a b : PutD} (ha : l[k]? = some a) (hb : l[k + 1]? = some b) : Hp W (poSwap w g k a b) (L.set n (aPo g (swp l k a b))) F := by
  obtain ⟨G, ⟨g1, cur, h1, h2, h3⟩, hG, hx⟩ := h.turn n hn
  have hl := (List.getElem?_eq_some_iff.1 hb).1
  have one : OneBlk w (poSwap w g k a b) g := by
    unfold poSwap
    exact ((((((OneBlk.refl w g).set _ _).set _ _).set _ _).set _ _).set _ _).set _ _
  have hc := setCell_blk (setCell_blk (setCell_blk (setCell_blk (setCell_blk (setCell_blk h1 (k * 3) (.bool b.pb)) (k * 3 + 1) (.int .i64 b.i)) (k * 3 + 2) (.int .i64 b.o)) ((k + 1) * 3) (.bool a.pb)) ((k + 1) * 3 + 1) (.int .i64 a.i)) ((k + 1) * 3 + 2) (.int .i64 a.o)
  refine hx _ _ one.os one.tape one.output (Nat.le_of_eq one.size.symm) (fun c hc' hn' => one.same c (fun e => hn' (e ▸ g1))) ⟨Or.inl g1, _, hc, by rw [swp_length]; simpa using h2, fun c x hcx => ?_⟩
  have hlen := (List.getElem?_eq_some_iff.1 hcx).1
  rw [swp_length] at hlen
  unfold swp at hcx
  obtain ⟨⟨n3, n4, n5⟩, ⟨n0, n1, n2⟩, nj⟩ := arr6_new cur k (by omega) (.bool b.pb) (.int .i64 b.i) (.int .i64 b.o) (.bool a.pb) (.int .i64 a.i) (.int .i64 a.o) rfl
  by_cases e1 : c = k + 1
  · subst e1
    rw [List.getElem?_set_self (by simpa using hl)] at hcx
    obtain rfl := Option.some.inj hcx
    exact ⟨n3, n4, n5⟩
  · rw [List.getElem?_set_ne (fun e => e1 e.symm)] at hcx
    by_cases e2 : c = k
    · subst e2
      rw [List.getElem?_set_self (by omega)] at hcx
      obtain rfl := Option.some.inj hcx
      exact ⟨n0, n1, n2⟩
    · rw [List.getElem?_set_ne (fun e => e2 e.symm)] at hcx
      obtain ⟨q0, q1, q2⟩ := h3 c x hcx
      exact ⟨(nj c e2 e1 0 (by decide)).trans q0, (nj c e2 e1 1 (by decide)).trans q1, (nj c e2 e1 2 (by decide)).trans q2⟩
end

end Go.Proofs.Ytakpafmhdgnlmaa
