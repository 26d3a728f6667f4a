/- append to a slice of acts that lies somewhere. -/
import Derived.Test.YtakpafmhdgnlmaaSm
namespace Go.Proofs.Ytakpafmhdgnlmaa
open Go.RowKit
set_option linter.unusedVariables false
set_option maxRecDepth 100000
set_option linter.unusedSimpArgs false

theorem setCells_row {t : TypeId} (g : Nat) : ∀ (vs : List Value) (o : Nat) (w : World) (cur : Array Value), w.heap[g]? = some (.cells cur t (0, 0)) → o + vs.length ≤ cur.size →
    OneBlk w (w.setCells g o vs) g ∧ ∃ cur' : Array Value, (w.setCells g o vs).heap[g]? = some (.cells cur' t (0, 0)) ∧ cur'.size = cur.size ∧ (∀ j, j < o → cur'[j]? = cur[j]?) ∧ ∀ (j : Nat) (u : Value), vs[j]? = some u → cur'[o + j]? = some u
  | [], o, w, cur, h, hs => ⟨OneBlk.refl _ _, cur, h, rfl, fun _ _ => rfl, fun j u hu => by simp at hu⟩
  | v :: vs, o, w, cur, h, hs => by
    simp only [List.length_cons] at hs
    have h1 := setCell_blk h o v
    obtain ⟨a, cur', b1, b2, b3, b4⟩ := setCells_row g vs (o + 1) _ _ h1 (by simp; omega)
    refine ⟨?_, cur', b1, by rw [b2]; simp, fun j hj => ?_, fun j u hu => ?_⟩
    · have c := (OneBlk.refl w g).set o v
      exact ⟨a.os.trans c.os, a.tape.trans c.tape, a.output.trans c.output, a.size.trans c.size, fun x hx => (a.same x hx).trans (c.same x hx)⟩
    · rw [b3 j (by omega), Array.getElem?_setIfInBounds, if_neg (by omega)]
    · cases j with
      | zero =>
        simp at hu
        subst hu
        rw [Nat.add_zero, b3 o (by omega), Array.getElem?_setIfInBounds, if_pos rfl, if_pos (by omega)]
      | succ j =>
        have := b4 j u (by simpa using hu)
        rwa [show o + 1 + j = o + (j + 1) by omega] at this

set_option maxHeartbeats 1000000 in
theorem wpList_append_so {W w : World} {L : List AObj} {F : List (Nat × Obj)} {ops : Array Oper} {rest : List Oper} {o : Oper} {a : Act} {Q : Exit → Act → World → Prop} (hgd : o.guard = none) (s x : Operand) (t : TypeId)
    (ho : o.op = .call { callee := .builtin .append, args := #[s, x], argTypes := #[t, t] }) (ht : Try.prog.underlying t = some (.slice 51))
    {g off cap : Nat} {l : List ActD} (h : Hp W w L F) (k : Nat) (hk : L[k]? = some (aSo g off cap l)) (c : Nat) (hc : c < l.length) (h63 : l.length ≤ 1000)
    (hs : a.eval s = .slice (some ⟨g, off + c * 21, none⟩) (l.length - c) (cap - c)) (hx : a.eval x = .slice (some ⟨g, off, none⟩) l.length cap)
    (hQ : ∀ g' off' cap' w', (l.drop c ++ l).length ≤ cap' → Hp W w' (L.set k (aSo g' off' cap' (l.drop c ++ l))) F → wpList Try.prog ops Q rest (a.put o.dst (.slice (some ⟨g', off', none⟩) (l.drop c ++ l).length cap')) w') :
    wpList Try.prog ops Q (o :: rest) a w := by
  obtain ⟨i, z, h2, h3, h4, h5, h6⟩ := act_info2
  obtain ⟨cur, e1, e2, e3, e4, e5⟩ := h.so k hk
  have hln : (l.drop c ++ l).length = l.length - c + l.length := by simp
  have hfl : ((l.drop c ++ l).flatMap acs) = (l.drop c).flatMap acs ++ l.flatMap acs := List.flatMap_append
  have hold : ∀ j u, ((l.drop c).flatMap acs)[j]? = some u → (l.flatMap acs)[c * 21 + j]? = some u := by
    intro j u hu
    have hsplit : l.flatMap acs = (l.take c).flatMap acs ++ (l.drop c).flatMap acs := by rw [← List.flatMap_append, List.take_append_drop]
    rw [hsplit, List.getElem?_append_right (by rw [acs_len, List.length_take]; omega), acs_len, List.length_take, show c * 21 + j - min c l.length * 21 = j by rw [Nat.min_eq_left (by omega)]; omega]
    exact hu
  refine wpList_append_arg w hgd s x t ho 51 i z 21 144 ht h2 h3 h4 h5 h6 (by decide) g (off + c * 21) (l.length - c) (cap - c) ((l.drop c).flatMap acs) hs (by rw [acs_len]; simp) (fun j u hu => by have := h.so_cell k hk _ _ (hold j u hu); rwa [← Nat.add_assoc] at this)
    ⟨g, off, none⟩ l.length cap (l.flatMap acs) hx (acs_len l) (fun j u hu => by rw [addr_off]; exact h.so_cell k hk j u hu) (acs_all l) (fun hr j hj => ?_) (by unfold maxLen; omega) (by omega) (fun hr => ?_) (fun hr v' w' hown hgw => ?_)
  · rw [acs_len] at hj
    have hjs : off + c * 21 + (l.length - c) * 21 + j < cur.size := by omega
    refine ⟨?_, by simp [World.frozen?, e1]⟩
    simp [World.cell?, e1, Array.getElem?_eq_getElem hjs]
  · rw [← hln]
    have hbnd : off + c * 21 + (l.length - c) * 21 + (l.flatMap acs).length ≤ cur.size := by rw [acs_len]; omega
    obtain ⟨q1, cur', q2, q3, q4, q5⟩ := setCells_row g (l.flatMap acs) (off + c * 21 + (l.length - c) * 21) w cur e1 hbnd
    refine hQ g (off + c * 21) (cap - c) _ (by omega) ?_
    obtain ⟨G, ⟨g1, _⟩, hG, hturn⟩ := h.turn k hk
    refine hturn _ _ q1.os q1.tape q1.output (Nat.le_of_eq q1.size.symm) (fun b hb hn => q1.same b (fun e => hn (e ▸ g1))) ⟨Or.inl g1, cur', q2, by omega, by omega, by omega, fun j u hu => ?_⟩
    rw [hfl, List.getElem?_append] at hu
    have hdl : ((l.drop c).flatMap acs).length = (l.length - c) * 21 := by rw [acs_len]; simp
    split at hu
    · rename_i hlt
      rw [hdl] at hlt
      rw [q4 _ (by omega), Nat.add_assoc]
      exact e5 _ _ (hold j u hu)
    · rename_i hge
      rw [hdl] at hu hge
      have := q5 _ u hu
      rwa [show off + c * 21 + (l.length - c) * 21 + (j - (l.length - c) * 21) = off + c * 21 + j by omega] at this
  · obtain ⟨r1, r2⟩ := hown
    rcases r2 with ⟨_, e0⟩ | ⟨g', cap', cu, rfl, hg', hh', p4, p5, p6, p7⟩
    · omega
    · rw [← hln] at p4 p7 r1 ⊢
      refine hQ g' 0 cap' _ p4 ?_
      obtain ⟨G, _, hG, hturn⟩ := h.turn k hk
      refine hturn _ _ hgw.os hgw.tape hgw.output hgw.size (fun b hb _ => hgw.block b hb (by simp)) ⟨Or.inr ⟨hg', lt_of_block hh'⟩, cu, hh', by omega, p4, p5, fun j u hu => ?_⟩
      rw [hfl, ← p7, List.getElem?_take] at hu
      split at hu
      · simpa using hu
      · cases hu

end Go.Proofs.Ytakpafmhdgnlmaa
