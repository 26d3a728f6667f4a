/- Slices of the law's own: append, len, an element. -/
import Derived.Test.YtchoiimmcgkimaaDoorHp
import Derived.Test.YtchoiimmcgkimaaDoorProg
import Derived.Maps.AppendAt
import Derived.Deep.RegionLaw
namespace Go.Proofs.YtchoiimmcgkimaaDoor
open Go.RowKit
set_option linter.unusedVariables false
set_option maxRecDepth 100000
set_option linter.unusedSimpArgs false

/-- A slice value v of n elements, size cells each, in a block of its own (or nil). -/
def aSl (e : TypeId) (size : Nat) (v : Value) (n : Nat) (xs : List Value) : AObj where
  P w G := w.ownsRow 0 e size v n xs ∧ ∀ c, v.ownBlock = some c → G c
  loc := by
    intro w w' G G' hh hG h
    obtain ⟨⟨h1, h2⟩, h3⟩ := h
    refine ⟨⟨h1, ?_⟩, fun c hc => hG c (h3 c hc)⟩
    rcases h2 with h2 | ⟨g, cap, cur, rfl, hg, hh', r⟩
    · exact Or.inl h2
    · exact Or.inr ⟨g, cap, cur, rfl, hg, (hh g (h3 g rfl)).trans hh', r⟩

section
variable {W w w' : World} {L : List AObj} {F : List (Nat × Obj)} {e : TypeId} {size n : Nat} {v : Value} {xs : List Value}
theorem Hp.sl (h : Hp W w L F) (k : Nat) (hk : L[k]? = some (aSl e size v n xs)) : w.ownsRow 0 e size v n xs := by
  obtain ⟨_, o, _, _, _, hL⟩ := h
  exact (hL k _ hk).1
theorem Hp.sl_nil (h : Hp W w L F) (e : TypeId) (size : Nat) : Hp W w (aSl e size (.slice none 0 0) 0 [] :: L) F :=
  h.make (Below.refl _ _) ⟨⟨by simp, Or.inl ⟨rfl, rfl⟩⟩, fun c hc => by simp [Value.ownBlock] at hc⟩
theorem Hp.sl_grow (h : Hp W w L F) (k : Nat) (hk : L[k]? = some (aSl e size v n xs)) {v' : Value} {n' : Nat} {xs' : List Value} (h2 : w'.ownsRow 0 e size v' n' xs') (h3 : w.grownBy w' v.ownBlock)
    (h5 : v'.ownBlock = v.ownBlock ∨ v'.ownBlock = some w.heap.size) : Hp W w' (L.set k (aSl e size v' n' xs')) F := by
  obtain ⟨G, ⟨g1, g2⟩, hG, hx⟩ := h.turn k hk
  refine hx w' _ h3.os h3.tape h3.output h3.size (fun c hc hn => h3.block c hc (fun e => hn (g2 c e.symm))) ⟨h2, fun c hc => ?_⟩
  rcases h5 with h5 | h5
  · exact Or.inl (g2 c (h5 ▸ hc))
  · right
    rw [h5] at hc
    obtain rfl := Option.some.inj hc
    refine ⟨Nat.le_refl _, ?_⟩
    rcases h2.2 with ⟨rfl, _⟩ | ⟨g, cap, cur, rfl, _, hh, _⟩
    · simp [Value.ownBlock] at h5
    · simp [Value.ownBlock] at h5
      rw [← h5]
      exact lt_of_block hh
theorem Hp.sl_form (h : Hp W w L F) (k : Nat) (hk : L[k]? = some (aSl e size v n xs)) : ∃ sp cap, v = .slice sp n cap ∧ n ≤ maxLen ∧ cap ≤ maxLen := by
  rcases (h.sl k hk).2 with ⟨rfl, h0⟩ | ⟨g, cap, cur, rfl, hg, hh', h4, h5, r⟩
  · exact ⟨none, 0, by rw [h0], by omega, Nat.zero_le _⟩
  · exact ⟨_, cap, rfl, by omega, h5⟩
theorem Hp.sl_cell {sp : Option Addr} {cap : Nat} (h : Hp W w L F) (k : Nat) (hk : L[k]? = some (aSl e size (.slice sp n cap) n xs)) {i : Nat} {x : Value} (hx : xs[i]? = some x) :
    ∃ g, sp = some ⟨g, 0, none⟩ ∧ w.cell? ⟨g, i, none⟩ = some x := by
  obtain ⟨h1, h2⟩ := h.sl k hk
  rcases h2 with ⟨hv, h0⟩ | ⟨g, cap', cur, hv, hg, hh', h4, h5, h6, r⟩
  · rw [h0, Nat.zero_mul] at h1
    have := (List.getElem?_eq_some_iff.1 hx).1
    omega
  · have hv' := hv
    injection hv with a b c
    subst a
    refine ⟨g, rfl, ?_⟩
    have hi := (List.getElem?_eq_some_iff.1 hx).1
    rw [← r, List.getElem?_take] at hx
    split at hx
    · simp [World.cell?, hh', hx]
      simpa using hx
    · simp at hx
end

theorem Hp.sl_at {W w : World} {L : List AObj} {F : List (Nat × Obj)} {e : TypeId} {size n : Nat} {xs : List Value} {g cap : Nat} (h : Hp W w L F) (k : Nat) (hk : L[k]? = some (aSl e size (.slice (some ⟨g, 0, none⟩) n cap) n xs)) {i : Nat} {x : Value} (hx : xs[i]? = some x) : w.cell? ⟨g, i, none⟩ = some x := by
  obtain ⟨g', e, hc⟩ := h.sl_cell k hk hx
  simp at e
  rw [e]
  exact hc
theorem slice_addr {a : Addr} {g : Nat} (h : some a = some (⟨g, 0, none⟩ : Addr)) : a = ⟨g, 0, none⟩ := Option.some.inj h
/-- append of news to the k-th object. -/
theorem wpList_append_hp {W w : World} {L : List AObj} {F : List (Nat × Obj)} {ops : Array Oper} {rest : List Oper} {o : Oper} {a : Act} {Q : Exit → Act → World → Prop} (hgd : o.guard = none) (s x : Operand) (t : TypeId)
    (ho : o.op = .call { callee := .builtin .append, args := #[s, x], argTypes := #[t, t] })
    (e : TypeId) (i : TypeInfo) (z : Value) (size bytes : Nat) (ht : Tryd.prog.underlying t = some (.slice e)) (hi : Tryd.prog.info? e = some i) (hz : i.zero = some z)
    (hsize : i.size = size) (hby : i.bytes = bytes) (hzs : z.cells.size = size) (hsz : 0 < size)
    {v : Value} {n : Nat} {xs : List Value} (h : Hp W w L F) (k : Nat) (hk : L[k]? = some (aSl e size v n xs)) (hs : a.eval s = v)
    (ad : Addr) (m c : Nat) (news : List Value) (hx : a.eval x = .slice (some ad) m c) (hl : news.length = m * size) (hnews : ∀ j u, news[j]? = some u → w.cell? (ad.add j) = some u) (h1 : ∀ u ∈ news, u.oneCell' = true)
    (h63 : n + m ≤ maxLen) (hbytes : (n + m) * bytes ≤ 140737488355328)
    (hQ : ∀ v' w', Hp W w' (L.set k (aSl e size v' (n + m) (xs ++ news))) F → wpList Tryd.prog ops Q rest (a.put o.dst v') w') :
    wpList Tryd.prog ops Q (o :: rest) a w :=
  wpList_append_own_at w hgd s x t ho 0 e i z size bytes ht hi hz hsize hby hzs hsz v n xs hs (h.sl k hk) ad m c news hx hl hnews h1 h63 hbytes (Nat.zero_le _)
    fun v' w' h2 h3 _ h5 => hQ v' w' (h.sl_grow k hk h2 h3 h5)

/-- append of news to the k-th object, in a region that draws. -/
theorem step_append_hp {W w : World} {L : List AObj} {F : List (Nat × Obj)} {ops : Array Oper} {o : Oper} {a : Act} {K : Act → World → Prop} {Q : Exit → Act → World → Prop} {E : Prop} (hgd : o.guard = none) (s x : Operand) (t : TypeId)
    (ho : o.op = .call { callee := .builtin .append, args := #[s, x], argTypes := #[t, t] })
    (e : TypeId) (i : TypeInfo) (z : Value) (size bytes : Nat) (ht : Tryd.prog.underlying t = some (.slice e)) (hi : Tryd.prog.info? e = some i) (hz : i.zero = some z)
    (hsize : i.size = size) (hby : i.bytes = bytes) (hzs : z.cells.size = size) (hsz : 0 < size)
    {v : Value} {n : Nat} {xs : List Value} (h : Hp W w L F) (k : Nat) (hk : L[k]? = some (aSl e size v n xs)) (hs : a.eval s = v)
    (ad : Addr) (m c : Nat) (news : List Value) (hx : a.eval x = .slice (some ad) m c) (hl : news.length = m * size) (hnews : ∀ j u, news[j]? = some u → w.cell? (ad.add j) = some u) (h1 : ∀ u ∈ news, u.oneCell' = true)
    (h63 : n + m ≤ maxLen) (hbytes : (n + m) * bytes ≤ 140737488355328)
    (hK : ∀ v' w', Hp W w' (L.set k (aSl e size v' (n + m) (xs ++ news))) F → K (a.put o.dst v') w') :
    if Region.wanted o (yielded ops a.tmps) = true then Oper.wp Tryd.prog o a w K Q else E := by
  have hw : Region.wanted o (yielded ops a.tmps) = true := by simp [Region.wanted, hgd]
  rw [if_pos hw]
  obtain ⟨v', w', hr, h2, h3, h4, h5⟩ := run_append_own_at (P := Tryd.prog) w 0 t o.type e i z size bytes ht hi hz hsize hby hzs hsz v n xs (h.sl k hk) ad m c news hl hnews h1 h63 hbytes (Nat.zero_le _)
  unfold Oper.wp execOp
  simp only [ho, resolve, invoke, builtin, Sem.run_bind, Sem.run_pure, Result.andThen_ok, List.map_toArray, List.map_cons, List.map_nil, hs, hx, hr]
  exact hK v' w' (h.sl_grow k hk h2 h3 h5)

end Go.Proofs.YtchoiimmcgkimaaDoor
