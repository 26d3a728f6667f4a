/- Slices of acts. -/
import Derived.Test.YtakpafmhdgnlmaaSk
import Derived.ArgAppend
namespace Go.Proofs.Ytakpafmhdgnlmaa
open Go.RowKit
set_option linter.unusedVariables false
set_option maxRecDepth 100000
set_option linter.unusedSimpArgs false

structure ActD where
  (wh : Int) (s : SpsD) (p : PpsD) (id : Int)
@[reducible] def acs (a : ActD) : List Value := [.int .u8 a.wh, .int .u8 a.s.pr, .int .u8 a.s.fl, .int .u8 a.s.le, .int .i64 a.s.id, .int .i64 a.s.fb, .int .i64 a.s.pb, .int .i64 a.s.refs, .int .i64 a.s.w, .int .i64 a.s.h, .int .i64 a.p.id, .int .i64 a.p.sps, .bool a.p.cab, .int .i64 a.p.refs, .int .i64 a.p.refs1, .int .i64 a.p.qp, .int .i64 a.p.qs, .int .i64 a.p.ch, .bool a.p.deb, .bool a.p.intra, .int .i64 a.id]
def WfA (a : ActD) : Prop := (Lit.int .u8 a.wh).wf = true ∧ (Lit.int .u8 a.s.pr).wf = true ∧ (Lit.int .u8 a.s.fl).wf = true ∧ (Lit.int .u8 a.s.le).wf = true ∧ (Lit.int .i64 a.s.id).wf = true ∧ (Lit.int .i64 a.s.fb).wf = true ∧ (Lit.int .i64 a.s.pb).wf = true ∧ (Lit.int .i64 a.s.refs).wf = true ∧ (Lit.int .i64 a.s.w).wf = true ∧ (Lit.int .i64 a.s.h).wf = true ∧ (Lit.int .i64 a.p.id).wf = true ∧ (Lit.int .i64 a.p.sps).wf = true ∧ (Lit.int .i64 a.p.refs).wf = true ∧ (Lit.int .i64 a.p.refs1).wf = true ∧ (Lit.int .i64 a.p.qp).wf = true ∧ (Lit.int .i64 a.p.qs).wf = true ∧ (Lit.int .i64 a.p.ch).wf = true ∧ (Lit.int .i64 a.id).wf = true
def AKinds : List FK := [.int .u8, .int .u8, .int .u8, .int .u8, .int .i64, .int .i64, .int .i64, .int .i64, .int .i64, .int .i64, .int .i64, .int .i64, .bool, .int .i64, .int .i64, .int .i64, .int .i64, .int .i64, .bool, .bool, .int .i64]
theorem wfA_ok {a : ActD} (h : WfA a) (W : World) : AllOk Try.prog W [.int .u8, .int .u8, .int .u8, .int .u8, .int .i64, .int .i64, .int .i64, .int .i64, .int .i64, .int .i64, .int .i64, .int .i64, .bool, .int .i64, .int .i64, .int .i64, .int .i64, .int .i64, .bool, .bool, .int .i64] (acs a) := by
  obtain ⟨w0, w1, w2, w3, w4, w5, w6, w7, w8, w9, w10, w11, w12, w13, w14, w15, w16, w17⟩ := h
  exact ⟨⟨_, rfl, w0⟩, ⟨_, rfl, w1⟩, ⟨_, rfl, w2⟩, ⟨_, rfl, w3⟩, ⟨_, rfl, w4⟩, ⟨_, rfl, w5⟩, ⟨_, rfl, w6⟩, ⟨_, rfl, w7⟩, ⟨_, rfl, w8⟩, ⟨_, rfl, w9⟩, ⟨_, rfl, w10⟩, ⟨_, rfl, w11⟩, ⟨_, rfl⟩, ⟨_, rfl, w12⟩, ⟨_, rfl, w13⟩, ⟨_, rfl, w14⟩, ⟨_, rfl, w15⟩, ⟨_, rfl, w16⟩, ⟨_, rfl⟩, ⟨_, rfl⟩, ⟨_, rfl, w17⟩, True.intro⟩
theorem acs_one (a : ActD) : ∀ u ∈ acs a, u.oneCell' = true := by
  intro u hu
  simp only [acs, List.mem_cons, List.not_mem_nil, or_false] at hu
  rcases hu with rfl | rfl | rfl | rfl | rfl | rfl | rfl | rfl | rfl | rfl | rfl | rfl | rfl | rfl | rfl | rfl | rfl | rfl | rfl | rfl | rfl <;> rfl
theorem acs_all (l : List ActD) : ∀ u ∈ l.flatMap acs, u.oneCell' = true := by
  intro u hu
  obtain ⟨a, _, h⟩ := List.mem_flatMap.1 hu
  exact acs_one a u h
theorem acs_len (l : List ActD) : (l.flatMap acs).length = l.length * 21 := by
  induction l with
  | nil => rfl
  | cons a l ih => rw [List.flatMap_cons, List.length_append, ih]; simp only [acs, List.length_cons, List.length_nil]; omega
theorem acs_at {l : List ActD} {c : Nat} {x : ActD} (h : l[c]? = some x) (j : Nat) (hj : j < 21) : (l.flatMap acs)[c * 21 + j]? = (acs x)[j]? := flat_at acs 21 (fun _ => rfl) h j hj
theorem act_info2 : ∃ i : TypeInfo, ∃ z, Try.prog.info? 51 = some i ∧ i.zero = some z ∧ i.size = 21 ∧ i.bytes = 144 ∧ z.cells.size = 21 := by
  obtain ⟨i, h, h0, h1, h2⟩ := info_parts (show (Try.prog.info? 51).map (fun i => (i.zero, i.size, i.bytes)) = some (some (.agg #[.int .u8 0, .int .u8 0, .int .u8 0, .int .u8 0, .int .i64 0, .int .i64 0, .int .i64 0, .int .i64 0, .int .i64 0, .int .i64 0, .int .i64 0, .int .i64 0, .bool false, .int .i64 0, .int .i64 0, .int .i64 0, .int .i64 0, .int .i64 0, .bool false, .bool false, .int .i64 0]), 21, 144) by kernel_rfl)
  exact ⟨i, _, h, h0, h1, h2, rfl⟩

/-- A slice of acts somewhere in a block of its own. -/
def aSo (g off cap : Nat) (l : List ActD) : AObj where
  P w G := G g ∧ ∃ cur, w.heap[g]? = some (.cells cur 51 (0, 0)) ∧ off + cap * 21 ≤ cur.size ∧ l.length ≤ cap ∧ cap ≤ maxLen ∧ ∀ j u, (l.flatMap acs)[j]? = some u → cur[off + j]? = some u
  loc hh hG := fun ⟨h1, cur, h2, h3⟩ => ⟨hG _ h1, cur, (hh _ h1).trans h2, h3⟩
theorem Hp.so {W w : World} {L : List AObj} {F : List (Nat × Obj)} {g off cap : Nat} {l : List ActD} (h : Hp W w L F) (k : Nat) (hk : L[k]? = some (aSo g off cap l)) :
    ∃ cur, w.heap[g]? = some (.cells cur 51 (0, 0)) ∧ off + cap * 21 ≤ cur.size ∧ l.length ≤ cap ∧ cap ≤ maxLen ∧ ∀ j u, (l.flatMap acs)[j]? = some u → cur[off + j]? = some u := by
  obtain ⟨_, o, _, _, _, hL⟩ := h
  exact (hL k _ hk).2
theorem Hp.so_cell {W w : World} {L : List AObj} {F : List (Nat × Obj)} {g off cap : Nat} {l : List ActD} (h : Hp W w L F) (k : Nat) (hk : L[k]? = some (aSo g off cap l)) : ∀ j u, (l.flatMap acs)[j]? = some u → w.cell? ⟨g, off + j, none⟩ = some u := by
  obtain ⟨cur, h1, _, _, _, h2⟩ := h.so k hk
  intro j u hu
  simp [World.cell?, h1, h2 j u hu]
theorem Hp.so_rows {W w : World} {L : List AObj} {F : List (Nat × Obj)} {g off cap : Nat} {l : List ActD} (h : Hp W w L F) (k : Nat) (hk : L[k]? = some (aSo g off cap l)) (hwf : ∀ a ∈ l, WfA a) (c : Nat) (hc : c ≤ l.length) :
    RowsIn Try.prog w [.int .u8, .int .u8, .int .u8, .int .u8, .int .i64, .int .i64, .int .i64, .int .i64, .int .i64, .int .i64, .int .i64, .int .i64, .bool, .int .i64, .int .i64, .int .i64, .int .i64, .int .i64, .bool, .bool, .int .i64] (some ⟨g, off + c * 21, none⟩) (l.length - c) g (off + c * 21) (fun i => ((l[c + i]?).map acs).getD []) := by
  obtain ⟨cur, h1, _⟩ := h.so k hk
  have hlt := lt_of_block h1
  refine ⟨fun _ => ⟨rfl, hlt⟩, fun i j hi hj => ?_, fun i hi => ?_⟩
  · obtain ⟨x, hx⟩ : ∃ x, l[c + i]? = some x := ⟨l[c + i]'(by omega), List.getElem?_eq_getElem _⟩
    simp only [hx, Option.map_some, Option.getD_some]
    have hj' : j < 21 := hj
    have e := acs_at hx j hj'
    obtain ⟨u, hu⟩ : ∃ u, (acs x)[j]? = some u := ⟨(acs x)[j]'hj', List.getElem?_eq_getElem _⟩
    rw [hu] at e ⊢
    have := h.so_cell k hk _ _ e
    rw [← this]
    congr 2
    show off + c * 21 + i * 21 + j = off + ((c + i) * 21 + j)
    omega
  · obtain ⟨x, hx⟩ : ∃ x, l[c + i]? = some x := ⟨l[c + i]'(by omega), List.getElem?_eq_getElem _⟩
    simp only [hx, Option.map_some, Option.getD_some]
    exact wfA_ok (hwf x (List.mem_of_getElem? hx)) w
/-- A slice from the law's own appends, as one that lies somewhere. -/
theorem Hp.so_of {W w : World} {L : List AObj} {F : List (Nat × Obj)} {v : Value} {l : List ActD} (h : Hp W w L F) (k : Nat) (hk : L[k]? = some (aSl 51 21 v l.length (l.flatMap acs))) (hn : 0 < l.length) :
    ∃ g cap, v = .slice (some ⟨g, 0, none⟩) l.length cap ∧ l.length ≤ cap ∧ Hp W w (L.set k (aSo g 0 cap l)) F := by
  obtain ⟨G, ⟨⟨o1, o2⟩, o3⟩, hG, hx⟩ := h.turn k hk
  rcases o2 with ⟨_, e0⟩ | ⟨g, cap, cur, rfl, hg, hh, h4, h5, h6, h7⟩
  · omega
  · refine ⟨g, cap, rfl, h4, hx w _ rfl rfl rfl (Nat.le_refl _) (fun _ _ _ => rfl) ⟨Or.inl (o3 g rfl), cur, hh, by omega, h4, h5, fun j u hu => ?_⟩⟩
    rw [← h7, List.getElem?_take] at hu
    split at hu
    · simpa using hu
    · cases hu

end Go.Proofs.Ytakpafmhdgnlmaa
