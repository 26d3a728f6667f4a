/- Pieces of PpsExamples: a slice of parameter sets; a string's bytes, one turned. -/
import Derived.Test.YtkaoeilijdeioaaZd
import Derived.Test.YtkaoeilijdeioaaZe
import Derived.Test.YtkaoeilijdeioaaYu
import Derived.Laws.IdiomStrings
import Derived.Laws.BitsAllLaws
namespace Go.Proofs.Ytkaoeilijdeioaa
open Go.RowKit
set_option linter.unusedVariables false
set_option maxRecDepth 100000
set_option linter.unusedSimpArgs false

theorem u8_mod (x : Int) : ∃ k : Nat, IntKind.u8.wrap x = (k : Int) ∧ k < 256 := by
  obtain ⟨k, h1, h2⟩ := emod_nat x 256 (by omega)
  exact ⟨k, by rw [IntKind.wrap_u8]; exact h1, h2⟩
def pCs (x : PpsD) : List Value := [.int .i64 x.id, .int .i64 x.sps, .bool x.cab, .int .i64 x.refs, .int .i64 x.refs1, .int .i64 x.qp, .int .i64 x.qs, .int .i64 x.ch, .bool x.deb, .bool x.intra]
def lOb (xs : List PpsD) : Obj := .cells (xs.flatMap pCs).toArray 23 (0, 0)
theorem pCs_at : ∀ (xs : List PpsD) (k : Nat) (x : PpsD), xs[k]? = some x → ∀ (j : Nat) (v : Value), (pCs x)[j]? = some v → (xs.flatMap pCs)[k * 10 + j]? = some v
  | [], k, x, h, j, v, hv => by simp at h
  | y :: ys, 0, x, h, j, v, hv => by
    simp at h
    subst h
    rw [List.flatMap_cons, Nat.zero_mul, Nat.zero_add, List.getElem?_append_left]
    · exact hv
    · exact (List.getElem?_eq_some_iff.1 hv).1
  | y :: ys, k + 1, x, h, j, v, hv => by
    simp only [List.getElem?_cons_succ] at h
    have := pCs_at ys k x h j v hv
    rw [List.flatMap_cons, List.getElem?_append_right (by show 10 ≤ _; omega)]
    have e : (k + 1) * 10 + j - (pCs y).length = k * 10 + j := by show (k + 1) * 10 + j - 10 = _; omega
    rw [e]
    exact this
theorem lOb_cells {w : World} {q : Nat} {xs : List PpsD} (h : w.heap[q]? = some (lOb xs)) {k : Nat} {x : PpsD} (hk : xs[k]? = some x) :
    w.cell? ⟨q, k * 10, none⟩ = some (.int .i64 x.id) ∧ w.cell? ⟨q, k * 10 + 1, none⟩ = some (.int .i64 x.sps) ∧ w.cell? ⟨q, k * 10 + 2, none⟩ = some (.bool x.cab) ∧ w.cell? ⟨q, k * 10 + 3, none⟩ = some (.int .i64 x.refs) ∧ w.cell? ⟨q, k * 10 + 4, none⟩ = some (.int .i64 x.refs1) ∧ w.cell? ⟨q, k * 10 + 5, none⟩ = some (.int .i64 x.qp) ∧ w.cell? ⟨q, k * 10 + 6, none⟩ = some (.int .i64 x.qs) ∧ w.cell? ⟨q, k * 10 + 7, none⟩ = some (.int .i64 x.ch) ∧ w.cell? ⟨q, k * 10 + 8, none⟩ = some (.bool x.deb) ∧ w.cell? ⟨q, k * 10 + 9, none⟩ = some (.bool x.intra) := by
  have hb : ∀ j v, (pCs x)[j]? = some v → w.cell? ⟨q, k * 10 + j, none⟩ = some v := by
    intro j v hv
    have e := pCs_at xs k x hk j v hv
    unfold World.cell?
    rw [h]
    show (xs.flatMap pCs).toArray[k * 10 + j]? = some v
    rw [List.getElem?_toArray]
    exact e
  exact ⟨hb 0 _ rfl, hb 1 _ rfl, hb 2 _ rfl, hb 3 _ rfl, hb 4 _ rfl, hb 5 _ rfl, hb 6 _ rfl, hb 7 _ rfl, hb 8 _ rfl, hb 9 _ rfl⟩
theorem lOb_free {w : World} {q : Nat} {xs : List PpsD} (h : w.heap[q]? = some (lOb xs)) (k : Nat) : w.frozen? ⟨q, k, none⟩ = false := by
  unfold World.frozen?
  rw [h]
  simp [lOb]
/-- A field of one element is stored. -/
theorem flat_set : ∀ (xs : List PpsD) (k : Nat) (x x' : PpsD), xs[k]? = some x → ∀ (j : Nat) (v : Value), j < 10 → pCs x' = (pCs x).set j v → (xs.flatMap pCs).set (k * 10 + j) v = (xs.set k x').flatMap pCs
  | [], k, x, x', h, j, v, hj, hv => by simp at h
  | y :: ys, 0, x, x', h, j, v, hj, hv => by
    simp at h
    subst h
    rw [List.flatMap_cons, Nat.zero_mul, Nat.zero_add, List.set_append_left _ _ (by show j < 10; exact hj), List.set_cons_zero, List.flatMap_cons, hv]
  | y :: ys, k + 1, x, x', h, j, v, hj, hv => by
    simp only [List.getElem?_cons_succ] at h
    have := flat_set ys k x x' h j v hj hv
    rw [List.flatMap_cons, List.set_append_right _ _ (by show 10 ≤ _; omega), List.set_cons_succ, List.flatMap_cons]
    have e : (k + 1) * 10 + j - (pCs y).length = k * 10 + j := by show (k + 1) * 10 + j - 10 = _; omega
    rw [e, this]
theorem Hp.lTurn {W w : World} {L : List AObj} {F : List (Nat × Obj)} {q : Nat} {xs : List PpsD} (h : Hp W w L ((q, lOb xs) :: F)) {k : Nat} {x : PpsD} (hk : xs[k]? = some x) (x' : PpsD) (j : Nat) (v : Value) (hj : j < 10) (hv : pCs x' = (pCs x).set j v) :
    Hp W (w.setCell ⟨q, k * 10 + j, none⟩ v) L ((q, lOb (xs.set k x')) :: F) := by
  have := h.set 0 rfl (k * 10 + j) v
  rw [List.set_cons_zero, List.setIfInBounds_toArray, flat_set xs k x x' hk j v hj hv] at this
  exact this
theorem Hp.l3 {W w : World} {L : List AObj} {F : List (Nat × Obj)} {q : Nat} {xs : List PpsD} (h : Hp W w L ((q, lOb xs) :: F)) {k : Nat} {x : PpsD} (hk : xs[k]? = some x) (c d e : Bool) :
    Hp W (((w.setCell ⟨q, k * 10 + 2, none⟩ (.bool c)).setCell ⟨q, k * 10 + 8, none⟩ (.bool d)).setCell ⟨q, k * 10 + 9, none⟩ (.bool e)) L ((q, lOb (xs.set k ⟨x.id, x.sps, c, x.refs, x.refs1, x.qp, x.qs, x.ch, d, e⟩)) :: F) := by
  have hl := (List.getElem?_eq_some_iff.1 hk).1
  have h1 := h.lTurn hk ⟨x.id, x.sps, c, x.refs, x.refs1, x.qp, x.qs, x.ch, x.deb, x.intra⟩ 2 (.bool c) (by omega) rfl
  have h2 := h1.lTurn (List.getElem?_set_self hl) ⟨x.id, x.sps, c, x.refs, x.refs1, x.qp, x.qs, x.ch, d, x.intra⟩ 8 (.bool d) (by omega) rfl
  have h3 := h2.lTurn (List.getElem?_set_self (by rw [List.length_set]; exact hl)) ⟨x.id, x.sps, c, x.refs, x.refs1, x.qp, x.qs, x.ch, d, e⟩ 9 (.bool e) (by omega) rfl
  rw [List.set_set, List.set_set] at h3
  exact h3
theorem bytes_cells {w : World} {S : ByteArray} {cap : Nat} {t : TypeId} {v : World} (hv : v = w.drew.alloc (.cells (bytesRow S cap) t ((bytesRow S cap).size, (bytesRow S cap).size + 1))) (j : Nat) (hj : j < S.data.size) :
    v.cell? ⟨w.heap.size, j, none⟩ = some (.int .u8 (S.data[j].toNat : Int)) ∧ v.frozen? ⟨w.heap.size, j, none⟩ = false := by
  have hb : v.heap[w.heap.size]? = some (.cells (bytesRow S cap) t ((bytesRow S cap).size, (bytesRow S cap).size + 1)) := by
    subst hv
    show (w.drew.heap.push _)[w.drew.heap.size]? = _
    exact Array.getElem?_push_size
  have hat := bytesRow_at S cap j hj
  have hlt : j < (bytesRow S cap).size := (Array.getElem?_eq_some_iff.1 hat).1
  constructor
  · unfold World.cell?
    rw [hb]
    exact hat
  · unfold World.frozen?
    rw [hb]
    show (decide ((bytesRow S cap).size ≤ j) && _) = false
    rw [decide_eq_false (by omega)]
    rfl
theorem flip_conv {v : World} {q cap i x : Nat} {S : ByteArray} (hi : i < S.data.size) (hx : x < 256) (hc : ∀ j (hj : j < S.data.size), v.cell? ⟨q, j, none⟩ = some (.int .u8 (S.data[j].toNat : Int))) :
    ∃ D : ByteArray, D.size = S.size ∧ (convert 36 9 (.slice (some ⟨q, 0, none⟩) S.size cap)).run Try.prog (v.setCell ⟨q, i, none⟩ (.int .u8 (x : Int))) = .ok (.string D) (v.setCell ⟨q, i, none⟩ (.int .u8 (x : Int))) := by
  have hl : (S.data.toList.set i (UInt8.ofNat x)).length = S.size := by rw [List.length_set, Array.length_toList]; rfl
  have hl2 : S.data.size = S.size := rfl
  refine ⟨⟨(S.data.toList.set i (UInt8.ofNat x)).toArray⟩, ?_, ?_⟩
  · show (S.data.toList.set i (UInt8.ofNat x)).toArray.size = _
    rw [List.size_toArray, hl]
  · have := run_convert_bytes_back (P := Try.prog) (v.setCell ⟨q, i, none⟩ (.int .u8 (x : Int))) 36 9 5 ⟨q, 0, none⟩ cap (S.data.toList.set i (UInt8.ofNat x)) Try.underlying36 Try.underlying5 Try.underlying9 (fun j hj => by
      have hj2 : j < S.data.size := by omega
      rw [addr_add]
      by_cases c : j = i
      · subst c
        rw [World.cell?_setCell_same _ _ _ (hc j hj2)]
        rw [List.getElem_set_self, UInt8.toNat_ofNat', Nat.mod_eq_of_lt (by omega)]
      · rw [World.cell?_setCell_other _ _ _ _ (by intro hh; simp only [Addr.mk.injEq] at hh; omega), hc j hj2, List.getElem_set_ne (by omega)]
        rfl)
    rwa [hl] at this
theorem pps_info : ∃ i : TypeInfo, Try.prog.info? 23 = some i ∧ i.zero = some (pv p00) ∧ i.size = 10 ∧ i.bytes = 72 := by
  obtain ⟨i, h, h0, h1, h2⟩ := info_parts (show (Try.prog.info? 23).map (fun i => (i.zero, i.size, i.bytes)) = some (some (pv p00), 10, 72) by kernel_rfl)
  exact ⟨i, h, h0, h1, h2⟩
theorem fill7 (a b c d e f g : PpsD) : Instr.fill (fun i => some (i * 10, 10)) ((Array.range (7 * 10)).map ((pv p00).cells[· % (pv p00).cells.size]!)) [(0, pv a), (1, pv b), (2, pv c), (3, pv d), (4, pv e), (5, pv f), (6, pv g)] = some ([a, b, c, d, e, f, g].flatMap pCs).toArray := by kernel_rfl
theorem pay_small (x : PpsD) : (pPay x).size ≤ 11 := by
  cases h : okP x
  · rw [pPay_no h]; decide
  · exact (pPay_size h).2
theorem shl_lt (m : Nat) (hm : m < 8) : ∃ P : Nat, IntKind.u8.wrap ((2 : Int) ^ m) = (P : Int) ∧ P < 256 := by
  obtain rfl | rfl | rfl | rfl | rfl | rfl | rfl | rfl : m = 0 ∨ m = 1 ∨ m = 2 ∨ m = 3 ∨ m = 4 ∨ m = 5 ∨ m = 6 ∨ m = 7 := by omega
  all_goals exact u8_mod _
end Go.Proofs.Ytkaoeilijdeioaa
