/- Pieces of SpsExamples: a slice of parameter sets; a string's bytes, one turned. -/
import Derived.Test.YtnigpledibhiaaaVc
import Derived.Test.YtnigpledibhiaaaVd
import Derived.Test.YtnigpledibhiaaaUt
import Derived.Laws.IdiomStrings
import Derived.Laws.BitsAllLaws
namespace Go.Proofs.Ytnigpledibhiaaa
open Go.RowKit
set_option linter.unusedVariables false
set_option maxRecDepth 100000
set_option linter.unusedSimpArgs false

def sCs (x : SpsD) : List Value := [.int .u8 x.pr, .int .u8 x.fl, .int .u8 x.le, .int .i64 x.id, .int .i64 x.fb, .int .i64 x.pb, .int .i64 x.refs, .int .i64 x.w, .int .i64 x.h]
def lOb (xs : List SpsD) : Obj := .cells (xs.flatMap sCs).toArray 23 (0, 0)
theorem sCs_at : ∀ (xs : List SpsD) (k : Nat) (x : SpsD), xs[k]? = some x → ∀ (j : Nat) (v : Value), (sCs x)[j]? = some v → (xs.flatMap sCs)[k * 9 + j]? = some v
  | [], k, x, h, j, v, hv => by simp at h
  | y :: ys, 0, x, h, j, v, hv => by
    simp at h
    subst h
    rw [List.flatMap_cons, Nat.zero_mul, Nat.zero_add, List.getElem?_append_left]
    · exact hv
    · exact (List.getElem?_eq_some_iff.1 hv).1
  | y :: ys, k + 1, x, h, j, v, hv => by
    simp only [List.getElem?_cons_succ] at h
    have := sCs_at ys k x h j v hv
    rw [List.flatMap_cons, List.getElem?_append_right (by show 9 ≤ _; omega)]
    have e : (k + 1) * 9 + j - (sCs y).length = k * 9 + j := by show (k + 1) * 9 + j - 9 = _; omega
    rw [e]
    exact this
theorem lOb_cells {w : World} {q : Nat} {xs : List SpsD} (h : w.heap[q]? = some (lOb xs)) {k : Nat} {x : SpsD} (hk : xs[k]? = some x) :
    w.cell? ⟨q, k * 9, none⟩ = some (.int .u8 x.pr) ∧ w.cell? ⟨q, k * 9 + 1, none⟩ = some (.int .u8 x.fl) ∧ w.cell? ⟨q, k * 9 + 2, none⟩ = some (.int .u8 x.le) ∧ w.cell? ⟨q, k * 9 + 3, none⟩ = some (.int .i64 x.id) ∧ w.cell? ⟨q, k * 9 + 4, none⟩ = some (.int .i64 x.fb) ∧ w.cell? ⟨q, k * 9 + 5, none⟩ = some (.int .i64 x.pb) ∧ w.cell? ⟨q, k * 9 + 6, none⟩ = some (.int .i64 x.refs) ∧ w.cell? ⟨q, k * 9 + 7, none⟩ = some (.int .i64 x.w) ∧ w.cell? ⟨q, k * 9 + 8, none⟩ = some (.int .i64 x.h) := by
  have hb : ∀ j v, (sCs x)[j]? = some v → w.cell? ⟨q, k * 9 + j, none⟩ = some v := by
    intro j v hv
    have e := sCs_at xs k x hk j v hv
    unfold World.cell?
    rw [h]
    show (xs.flatMap sCs).toArray[k * 9 + j]? = some v
    rw [List.getElem?_toArray]
    exact e
  exact ⟨hb 0 _ rfl, hb 1 _ rfl, hb 2 _ rfl, hb 3 _ rfl, hb 4 _ rfl, hb 5 _ rfl, hb 6 _ rfl, hb 7 _ rfl, hb 8 _ rfl⟩

theorem bytes_cells {w : World} {S : ByteArray} {cap : Nat} {t : TypeId} {v : World} (hv : v = w.drew.alloc (.cells (bytesRow S cap) t ((bytesRow S cap).size, (bytesRow S cap).size + 1))) (j : Nat) (hj : j < S.data.size) :
    v.cell? ⟨w.heap.size, j, none⟩ = some (.int .u8 (S.data[j].toNat : Int)) ∧ v.frozen? ⟨w.heap.size, j, none⟩ = false := by
  have hb : v.heap[w.heap.size]? = some (.cells (bytesRow S cap) t ((bytesRow S cap).size, (bytesRow S cap).size + 1)) := by
    subst hv
    show (w.drew.heap.push _)[w.drew.heap.size]? = _
    exact Array.getElem?_push_size
  have hat := bytesRow_at S cap j hj
  have hlt : j < (bytesRow S cap).size := (Array.getElem?_eq_some_iff.1 hat).1
  constructor
  · unfold World.cell?
    rw [hb]
    exact hat
  · unfold World.frozen?
    rw [hb]
    show (decide ((bytesRow S cap).size ≤ j) && _) = false
    rw [decide_eq_false (by omega)]
    rfl
theorem flip_conv {v : World} {q cap i x : Nat} {S : ByteArray} (hi : i < S.data.size) (hx : x < 256) (hc : ∀ j (hj : j < S.data.size), v.cell? ⟨q, j, none⟩ = some (.int .u8 (S.data[j].toNat : Int))) :
    ∃ D : ByteArray, D.size = S.size ∧ (convert 36 9 (.slice (some ⟨q, 0, none⟩) S.size cap)).run Try.prog (v.setCell ⟨q, i, none⟩ (.int .u8 (x : Int))) = .ok (.string D) (v.setCell ⟨q, i, none⟩ (.int .u8 (x : Int))) := by
  have hl : (S.data.toList.set i (UInt8.ofNat x)).length = S.size := by rw [List.length_set, Array.length_toList]; rfl
  have hl2 : S.data.size = S.size := rfl
  refine ⟨⟨(S.data.toList.set i (UInt8.ofNat x)).toArray⟩, ?_, ?_⟩
  · show (S.data.toList.set i (UInt8.ofNat x)).toArray.size = _
    rw [List.size_toArray, hl]
  · have := run_convert_bytes_back (P := Try.prog) (v.setCell ⟨q, i, none⟩ (.int .u8 (x : Int))) 36 9 5 ⟨q, 0, none⟩ cap (S.data.toList.set i (UInt8.ofNat x)) Try.underlying36 Try.underlying5 Try.underlying9 (fun j hj => by
      have hj2 : j < S.data.size := by omega
      rw [addr_add]
      by_cases c : j = i
      · subst c
        rw [World.cell?_setCell_same _ _ _ (hc j hj2)]
        rw [List.getElem_set_self, UInt8.toNat_ofNat', Nat.mod_eq_of_lt (by omega)]
      · rw [World.cell?_setCell_other _ _ _ _ (by intro hh; simp only [Addr.mk.injEq] at hh; omega), hc j hj2, List.getElem_set_ne (by omega)]
        rfl)
    rwa [hl] at this
theorem sps_info : ∃ i : TypeInfo, Try.prog.info? 23 = some i ∧ i.zero = some (sv s00) ∧ i.size = 9 ∧ i.bytes = 56 := by
  obtain ⟨i, h, h0, h1, h2⟩ := info_parts (show (Try.prog.info? 23).map (fun i => (i.zero, i.size, i.bytes)) = some (some (sv s00), 9, 56) by kernel_rfl)
  exact ⟨i, h, h0, h1, h2⟩
theorem fill7 (a b c d e f g : SpsD) : Instr.fill (fun i => some (i * 9, 9)) ((Array.range (7 * 9)).map ((sv s00).cells[· % (sv s00).cells.size]!)) [(0, sv a), (1, sv b), (2, sv c), (3, sv d), (4, sv e), (5, sv f), (6, sv g)] = some ([a, b, c, d, e, f, g].flatMap sCs).toArray := by kernel_rfl
theorem pay_small {x : SpsD} (hu : okU x) : (sPay x).size ≤ 12 := by
  cases h : okS x
  · rw [sPay_no h]; decide
  · exact (sPay_size h hu).2
theorem shl_lt (m : Nat) (hm : m < 8) : ∃ P : Nat, IntKind.u8.wrap ((2 : Int) ^ m) = (P : Int) ∧ P < 256 := by
  obtain rfl | rfl | rfl | rfl | rfl | rfl | rfl | rfl : m = 0 ∨ m = 1 ∨ m = 2 ∨ m = 3 ∨ m = 4 ∨ m = 5 ∨ m = 6 ∨ m = 7 := by omega
  all_goals exact u8_mod _
end Go.Proofs.Ytnigpledibhiaaa
