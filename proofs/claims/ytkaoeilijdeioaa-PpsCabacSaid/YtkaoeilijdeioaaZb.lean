/- Three bytes as a string. -/
import Derived.Test.YtkaoeilijdeioaaZa
import Derived.Deep.CutBlock
import Derived.Deep.RegionHeld3
namespace Go.Proofs.Ytkaoeilijdeioaa
open Go.RowKit
set_option linter.unusedVariables false
set_option maxRecDepth 100000
set_option linter.unusedSimpArgs false

theorem conv3 {w : World} (a b c : UInt8) {v : World} (hv : v = w.alloc (.cells #[.int .u8 (a.toNat : Int), .int .u8 (b.toNat : Int), .int .u8 (c.toNat : Int)] 5 (0, 0))) :
    (convert 36 9 (.slice (some ⟨w.heap.size, 0, none⟩) 3 3)).run Try.prog v = .ok (.string ⟨#[a, b, c]⟩) v := by
  subst hv
  refine run_convert_bytes_back _ 36 9 5 ⟨w.heap.size, 0, none⟩ 3 [a, b, c] Try.underlying36 Try.underlying5 Try.underlying9 (fun j hj => ?_)
  have hb : (w.alloc (.cells #[.int .u8 (a.toNat : Int), .int .u8 (b.toNat : Int), .int .u8 (c.toNat : Int)] 5 (0, 0))).heap[w.heap.size]? = some (.cells #[.int .u8 (a.toNat : Int), .int .u8 (b.toNat : Int), .int .u8 (c.toNat : Int)] 5 (0, 0)) := by
    show (w.heap.push _)[w.heap.size]? = _
    exact Array.getElem?_push_size
  obtain ⟨v, hv⟩ : ∃ v, (w.alloc (.cells #[.int .u8 (a.toNat : Int), .int .u8 (b.toNat : Int), .int .u8 (c.toNat : Int)] 5 (0, 0))) = v := ⟨_, rfl⟩
  rw [hv] at hb ⊢
  generalize w.heap.size = q at hb ⊢
  obtain ⟨x0, x1, x2⟩ := scells3 hb
  simp at hj
  obtain rfl | rfl | rfl : j = 0 ∨ j = 1 ∨ j = 2 := by omega
  · exact x0
  · exact x1
  · exact x2
end Go.Proofs.Ytkaoeilijdeioaa
