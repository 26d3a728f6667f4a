/- What the listed table's datum says, and what an argument reads as. -/
import Derived.Test.YtchoiimmcgkimaaDoorRows
import Derived.Test.YtchoiimmcgkimaaDoorDo
import Derived.Test.YtchoiimmcgkimaaDoorFl
import Derived.Test.YtchoiimmcgkimaaDoorJg
namespace Go.Proofs.YtchoiimmcgkimaaDoor
open Go.ChangeShapes Go.WideShapes Go.RowKit
set_option linter.unusedVariables false
set_option maxRecDepth 100000
set_option linter.unusedSimpArgs false

theorem gSizes : Tryd.prog.globalNamed "spindle/mb.sizes" = some 0 := by kernel_rfl
theorem tSizes : (Tryd.prog.globals[0]?).map (·.type) = some 49 := by kernel_rfl
theorem sz_of_laid {W : World} (h : laidMetH Tryd.prog [("spindle/mb.sizes", Rows.laid_spindle_mb_sizes)] W) : SzIn W := by
  rw [MakeChecks.laidMetH_plain _ _ _ (by kernel_rfl)] at h
  obtain ⟨ps, ⟨g0, t0, cs0, f0, p0, q0, hg0, ht0, hv0, hd0, _, _⟩, _, _⟩ := h
  obtain rfl := Option.some.inj (gSizes.symm.trans hg0)
  obtain rfl := Option.some.inj (tSizes.symm.trans ht0)
  have hc := trod_ints (zs := [16, 15, 16, 4, 15]) Tryd.underlying49 Tryd.underlying3 (by kernel_rfl) (by kernel_rfl) hd0
  intro k hk
  rw [World.var?_cell hg0 hv0 k]
  have e : cs0[k]? = cs0.toList[k]? := by simp
  rw [e, hc]
  obtain rfl | rfl | rfl | rfl | rfl : k = 0 ∨ k = 1 ∨ k = 2 ∨ k = 3 ∨ k = 4 := by omega
  all_goals rfl
theorem inA_of {W : World} {sp : Option Addr} {n b o : Nat} {C : Nat → List Value} (h : RowsIn Tryd.prog W [.int .i64] sp n b o C) : InA W sp n b o (fun i => zat C i 0) := by
  refine ⟨h.at_, fun i hi => ?_, fun i hi => ?_⟩
  · have := (h.int hi 0 rfl).1
    simpa using this
  · have := (h.int hi 0 rfl).2
    have b := bounds_i64 this
    exact ⟨b.1, by omega⟩
theorem open_ints {W : World} {sp : Option Addr} {n c : Nat} (hw : ∃ (H : Type) (enc : TypeId × Value → H) (fuel : Nat) (y : DataW H × List MemPlace), DataW.trod enc Tryd.prog W 0 (fun _ => true) true fuel 22 [.slice sp n c] = some y) :
    ∃ b o A, InA W sp n b o A ∧ n ≤ maxLen := by
  obtain ⟨H, enc, fuel, y, hy⟩ := hw
  obtain ⟨b, o, C, h1, h2, _⟩ := open_rows_cs (m := 6) (t := 22) (e := 3) (ks := [.int .i64]) Tryd.underlying22 (by kernel_rfl) (by kernel_rfl) (by decide) hy
  exact ⟨b, o, _, inA_of h1, h2⟩
end Go.Proofs.YtchoiimmcgkimaaDoor
