/- The program's store: Copy. -/
import Derived.Test.YtakpafmhdgnlmaaSy
import Derived.Laws.Externs
import Derived.Deep.RegionHeld3
import Derived.Shelf.SlMaps.Clone
namespace Go.Proofs.Ytakpafmhdgnlmaa
open Go.RowKit
set_option linter.unusedVariables false
set_option maxRecDepth 100000
set_option linter.unusedSimpArgs false

theorem clone_fn : ∃ fn, Try.prog.funcs[40]? = some fn ∧ (fn.name == "runtime.NumGoroutine") = false ∧ fn.body.isNone = true ∧ Extern.findNext fn = none ∧ Extern.find fn = some Extern.MapsClone.clone :=
  ⟨(Try.prog.funcs[40]?).getD default, by kernel_rfl, by kernel_rfl, by kernel_rfl, by kernel_rfl, by kernel_rfl⟩

theorem clone_s (m : Nat) (es : Array MapEntry) (c : Nat) (w : World) (hb : w.heap[m]? = some (.map es c)) :
    Calls Try.prog 38 #[.map (some m)] w fun e w' => e = .returned (.map (some w.heap.size)) ∧ w' = w.alloc (.map es c) := by
  have hq := fun w => run_eql_map_nil_sl (P := Try.prog) w 57 _ _ (some m) Try.underlying57
  obtain ⟨fn, e1, e2, e3, e4, e5⟩ := clone_fn
  go_enter Try.func38, Try.ntmps38
  go_wp2
  rw [run_callFunc_extern e1 e2 e3 e4 e5, run_maps_clone_sl w 57 hb]
  simp only [Result.andThen]
  rw [Oper.upon_value]
  go_wp2
  rw [run_typeAssert_map_sl _ 57 20 _ _ _ Try.underlying57]
  simp only [Result.andThen]
  rw [Oper.upon_value]
  go_wp2
  go_ret
  exact ⟨rfl, rfl⟩
theorem kcopy_s {b o m : Nat} {f : Int → Option Value} (w : World) (hc : w.cell? ⟨b, o, none⟩ = some (.map (some m))) (hb : b < w.heap.size) (hm : MapAt w m f) :
    Calls Try.prog 32 #[.pointer (some ⟨b, o, none⟩)] w fun e w' => ∃ m', e = .returned (.agg #[.map (some m')]) ∧ Below w.heap.size w w' ∧ w.heap.size ≤ m' ∧ MapAt w' m' f := by
  obtain ⟨es, c, h1, h2, h3⟩ := hm
  have hlt := lt_of_block h1
  obtain ⟨w0, hw0⟩ : ∃ v, v = w.alloc (.cells #[.map none] 59 (0, 0)) := ⟨_, rfl⟩
  have hk0 : w0.heap[w.heap.size]? = some (.cells #[.map none] 59 (0, 0)) := by rw [hw0]; exact blk0 w _
  have hs0 : w0.heap.size = w.heap.size + 1 := by rw [hw0]; simp
  have hB0 : Below w.heap.size w w0 := by rw [hw0]; exact (Below.refl _ _).alloc (Nat.le_refl _) _
  have hm0 : w0.heap[m]? = some (.map es c) := by rw [hw0]; exact blk_old _ h1
  have c0 : w0.cell? ⟨b, o, none⟩ = some (.map (some m)) := by rw [hw0]; exact (((Below.refl w.heap.size w).alloc (Nat.le_refl _) _).cell (p := ⟨b, o, none⟩) hb).trans hc
  obtain ⟨w1, hw1⟩ : ∃ v, v = w0.alloc (.map es c) := ⟨_, rfl⟩
  have hk1 : w1.heap[w.heap.size]? = some (.cells #[.map none] 59 (0, 0)) := by rw [hw1]; exact blk_old _ hk0
  have hB1 : Below w.heap.size w w1 := by rw [hw1]; exact hB0.alloc hB0.size _
  have hm1 : MapAt w1 w0.heap.size f := by rw [hw1]; exact ⟨es, c, blk0 _ _, h2, h3⟩
  have d1 : w1.cell? ⟨w.heap.size, 0, none⟩ = some (.map none) := by simp [World.cell?, hk1]
  have d2 : w1.frozen? ⟨w.heap.size, 0, none⟩ = false := by simp [World.frozen?, hk1]
  have HM0 := Lib.hid hm0
  have HW1 := Lib.hid hw1
  have hw0' := hw0.symm
  have HS0 := Lib.hid hs0
  have hfin : ∀ v, v = w1.setCell ⟨w.heap.size, 0, none⟩ (.map (some w0.heap.size)) → (loadVar 59 ⟨w.heap.size, 0, none⟩).run Try.prog v = .ok (.agg #[.map (some w0.heap.size)]) v ∧ Below w.heap.size w v ∧ MapAt v w0.heap.size f := by
    rintro v rfl
    have hk2 := setCell_blk hk1 0 (.map (some w0.heap.size))
    have e0 : (w1.setCell ⟨w.heap.size, 0, none⟩ (.map (some w0.heap.size))).cell? ⟨w.heap.size, 0, none⟩ = some (.map (some w0.heap.size)) := by simp [World.cell?, hk2]
    refine ⟨?_, hB1.setCell (Nat.le_refl _) _, hm1.kept (Below.heap_setCell _ _ _ _ (by show w0.heap.size ≠ w.heap.size; omega))⟩
    simp [loadVar, go_sem, run_underlying Try.underlying59, e0, Result.andThen]
  have HFIN := Lib.hid hfin
  clear hw0 hk0 hs0 hB0 hm0 hw1 hk1 hB1 hm1 hfin h1 h2 h3 hc hlt
  go_enter Try.func32, Try.ntmps32
  go_wp2_with (first | (go_at_call 38; (try rw [hw0']); (with_reducible refine (clone_s m es c w0 HM0.out).mono ?_); rintro e w2 ⟨rfl, h2⟩; rw [← HW1.out] at h2; subst h2))
  obtain ⟨q1, q2, q3⟩ := HFIN.out _ rfl
  exact bodyPost_ret (results_cell1 rfl rfl q1) rfl ⟨_, rfl, q2, by have := HS0.out; omega, q3⟩

theorem clone_p (m : Nat) (es : Array MapEntry) (c : Nat) (w : World) (hb : w.heap[m]? = some (.map es c)) :
    Calls Try.prog 39 #[.map (some m)] w fun e w' => e = .returned (.map (some w.heap.size)) ∧ w' = w.alloc (.map es c) := by
  have hq := fun w => run_eql_map_nil_sl (P := Try.prog) w 62 _ _ (some m) Try.underlying62
  obtain ⟨fn, e1, e2, e3, e4, e5⟩ := clone_fn
  go_enter Try.func39, Try.ntmps39
  go_wp2
  rw [run_callFunc_extern e1 e2 e3 e4 e5, run_maps_clone_sl w 62 hb]
  simp only [Result.andThen]
  rw [Oper.upon_value]
  go_wp2
  rw [run_typeAssert_map_sl _ 62 20 _ _ _ Try.underlying62]
  simp only [Result.andThen]
  rw [Oper.upon_value]
  go_wp2
  go_ret
  exact ⟨rfl, rfl⟩
theorem kcopy_p {b o m : Nat} {f : Int → Option Value} (w : World) (hc : w.cell? ⟨b, o, none⟩ = some (.map (some m))) (hb : b < w.heap.size) (hm : MapAt w m f) :
    Calls Try.prog 33 #[.pointer (some ⟨b, o, none⟩)] w fun e w' => ∃ m', e = .returned (.agg #[.map (some m')]) ∧ Below w.heap.size w w' ∧ w.heap.size ≤ m' ∧ MapAt w' m' f := by
  obtain ⟨es, c, h1, h2, h3⟩ := hm
  have hlt := lt_of_block h1
  obtain ⟨w0, hw0⟩ : ∃ v, v = w.alloc (.cells #[.map none] 64 (0, 0)) := ⟨_, rfl⟩
  have hk0 : w0.heap[w.heap.size]? = some (.cells #[.map none] 64 (0, 0)) := by rw [hw0]; exact blk0 w _
  have hs0 : w0.heap.size = w.heap.size + 1 := by rw [hw0]; simp
  have hB0 : Below w.heap.size w w0 := by rw [hw0]; exact (Below.refl _ _).alloc (Nat.le_refl _) _
  have hm0 : w0.heap[m]? = some (.map es c) := by rw [hw0]; exact blk_old _ h1
  have c0 : w0.cell? ⟨b, o, none⟩ = some (.map (some m)) := by rw [hw0]; exact (((Below.refl w.heap.size w).alloc (Nat.le_refl _) _).cell (p := ⟨b, o, none⟩) hb).trans hc
  obtain ⟨w1, hw1⟩ : ∃ v, v = w0.alloc (.map es c) := ⟨_, rfl⟩
  have hk1 : w1.heap[w.heap.size]? = some (.cells #[.map none] 64 (0, 0)) := by rw [hw1]; exact blk_old _ hk0
  have hB1 : Below w.heap.size w w1 := by rw [hw1]; exact hB0.alloc hB0.size _
  have hm1 : MapAt w1 w0.heap.size f := by rw [hw1]; exact ⟨es, c, blk0 _ _, h2, h3⟩
  have d1 : w1.cell? ⟨w.heap.size, 0, none⟩ = some (.map none) := by simp [World.cell?, hk1]
  have d2 : w1.frozen? ⟨w.heap.size, 0, none⟩ = false := by simp [World.frozen?, hk1]
  have HM0 := Lib.hid hm0
  have HW1 := Lib.hid hw1
  have hw0' := hw0.symm
  have HS0 := Lib.hid hs0
  have hfin : ∀ v, v = w1.setCell ⟨w.heap.size, 0, none⟩ (.map (some w0.heap.size)) → (loadVar 64 ⟨w.heap.size, 0, none⟩).run Try.prog v = .ok (.agg #[.map (some w0.heap.size)]) v ∧ Below w.heap.size w v ∧ MapAt v w0.heap.size f := by
    rintro v rfl
    have hk2 := setCell_blk hk1 0 (.map (some w0.heap.size))
    have e0 : (w1.setCell ⟨w.heap.size, 0, none⟩ (.map (some w0.heap.size))).cell? ⟨w.heap.size, 0, none⟩ = some (.map (some w0.heap.size)) := by simp [World.cell?, hk2]
    refine ⟨?_, hB1.setCell (Nat.le_refl _) _, hm1.kept (Below.heap_setCell _ _ _ _ (by show w0.heap.size ≠ w.heap.size; omega))⟩
    simp [loadVar, go_sem, run_underlying Try.underlying64, e0, Result.andThen]
  have HFIN := Lib.hid hfin
  clear hw0 hk0 hs0 hB0 hm0 hw1 hk1 hB1 hm1 hfin h1 h2 h3 hc hlt
  go_enter Try.func33, Try.ntmps33
  go_wp2_with (first | (go_at_call 39; (try rw [hw0']); (with_reducible refine (clone_p m es c w0 HM0.out).mono ?_); rintro e w2 ⟨rfl, h2⟩; rw [← HW1.out] at h2; subst h2))
  obtain ⟨q1, q2, q3⟩ := HFIN.out _ rfl
  exact bodyPost_ret (results_cell1 rfl rfl q1) rfl ⟨_, rfl, q2, by have := HS0.out; omega, q3⟩
theorem cell_lt {w : World} {b o : Nat} {v : Value} (h : w.cell? ⟨b, o, none⟩ = some v) : b < w.heap.size := by
  by_cases hb : b < w.heap.size
  · exact hb
  · simp [World.cell?, Array.getElem?_eq_none (by omega : w.heap.size ≤ b)] at h

theorem scopy_any {W w : World} {L : List AObj} {F : List (Nat × Obj)} {b m1 m2 : Nat} {f : Int → Option SpsD} {g : Int → Option PpsD} (h : Hp W w L F) (k : Nat) (hk : L[k]? = some (aSt b m1 m2 f g)) :
    Calls Try.prog 22 #[.pointer (some ⟨b, 0, none⟩)] w fun e w' => ∃ b' n1 n2, e = .returned (.pointer (some ⟨b', 0, none⟩)) ∧ Hp W w' (aSt b' n1 n2 f g :: L) F := by
  have H := Lib.hid h
  have HK := Lib.hid hk
  have hd := h.drew
  obtain ⟨⟨c0, -⟩, s1, -⟩ := hd.st k hk
  have hlt : b < w.drew.heap.size := cell_lt c0
  have HC := Lib.hid c0
  have HS1 := Lib.hid s1
  have HL := Lib.hid hlt
  clear h hk hd c0 s1 hlt
  go_enter Try.func22, Try.ntmps22
  go_wp2_with (fail)
  go_region_held3 (fun w' => True) (first | trivial | go_keep) (first | (go_at_call 32; (with_reducible refine (kcopy_s w.drew HC.out HL.out HS1.out).mono ?_); rintro e w1 ⟨n1, rfl, hB1, hn1, hM1⟩; have h1 := H.out.drew.same hB1; have r2 := (h1.st k HK.out).1.2; have s2 := (h1.st k HK.out).2.2; have hl2 := Nat.lt_of_lt_of_le HL.out hB1.size) | (go_at_call 33; (with_reducible refine (kcopy_p _ r2 hl2 s2).mono ?_); rintro e w2 ⟨n2, rfl, hB2, hn2, hM2⟩))
  go_wp2_with (fail)
  have l1 := hM1.lt
  have l2 := hM2.lt
  have z1 := hB1.size
  have z2 := hB2.size
  refine bodyPost_ret (results_tmp rfl _ _ _) rfl ⟨w2.heap.size, n1, n2, rfl, H.out.drew.st_new ?_ ⟨by omega, by omega, by omega⟩ ⟨by omega, by omega, by omega⟩ (blk0 _ _) ?_ ?_⟩
  · exact (hB1.trans (hB2.mono hB1.size)).alloc (Nat.le_trans z1 z2) _
  · exact hM1.kept ((Below.heap_alloc _ _ _ (by omega)).trans (hB2.block n1 l1))
  · exact hM2.kept (Below.heap_alloc _ _ _ l2)

end Go.Proofs.Ytakpafmhdgnlmaa
