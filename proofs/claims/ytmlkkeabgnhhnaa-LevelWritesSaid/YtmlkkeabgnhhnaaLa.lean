/- The reference's pairs (spindleref18): all totals and ones, in a list of its own. -/
import Derived.Test.YtmlkkeabgnhhnaaLw
namespace Go.Proofs.Ytmlkkeabgnhhnaa
open Go.RowKit
set_option linter.unusedVariables false
set_option maxRecDepth 100000
set_option linter.unusedSimpArgs false

/-- j pairs of the total t, from the ones m down; all pairs of totals below t. -/
def rowP (t m : Nat) : Nat → List (Nat × Nat)
  | 0 => []
  | j + 1 => rowP t m j ++ [(t, m - j)]
def plT : Nat → List (Nat × Nat)
  | 0 => []
  | t + 1 => plT t ++ rowP t (min 3 t) (min 3 t + 1)
def pcs (l : List (Nat × Nat)) : List Value := l.flatMap fun p => [.int .i64 p.1, .int .i64 p.2]
theorem pcs_app (a b : List (Nat × Nat)) : pcs (a ++ b) = pcs a ++ pcs b := by simp [pcs]
theorem rowP_length (t m : Nat) : ∀ j, (rowP t m j).length = j
  | 0 => rfl
  | j + 1 => by unfold rowP; rw [List.length_append, rowP_length t m j]; rfl
theorem plT_le : ∀ t, (plT t).length ≤ 4 * t
  | 0 => Nat.le_refl _
  | t + 1 => by unfold plT; rw [List.length_append, rowP_length]; have := plT_le t; omega
theorem pair_info : ∃ i : TypeInfo, Try.prog.info? 59 = some i ∧ i.zero = some (.agg #[.int .i64 0, .int .i64 0]) ∧ i.size = 2 ∧ i.bytes = 16 := by
  obtain ⟨i, h, h0, h1, h2⟩ := info_parts (show (Try.prog.info? 59).map (fun i => (i.zero, i.size, i.bytes)) = some (some (.agg #[.int .i64 0, .int .i64 0]), 2, 16) by kernel_rfl)
  exact ⟨i, h, h0, h1, h2⟩

theorem pcs_length (l : List (Nat × Nat)) : (pcs l).length = 2 * l.length := by
  induction l with
  | nil => rfl
  | cons a l ih =>
    have : pcs (a :: l) = [.int .i64 a.1, .int .i64 a.2] ++ pcs l := by simp [pcs]
    rw [this, List.length_append, ih]
    simp
    omega
theorem two_new (w : World) (x y : Value) (t : TypeId) : ∀ (j : Nat) (u : Value), [x, y][j]? = some u → (w.alloc (.cells #[x, y] t (0, 0))).cell? ((⟨w.heap.size, 0, none⟩ : Addr).add j) = some u := by
  intro j u hu
  rw [addr_add]
  have h := heap_alloc_new w (.cells #[x, y] t (0, 0))
  match j, hu with
  | 0, hu => simp at hu; subst hu; (simp only [World.cell?]; rw [h]; rfl)
  | 1, hu => simp at hu; subst hu; (simp only [World.cell?]; rw [h]; rfl)
  | j + 2, hu => simp at hu

set_option maxHeartbeats 4000000 in
theorem pairs_any {W w : World} {L : List AObj} {F : List (Nat × Obj)} (h : Hp W w L F) :
    Calls Try.prog 54 #[] w fun e w' => ∃ v, e = .returned v ∧ Hp W w' (aSl 59 2 v (plT 17).length (pcs (plT 17)) :: L) F := by
  have h1 := h.sl_nil 59 2
  have H := Lib.hid h1
  clear h h1
  obtain ⟨ti, ti1, ti2, ti3, ti4⟩ := pair_info
  go_enter Try.func54, Try.ntmps54
  go_wp2_with (fail)
  go_loopw [1, 2] (fun l' t' wr => ∃ (t : Nat) (sp : Option Addr) (cp : Nat), t' = .int .i64 t ∧ t ≤ 17 ∧ l' = .slice sp (plT t).length cp ∧ Hp W wr (aSl 59 2 (.slice sp (plT t).length cp) (plT t).length (pcs (plT t)) :: L) F) (fun _ t' _ => 17 - (intOf t').toNat)
  case atStart => exact ⟨0, none, 0, rfl, by omega, rfl, H.out⟩
  case round =>
    obtain ⟨t, sp, cp, rfl, ht, rfl, g⟩ := hrel
    by_cases hlt : t < 17
    · have G := Lib.hid g
      clear g
      obtain ⟨m, hm⟩ : ∃ m, m = min 3 t := ⟨_, rfl⟩
      have hm3 : m ≤ 3 := by omega
      have d16 : decide ((t : Int) ≤ 16) = true := by simp; omega
      have d17 : decide (t ≤ 16) = true := by simp; omega
      by_cases h3 : 3 ≤ t
      · have hm' : m = 3 := by omega
        have HMM := Lib.hid hm
        have hm3e : (3 : Int) = (m : Int) := by omega
        have HM3 := Lib.hid hm'
        have HM3E := Lib.hid hm3e
        clear hm hm' hm3e
        go_wp2_with (fail)
        go_loopw [1, 3] (fun l' o' wr => ∃ (j : Nat) (sp : Option Addr) (cp : Nat), o' = .int .i64 ((m : Int) - j) ∧ j ≤ m + 1 ∧ l' = .slice sp (plT t ++ rowP t m j).length cp ∧ Hp W wr (aSl 59 2 (.slice sp (plT t ++ rowP t m j).length cp) (plT t ++ rowP t m j).length (pcs (plT t ++ rowP t m j)) :: L) F) (fun _ o' _ => (intOf o' + 1).toNat)
        case atStart => exact ⟨0, sp, cp, ret_i64 (by have := HM3E.out; omega), by omega, by simp [rowP], by simpa [rowP] using G.out⟩
        case round =>
          obtain ⟨j, sp2, cp2, rfl, hj, rfl, q⟩ := hrel
          have hlen : (plT t ++ rowP t m j).length ≤ 100 := by rw [List.length_append, rowP_length]; have := plT_le t; omega
          have hpc : (pcs (plT t ++ rowP t m j)).length = 2 * (plT t ++ rowP t m j).length := pcs_length _
          obtain ⟨A, hA⟩ : ∃ A, plT t ++ rowP t m j = A := ⟨_, rfl⟩
          rw [hA] at hlen hpc q
          simp only [hA]
          have HA := Lib.hid hA
          clear hA
          by_cases hjm : j ≤ m
          · have hji : (0 : Int) ≤ (m : Int) - (j : Int) := by omega
            go_wp2_with (at_builtin; refine wpList_append_hp rfl (.tmp 14) (.tmp 18) 60 rfl 59 ti (.agg #[.int .i64 0, .int .i64 0]) 2 16 Try.underlying60 ti1 ti2 ti3 ti4 rfl (by decide) (q.lost _) 0 at0 rfl ⟨_, 0, none⟩ 1 1 [.int .i64 t, .int .i64 ((m : Int) - j)] rfl rfl ?c1 ?c2 ?c3 ?c4 ?_)
            case c1 => exact two_new _ _ _ _
            case c2 => intro u hu; simp at hu; rcases hu with rfl | rfl <;> rfl
            case c3 => unfold maxLen; omega
            case c4 => omega
            intro v' w3 g3
            try simp only [set0] at g3
            obtain ⟨sp', cp', rfl, _, _⟩ := g3.sl_form 0 at0
            go_wp2_with (fail)
            go_roundw
            case rel =>
              have e : plT t ++ rowP t m (j + 1) = A ++ [(t, m - j)] := by rw [← HA.out, List.append_assoc]; rfl
              refine ⟨j + 1, sp', cp', by go_num, by omega, by rw [e, List.length_append]; rfl, ?_⟩
              rw [e, List.length_append, pcs_app]
              have e2 : pcs [(t, m - j)] = [.int .i64 (t : Int), .int .i64 ((m : Int) - j)] := by unfold pcs; simp; omega
              rw [e2]
              exact g3
            case measure => simp [intOf]; omega
          · obtain rfl : j = m + 1 := by omega
            have hA2 : plT (t + 1) = A := by rw [← HA.out, HMM.out]; rfl
            go_wp2_with (fail)
            go_roundw
            case rel => exact ⟨t + 1, sp2, cp2, by go_num, by omega, by rw [hA2], by rw [hA2]; exact q⟩
            case measure => simp [intOf]; omega
      · have hm' : m = t := by omega
        have h3i : (t : Int) < 3 := by omega
        have HMM := Lib.hid hm
        have hm3e : (t : Int) = (m : Int) := by omega
        have HM3 := Lib.hid hm'
        have HM3E := Lib.hid hm3e
        clear hm hm' hm3e
        go_wp2_with (fail)
        go_loopw [1, 3] (fun l' o' wr => ∃ (j : Nat) (sp : Option Addr) (cp : Nat), o' = .int .i64 ((m : Int) - j) ∧ j ≤ m + 1 ∧ l' = .slice sp (plT t ++ rowP t m j).length cp ∧ Hp W wr (aSl 59 2 (.slice sp (plT t ++ rowP t m j).length cp) (plT t ++ rowP t m j).length (pcs (plT t ++ rowP t m j)) :: L) F) (fun _ o' _ => (intOf o' + 1).toNat)
        case atStart => exact ⟨0, sp, cp, ret_i64 (by have := HM3E.out; omega), by omega, by simp [rowP], by simpa [rowP] using G.out⟩
        case round =>
          obtain ⟨j, sp2, cp2, rfl, hj, rfl, q⟩ := hrel
          have hlen : (plT t ++ rowP t m j).length ≤ 100 := by rw [List.length_append, rowP_length]; have := plT_le t; omega
          have hpc : (pcs (plT t ++ rowP t m j)).length = 2 * (plT t ++ rowP t m j).length := pcs_length _
          obtain ⟨A, hA⟩ : ∃ A, plT t ++ rowP t m j = A := ⟨_, rfl⟩
          rw [hA] at hlen hpc q
          simp only [hA]
          have HA := Lib.hid hA
          clear hA
          by_cases hjm : j ≤ m
          · have hji : (0 : Int) ≤ (m : Int) - (j : Int) := by omega
            go_wp2_with (at_builtin; refine wpList_append_hp rfl (.tmp 14) (.tmp 18) 60 rfl 59 ti (.agg #[.int .i64 0, .int .i64 0]) 2 16 Try.underlying60 ti1 ti2 ti3 ti4 rfl (by decide) (q.lost _) 0 at0 rfl ⟨_, 0, none⟩ 1 1 [.int .i64 t, .int .i64 ((m : Int) - j)] rfl rfl ?c1 ?c2 ?c3 ?c4 ?_)
            case c1 => exact two_new _ _ _ _
            case c2 => intro u hu; simp at hu; rcases hu with rfl | rfl <;> rfl
            case c3 => unfold maxLen; omega
            case c4 => omega
            intro v' w3 g3
            try simp only [set0] at g3
            obtain ⟨sp', cp', rfl, _, _⟩ := g3.sl_form 0 at0
            go_wp2_with (fail)
            go_roundw
            case rel =>
              have e : plT t ++ rowP t m (j + 1) = A ++ [(t, m - j)] := by rw [← HA.out, List.append_assoc]; rfl
              refine ⟨j + 1, sp', cp', by go_num, by omega, by rw [e, List.length_append]; rfl, ?_⟩
              rw [e, List.length_append, pcs_app]
              have e2 : pcs [(t, m - j)] = [.int .i64 (t : Int), .int .i64 ((m : Int) - j)] := by unfold pcs; simp; omega
              rw [e2]
              exact g3
            case measure => simp [intOf]; omega
          · obtain rfl : j = m + 1 := by omega
            have hA2 : plT (t + 1) = A := by rw [← HA.out, HMM.out]; rfl
            go_wp2_with (fail)
            go_roundw
            case rel => exact ⟨t + 1, sp2, cp2, by go_num, by omega, by rw [hA2], by rw [hA2]; exact q⟩
            case measure => simp [intOf]; omega
    · obtain rfl : t = 17 := by omega
      have G := Lib.hid g
      clear g
      go_wp2_with (fail)
      refine bodyPost_ret (results_tmp rfl _ _ _) rfl ⟨_, rfl, ?_⟩
      exact G.out

end Go.Proofs.Ytmlkkeabgnhhnaa
