/- Parts of slices of bins; the bins of the types. -/
import Derived.Test.YtchoiimmcgkimaaDoorWa
namespace Go.Proofs.YtchoiimmcgkimaaDoor
open Go.RowKit Go.Shelf
set_option linter.unusedVariables false
set_option maxRecDepth 100000
set_option linter.unusedSimpArgs false

theorem addr_off1 (g o j : Nat) : ((⟨g, o, none⟩ : Addr).add j) = ⟨g, o + j, none⟩ := by unfold Addr.add; split <;> simp_all
theorem bin_size (w : World) : (sizeOf 31).run Tryd.prog w = .ok 2 w := by
  obtain ⟨i, h, h0, h1, h2⟩ := bin_info
  simp [sizeOf, h, h1]
  rfl
theorem slice_from {w : World} {sp : Option Addr} {n g o cap : Nat} {bs : List (Int × Int)} (h : BnIn w sp n g o bs) (hc : n ≤ cap) (hn : 1 ≤ n) :
    ∃ q c', (∀ w, (Instr.sliceAt 26 (.slice sp n cap) (some (.int .i64 1)) none none).run Tryd.prog w = .ok (.slice q (n - 1) c') w) ∧ BnIn w q (n - 1) g (o + 2) bs.tail := by
  refine ⟨if cap = 1 then sp else sp.map (·.add (1 * 2)), cap - 1, fun w => ?_, by rw [List.length_tail, ← h.len], by have := h.le; omega, fun h1 => ?_, fun i b hb => ?_⟩
  · rw [run_sliceAt_slice w _ _ _ _ _ Tryd.underlying26]
    rw [run_slice_l w _ _ _ _ Tryd.underlying26 .i64 1 (by omega) (by omega)]
    show ((sizeOf 31).run Tryd.prog w).andThen _ = _
    rw [bin_size]
    rfl
  · rw [if_neg (by omega), h.at_ (by omega), Option.map_some, addr_off1]
  · have := h.cell (i + 1) b (by rw [← hb, List.getElem?_tail])
    rw [show o + 2 + i * 2 = o + (i + 1) * 2 by omega]
    exact this
theorem slice_to {w : World} {sp : Option Addr} {n m g o cap : Nat} {bs : List (Int × Int)} (h : BnIn w sp n g o bs) (hc : n ≤ cap) (hm : m ≤ n) :
    (∀ w, (Instr.sliceAt 26 (.slice sp n cap) none (some (.int .i64 m)) none).run Tryd.prog w = .ok (.slice sp m cap) w) ∧ BnIn w sp m g o (bs.take m) := by
  refine ⟨fun w => ?_, by rw [List.length_take, ← h.len]; omega, by have := h.le; omega, fun h1 => h.at_ (by omega), fun i b hb => ?_⟩
  · rw [run_sliceAt_slice w _ _ _ _ _ Tryd.underlying26]
    rw [run_slice_h w _ _ _ _ Tryd.underlying26 .i64 m (by omega) (by omega)]
    show ((sizeOf 31).run Tryd.prog w).andThen _ = _
    rw [bin_size]
    show Result.ok (sliced sp 0 (m : Int).toNat cap 2) w = _
    unfold sliced
    have : (if cap = 0 then sp else sp.map (·.add (0 * 2))) = sp := by
      split
      · rfl
      · cases sp with
        | none => rfl
        | some a => simp [Addr.add]
    rw [this, Int.toNat_natCast, Nat.sub_zero, Nat.sub_zero]
  · rw [List.getElem?_take] at hb
    split at hb
    · exact h.cell i b hb
    · simp at hb

/-- What the bins of the types are like. -/
def tyX (a : Nat) : List (Int × Int) := tyB a true 0
theorem ty_e : ∀ a : Nat, a < 26 → tyE a true 0 = 0 ∧ tyE a false 0 = 0 ∧ tyE a true 1 = 0 ∧ tyE a true 2 = 0 := by decide +kernel
theorem ty_1 : ∀ a : Nat, a < 26 → 1 ≤ (tyX a).length ∧ (tyX a).length ≤ 6 ∧ ((tyX a).getD 0 (0, 0)).1 = 3 ∧ ((tyX a).getD 0 (0, 0)).2 = min a 1 ∧ (decide (a = 0 ∨ a = 25) = decide ((tyX a).length = 1)) := by decide +kernel
theorem ty_2 : ∀ a : Nat, a < 26 → (tyB a false 0).length = (tyX a).length ∧ ((tyB a false 0).getD 0 (0, 0)).1 = 15 := by decide +kernel
theorem ty_2b : ∀ a : Nat, a < 26 → ∀ i : Nat, i < 6 → i < (tyX a).length → ((tyB a false 0).getD i (0, 0)).2 = ((tyX a).getD i (0, 0)).2 := by decide +kernel
theorem ty_2c : ∀ a : Nat, a < 26 → ∀ i : Nat, i < 6 → i < (tyX a).length → 0 < i → ((tyB a false 0).getD i (0, 0)).1 = ((tyX a).getD i (0, 0)).1 + 10 ∧ 0 ≤ ((tyX a).getD i (0, 0)).1 ∧ ((tyX a).getD i (0, 0)).1 ≤ 1000 := by decide +kernel
theorem ty_3 : ∀ a : Nat, a < 26 → ∀ i : Nat, i < 3 → 1 ≤ i → (tyB a true i).length = (tyX a).length ∧ (tyB a true i).getD 0 (0, 0) = (3 + (i : Int), ((tyX a).getD 0 (0, 0)).2) ∧ (tyB a true i).tail = (tyX a).tail := by decide +kernel
theorem ty_4 : ∀ a : Nat, a < 25 → ∀ b : Nat, b < a → 1 ≤ b → (tyX a).take (min (tyX a).length (tyX b).length) ≠ (tyX b).take (min (tyX a).length (tyX b).length) := by decide +kernel

section
variable {W w : World} {L : List AObj} {F : List (Nat × Obj)}
@[reducible] def aBs (g n cap : Nat) (bs : List (Int × Int)) : AObj := aSl 31 2 (.slice (some ⟨g, 0, none⟩) n cap) bs.length (bcs bs)
theorem Hp.bnAt (h : Hp W w L F) (k : Nat) {g n cap : Nat} {bs : List (Int × Int)} (hk : L[k]? = some (aBs g n cap bs)) (hn : bs.length ≤ 100000) : BnIn w (some ⟨g, 0, none⟩) n g 0 bs ∧ n ≤ cap ∧ n = bs.length := by
  obtain ⟨h1, h2⟩ := h.sl k hk
  rcases h2 with ⟨hv, h0⟩ | ⟨g', cap', cur, hv, hg, hh', h4, h5, h6, r⟩
  · simp at hv
  · injection hv with a b c
    simp at a
    subst a
    refine ⟨⟨b, by omega, fun _ => rfl, fun i x hx => ?_⟩, by omega, b⟩
    obtain ⟨q1, q2⟩ := bcs_at bs i x hx
    have hk2 : L[k]? = some (aSl 31 2 (.slice (some ⟨g, 0, none⟩) bs.length cap) bs.length (bcs bs)) := by rw [hk, b]
    rw [Nat.zero_add]
    exact ⟨h.sl_at k hk2 q1, h.sl_at k hk2 q2⟩
theorem equal_q {sp sq : Option Addr} {n m c d g1 o1 g2 o2 : Nat} {a b : List (Int × Int)} (ha : BnIn w sp n g1 o1 a) (hb : BnIn w sq m g2 o2 b) {r : Bool} (hr : decide (a = b) = r) (k : Nat) :
    Calls Tryd.prog 7 #[.slice sp n c, .slice sq m d] (w.drewN k) fun e w' => e = .returned (.bool r) ∧ ∃ m, w' = w.drewN m := by
  subst hr
  exact Calls.quiet_of (equal_any (ha.cells (fun _ => rfl)) (hb.cells (fun _ => rfl)))
end

end Go.Proofs.YtchoiimmcgkimaaDoor
