/- alive, Fit. -/
import Derived.Test.YtchoiimmcgkimaaDoorJe
import Derived.Deep.CutBlock
import Derived.Deep.RegionHeld3
namespace Go.Proofs.YtchoiimmcgkimaaDoor
open Go.RowKit Go.Shelf
set_option linter.unusedVariables false
set_option maxRecDepth 100000
set_option linter.unusedSimpArgs false

section
variable {W w : World} {L : List AObj} {F : List (Nat × Obj)}
theorem bins_hp (h : Hp W w L F) (hz : SzIn W) {ca : Nat} (hca : ca ≤ 4) {inc : Int} (h0 : 0 ≤ inc ∧ inc ≤ 3) {n c g0 o0 : Nat} {f : Nat → Int} (hn : n = szK ca) (hcn : n ≤ c) (hI : IntIn w n g0 o0 f) (hf : ∀ i, i < n → (f i).natAbs ≤ 32768) {B : List (Int × Int)} (hB : blkB (ca : Int) inc n f = B) :
    Calls Tryd.prog 6 #[.int .u8 (ca : Int), .int .i64 inc, .slice (some ⟨g0, o0, none⟩) n c] w fun e w' => ∃ sp cap, e = .returned (.tuple #[.slice sp B.length cap, .int .i64 0]) ∧ Hp W w' (aBn (.slice sp B.length cap) B :: L) F := by
  subst hB
  refine (bins_any (hz.later h.below hz.pos) hca h0.1 h0.2 hn hcn hI hf).mono ?_
  rintro e w' ⟨v, rfl, h2⟩
  have h3 := h.lift h2
  obtain ⟨sp, cap, rfl, _, _⟩ := h3.sl_form 0 at0
  exact ⟨sp, cap, rfl, h3⟩
theorem of28_is {g n c : Nat} {l : List Int} (h : Hp W w L ((g, ctxO l) :: F)) (hn : n = l.length) (hl1 : 0 < l.length) (hl2 : l.length ≤ 100) {B : List (Int × Int)} (hB : ofB l = B) :
    Calls Tryd.prog 16 #[.slice (some ⟨g, 0, none⟩) n c] w fun e w' => ∃ sp cap, e = .returned (.slice sp B.length cap) ∧ Hp W w' (aBn (.slice sp B.length cap) B :: L) F := by
  subst hB
  refine (of28_any h hn hl1 hl2).mono ?_
  rintro e w' ⟨v, rfl, h2⟩
  obtain ⟨sp, cap, rfl, _, _⟩ := h2.sl_form 0 at0
  exact ⟨sp, cap, rfl, h2⟩
theorem eqb_hp (h : Hp W w L F) (j k : Nat) {sp sq : Option Addr} {c d : Nat} {A B : List (Int × Int)} (hj : L[j]? = some (aBn (.slice sp A.length c) A)) (hk : L[k]? = some (aBn (.slice sq B.length d) B)) (hA : A.length ≤ 100000) (hB : B.length ≤ 100000) {r : Bool} (hr : decide (A = B) = r) :
    Calls Tryd.prog 7 #[.slice sp A.length c, .slice sq B.length d] w fun e w' => e = .returned (.bool r) ∧ Hp W w' L F := by
  subst hr
  obtain ⟨g1, b1⟩ := h.bnIn j hj hA
  obtain ⟨g2, b2⟩ := h.bnIn k hk hB
  exact (equal_any b1 b2).mono fun _ _ ⟨he, x, hw⟩ => ⟨he, by subst hw; exact h.drewN x⟩
def kB : List (Int × Int) := ofB ([78, 1, 131, 1, 206, 0, 132, 0, 133, 1, 208, 1, 267, 0, -1, 1, 268, 1, 271, 0, -1, 0] : List Int)
theorem kn_alive : blkB 3 0 4 (fun i => ([2, 0, -1, 0] : List Int).getD i 0) = kB := by decide +kernel
theorem kn_len : kB.length = 11 := by decide +kernel
theorem in_alive {w : World} : IntIn (w.alloc (.cells #[.int .i64 2, .int .i64 0, .int .i64 (-1), .int .i64 0] 3 (0, 0))) 4 w.heap.size 0 (fun i => ([2, 0, -1, 0] : List Int).getD i 0) := by
  have hb : (w.alloc (.cells #[.int .i64 2, .int .i64 0, .int .i64 (-1), .int .i64 0] 3 (0, 0))).heap[w.heap.size]? = some (.cells #[.int .i64 2, .int .i64 0, .int .i64 (-1), .int .i64 0] 3 (0, 0)) := (MapKept.heap_alloc w _).1
  refine ⟨lt_of_block hb, fun i hi => ?_⟩
  rw [Nat.zero_add]
  unfold World.cell?
  rw [hb]
  obtain rfl | rfl | rfl | rfl : i = 0 ∨ i = 1 ∨ i = 2 ∨ i = 3 := by omega
  all_goals rfl

set_option maxHeartbeats 2000000 in
theorem alive28 (h : Hp W w L F) (hz : SzIn W) : Calls Tryd.prog 8 #[] w fun e w' => e = .returned (.bool true) ∧ Hp W w' L F := by
  obtain ⟨B, hB⟩ : ∃ B, kB = B := ⟨_, rfl⟩
  have HB := Lib.hid (show blkB ((3 : Nat) : Int) 0 4 (fun i => ([2, 0, -1, 0] : List Int).getD i 0) = B by rw [← hB]; exact kn_alive)
  have HL := Lib.hid (show B.length ≤ 100000 by rw [← hB, kn_len]; decide)
  have HO := Lib.hid (show ofB ([78, 1, 131, 1, 206, 0, 132, 0, 133, 1, 208, 1, 267, 0, -1, 1, 268, 1, 271, 0, -1, 0] : List Int) = B from hB)
  have HI := Lib.hid (@in_alive w)
  have HZ := Lib.hid hz
  have H := Lib.hid h
  have HA := Lib.hid (show ∀ (w : World) (L : List AObj), Hp W w L F → Hp W (w.alloc (.cells #[.int .i64 78, .int .i64 1, .int .i64 131, .int .i64 1, .int .i64 206, .int .i64 0, .int .i64 132, .int .i64 0, .int .i64 133, .int .i64 1, .int .i64 208, .int .i64 1, .int .i64 267, .int .i64 0, .int .i64 (-1), .int .i64 1, .int .i64 268, .int .i64 1, .int .i64 271, .int .i64 0, .int .i64 (-1), .int .i64 0] 3 (0, 0))) L ((w.heap.size, ctxO ([78, 1, 131, 1, 206, 0, 132, 0, 133, 1, 208, 1, 267, 0, -1, 1, 268, 1, 271, 0, -1, 0] : List Int)) :: F) from fun w L h => h.alloc (ctxO ([78, 1, 131, 1, 206, 0, 132, 0, 133, 1, 208, 1, 267, 0, -1, 1, 268, 1, 271, 0, -1, 0] : List Int)))
  clear hB hz h
  go_enter Tryd.func8, Tryd.ntmps8
  go_wp2_with (first | (go_at_call 6; (refine (bins_hp (ca := 3) (H.out.lost _) HZ.out (by decide) (by decide) rfl (by decide) HI.out (by decide) HB.out).mono ?_); rintro e w1 ⟨sp1, c1, rfl, h1⟩) | (go_at_call 16; (refine (of28_is (HA.out _ _ h1) rfl (by decide) (by decide) HO.out).mono ?_); rintro e w2 ⟨sp2, c2, rfl, h2⟩; clear h1) | (go_at_call 7; (refine (eqb_hp h2 1 0 at1 at0 HL.out HL.out (decide_eq_true rfl)).mono ?_); rintro e w3 ⟨rfl, h3⟩))
  exact bodyPost_ret (results_tmp rfl _ _ _) rfl ⟨rfl, h3.tail.tail⟩
end
end Go.Proofs.YtchoiimmcgkimaaDoor
