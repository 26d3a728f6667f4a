/- awake. -/
import Derived.Test.YtnigpledibhiaaaVa
import Derived.Deep.CutBlock
namespace Go.Proofs.Ytnigpledibhiaaa
open Go.RowKit
set_option linter.unusedVariables false
set_option maxRecDepth 100000
set_option linter.unusedSimpArgs false

theorem conv5 {w : World} (a b c d e : UInt8) {v : World} (hv : v = w.alloc (.cells #[.int .u8 (a.toNat : Int), .int .u8 (b.toNat : Int), .int .u8 (c.toNat : Int), .int .u8 (d.toNat : Int), .int .u8 (e.toNat : Int)] 5 (0, 0))) :
    (convert 36 9 (.slice (some ⟨w.heap.size, 0, none⟩) 5 5)).run Try.prog v = .ok (.string ⟨#[a, b, c, d, e]⟩) v := by
  subst hv
  refine run_convert_bytes_back _ 36 9 5 ⟨w.heap.size, 0, none⟩ 5 [a, b, c, d, e] Try.underlying36 Try.underlying5 Try.underlying9 (fun j hj => ?_)
  have hb : (w.alloc (.cells #[.int .u8 (a.toNat : Int), .int .u8 (b.toNat : Int), .int .u8 (c.toNat : Int), .int .u8 (d.toNat : Int), .int .u8 (e.toNat : Int)] 5 (0, 0))).heap[w.heap.size]? = some (.cells #[.int .u8 (a.toNat : Int), .int .u8 (b.toNat : Int), .int .u8 (c.toNat : Int), .int .u8 (d.toNat : Int), .int .u8 (e.toNat : Int)] 5 (0, 0)) := by
    show (w.heap.push _)[w.heap.size]? = _
    exact Array.getElem?_push_size
  obtain ⟨v, hv⟩ : ∃ v, (w.alloc (.cells #[.int .u8 (a.toNat : Int), .int .u8 (b.toNat : Int), .int .u8 (c.toNat : Int), .int .u8 (d.toNat : Int), .int .u8 (e.toNat : Int)] 5 (0, 0))) = v := ⟨_, rfl⟩
  rw [hv] at hb ⊢
  generalize w.heap.size = q at hb ⊢
  obtain ⟨x0, x1, x2, x3, x4⟩ := scells5 hb
  simp at hj
  obtain rfl | rfl | rfl | rfl | rfl : j = 0 ∨ j = 1 ∨ j = 2 ∨ j = 3 ∨ j = 4 := by omega
  · exact x0
  · exact x1
  · exact x2
  · exact x3
  · exact x4

set_option maxHeartbeats 1000000 in
theorem awake_any6 {W w : World} {L : List AObj} {F : List (Nat × Obj)} (h : Hp W w L F) :
    Calls Try.prog 13 #[] w fun e w' => e = .returned (.bool true) ∧ Hp W w' L F := by
  obtain ⟨S0, hS0⟩ : ∃ S : ByteArray, (⟨#[77, 0, 10, 244, 242]⟩ : ByteArray) = S := ⟨_, rfl⟩
  obtain ⟨S4, hS4⟩ : ∃ S : ByteArray, (⟨#[77, 0, 10, 244, 250]⟩ : ByteArray) = S := ⟨_, rfl⟩
  have hc0 : ∀ w : World, (convert 36 9 (.slice (some ⟨w.heap.size, 0, none⟩) 5 5)).run Try.prog (w.alloc (.cells #[.int .u8 77, .int .u8 0, .int .u8 10, .int .u8 244, .int .u8 242] 5 (0, 0))) = .ok (.string S0) (w.alloc (.cells #[.int .u8 77, .int .u8 0, .int .u8 10, .int .u8 244, .int .u8 242] 5 (0, 0))) := fun w => by subst hS0; exact conv5 77 0 10 244 242 rfl
  have hc4 : ∀ w : World, (convert 36 9 (.slice (some ⟨w.heap.size, 0, none⟩) 5 5)).run Try.prog (w.alloc (.cells #[.int .u8 77, .int .u8 0, .int .u8 10, .int .u8 244, .int .u8 250] 5 (0, 0))) = .ok (.string S4) (w.alloc (.cells #[.int .u8 77, .int .u8 0, .int .u8 10, .int .u8 244, .int .u8 250] 5 (0, 0))) := fun w => by subst hS4; exact conv5 77 0 10 244 250 rfl
  have hc5 : ∀ (w : World) (o : Obj), (convert 36 9 (.slice (some ⟨w.heap.size + 1, 0, none⟩) 5 5)).run Try.prog ((w.alloc o).alloc (.cells #[.int .u8 77, .int .u8 0, .int .u8 10, .int .u8 244, .int .u8 250] 5 (0, 0))) = .ok (.string S4) ((w.alloc o).alloc (.cells #[.int .u8 77, .int .u8 0, .int .u8 10, .int .u8 244, .int .u8 250] 5 (0, 0))) := fun w o => by have := hc4 (w.alloc o); rwa [World.size_alloc] at this
  clear hc4
  have z0 : S0.size = 5 := by subst hS0; rfl
  have z4 : S4.size = 5 := by subst hS4; rfl
  have K0 := Lib.hid (show sPay plV = S0 ∧ sErr plV = 0 by subst hS0; exact kn_enc)
  have K1 := Lib.hid (show sDec S0 = (plV, 0) by subst hS0; exact kn_dec0)
  have K2 := Lib.hid (show sDec (S0.extract 0 4) = (s00, 5) by subst hS0; exact kn_dec1)
  have K3 := Lib.hid (show sDec (S0 ++ ⟨#[0]⟩) = (s00, 4) by subst hS0; exact kn_dec2)
  have K4 := Lib.hid (show sDec S4 = (s00, 9) by subst hS4; exact kn_dec3)
  have Z2 := Lib.hid (show (S0.extract 0 4).size ≤ 2 ^ 48 by subst hS0; decide +kernel)
  have Z3 := Lib.hid (show (S0 ++ ⟨#[0]⟩).size ≤ 2 ^ 48 by subst hS0; decide +kernel)
  have H := Lib.hid h
  clear h hS0 hS4
  go_enter Try.func13, Try.ntmps13
  go_upto_region 9 with (first | (go_at_call 16; (with_reducible refine (plain_v (H.out.lost _)).mono ?_); rintro e w1 ⟨rfl, h1⟩) | (go_at_call 9; (refine (senc_as h1 plV okU_V K0.out).mono ?_); rintro e w2 ⟨rfl, h2⟩; clear h1) | (go_at_call 14; (with_reducible refine (sdec_as h2 S0 (by omega) K1.out).mono ?_); rintro e w3 ⟨rfl, h3⟩; clear h2) | (go_at_call 14; (with_reducible refine (sdec_as (h3.alloc (sOb plV)) _ Z2.out K2.out).mono ?_); rintro e w4 ⟨rfl, h4⟩; clear h3) | (go_at_call 14; (with_reducible refine (sdec_as (h4.lost _) _ Z3.out K3.out).mono ?_); rintro e w5 ⟨rfl, h5⟩; clear h4) | (go_at_call 14; (with_reducible refine (sdec_as ((h5.lost _).lost _) S4 (by omega) K4.out).mono ?_); rintro e w6 ⟨rfl, h6⟩; clear h5) | (go_at_call 16; (with_reducible refine (plain_v (h6.lost _)).mono ?_); rintro e w7 ⟨rfl, h7⟩; clear h6) | (go_at_call 16; (with_reducible refine (plain_v h7).mono ?_); rintro e w8 ⟨rfl, h8⟩; clear h7) | (go_at_call 16; (with_reducible refine (plain_v h8).mono ?_); rintro e w9 ⟨rfl, h9⟩; clear h8))
  have h10 := ((h9.alloc (sOb ⟨77, 0, 10, 32, 4, 4, 1, 1, 1⟩)).alloc (sOb ⟨77, 0, 10, 0, 3, 4, 1, 1, 1⟩)).alloc (sOb ⟨77, 0, 10, 0, 4, 4, 1, 128, 64⟩)
  simp only [World.size_alloc] at h10
  clear h9 hc0 hc5
  generalize (((w9.alloc (.cells #[.int .u8 77, .int .u8 0, .int .u8 10, .int .i64 32, .int .i64 4, .int .i64 4, .int .i64 1, .int .i64 1, .int .i64 1] 23 (0, 0))).alloc (.cells #[.int .u8 77, .int .u8 0, .int .u8 10, .int .i64 0, .int .i64 3, .int .i64 4, .int .i64 1, .int .i64 1, .int .i64 1] 23 (0, 0))).alloc (.cells #[.int .u8 77, .int .u8 0, .int .u8 10, .int .i64 0, .int .i64 4, .int .i64 4, .int .i64 1, .int .i64 128, .int .i64 64] 23 (0, 0))) = w10 at h10 ⊢
  generalize w9.heap.size = p at *
  generalize w3.heap.size = p3 at *
  haveI : Nonempty (HpW W L ((p + 1 + 1, sOb ⟨77, 0, 10, 0, 4, 4, 1, 128, 64⟩) :: (p + 1, sOb ⟨77, 0, 10, 0, 3, 4, 1, 1, 1⟩) :: (p, sOb ⟨77, 0, 10, 32, 4, 4, 1, 1, 1⟩) :: (p3, sOb plV) :: F)) := ⟨⟨_, h10⟩⟩
  have cA0 : ∀ x : HpW W L ((p + 1 + 1, sOb ⟨77, 0, 10, 0, 4, 4, 1, 128, 64⟩) :: (p + 1, sOb ⟨77, 0, 10, 0, 3, 4, 1, 1, 1⟩) :: (p, sOb ⟨77, 0, 10, 32, 4, 4, 1, 1, 1⟩) :: (p3, sOb plV) :: F), x.w.cell? ⟨p, 0, none⟩ = some (.int .u8 77) := fun x => (sOb_cells (x.h.blk mem2)).1
  have cA1 : ∀ x : HpW W L ((p + 1 + 1, sOb ⟨77, 0, 10, 0, 4, 4, 1, 128, 64⟩) :: (p + 1, sOb ⟨77, 0, 10, 0, 3, 4, 1, 1, 1⟩) :: (p, sOb ⟨77, 0, 10, 32, 4, 4, 1, 1, 1⟩) :: (p3, sOb plV) :: F), x.w.cell? ⟨p, 1, none⟩ = some (.int .u8 0) := fun x => (sOb_cells (x.h.blk mem2)).2.1
  have cA2 : ∀ x : HpW W L ((p + 1 + 1, sOb ⟨77, 0, 10, 0, 4, 4, 1, 128, 64⟩) :: (p + 1, sOb ⟨77, 0, 10, 0, 3, 4, 1, 1, 1⟩) :: (p, sOb ⟨77, 0, 10, 32, 4, 4, 1, 1, 1⟩) :: (p3, sOb plV) :: F), x.w.cell? ⟨p, 2, none⟩ = some (.int .u8 10) := fun x => (sOb_cells (x.h.blk mem2)).2.2.1
  have cA3 : ∀ x : HpW W L ((p + 1 + 1, sOb ⟨77, 0, 10, 0, 4, 4, 1, 128, 64⟩) :: (p + 1, sOb ⟨77, 0, 10, 0, 3, 4, 1, 1, 1⟩) :: (p, sOb ⟨77, 0, 10, 32, 4, 4, 1, 1, 1⟩) :: (p3, sOb plV) :: F), x.w.cell? ⟨p, 3, none⟩ = some (.int .i64 32) := fun x => (sOb_cells (x.h.blk mem2)).2.2.2.1
  have cA4 : ∀ x : HpW W L ((p + 1 + 1, sOb ⟨77, 0, 10, 0, 4, 4, 1, 128, 64⟩) :: (p + 1, sOb ⟨77, 0, 10, 0, 3, 4, 1, 1, 1⟩) :: (p, sOb ⟨77, 0, 10, 32, 4, 4, 1, 1, 1⟩) :: (p3, sOb plV) :: F), x.w.cell? ⟨p, 4, none⟩ = some (.int .i64 4) := fun x => (sOb_cells (x.h.blk mem2)).2.2.2.2.1
  have cA5 : ∀ x : HpW W L ((p + 1 + 1, sOb ⟨77, 0, 10, 0, 4, 4, 1, 128, 64⟩) :: (p + 1, sOb ⟨77, 0, 10, 0, 3, 4, 1, 1, 1⟩) :: (p, sOb ⟨77, 0, 10, 32, 4, 4, 1, 1, 1⟩) :: (p3, sOb plV) :: F), x.w.cell? ⟨p, 5, none⟩ = some (.int .i64 4) := fun x => (sOb_cells (x.h.blk mem2)).2.2.2.2.2.1
  have cA6 : ∀ x : HpW W L ((p + 1 + 1, sOb ⟨77, 0, 10, 0, 4, 4, 1, 128, 64⟩) :: (p + 1, sOb ⟨77, 0, 10, 0, 3, 4, 1, 1, 1⟩) :: (p, sOb ⟨77, 0, 10, 32, 4, 4, 1, 1, 1⟩) :: (p3, sOb plV) :: F), x.w.cell? ⟨p, 6, none⟩ = some (.int .i64 1) := fun x => (sOb_cells (x.h.blk mem2)).2.2.2.2.2.2.1
  have cA7 : ∀ x : HpW W L ((p + 1 + 1, sOb ⟨77, 0, 10, 0, 4, 4, 1, 128, 64⟩) :: (p + 1, sOb ⟨77, 0, 10, 0, 3, 4, 1, 1, 1⟩) :: (p, sOb ⟨77, 0, 10, 32, 4, 4, 1, 1, 1⟩) :: (p3, sOb plV) :: F), x.w.cell? ⟨p, 7, none⟩ = some (.int .i64 1) := fun x => (sOb_cells (x.h.blk mem2)).2.2.2.2.2.2.2.1
  have cA8 : ∀ x : HpW W L ((p + 1 + 1, sOb ⟨77, 0, 10, 0, 4, 4, 1, 128, 64⟩) :: (p + 1, sOb ⟨77, 0, 10, 0, 3, 4, 1, 1, 1⟩) :: (p, sOb ⟨77, 0, 10, 32, 4, 4, 1, 1, 1⟩) :: (p3, sOb plV) :: F), x.w.cell? ⟨p, 8, none⟩ = some (.int .i64 1) := fun x => (sOb_cells (x.h.blk mem2)).2.2.2.2.2.2.2.2
  have cB0 : ∀ x : HpW W L ((p + 1 + 1, sOb ⟨77, 0, 10, 0, 4, 4, 1, 128, 64⟩) :: (p + 1, sOb ⟨77, 0, 10, 0, 3, 4, 1, 1, 1⟩) :: (p, sOb ⟨77, 0, 10, 32, 4, 4, 1, 1, 1⟩) :: (p3, sOb plV) :: F), x.w.cell? ⟨p + 1, 0, none⟩ = some (.int .u8 77) := fun x => (sOb_cells (x.h.blk mem1)).1
  have cB1 : ∀ x : HpW W L ((p + 1 + 1, sOb ⟨77, 0, 10, 0, 4, 4, 1, 128, 64⟩) :: (p + 1, sOb ⟨77, 0, 10, 0, 3, 4, 1, 1, 1⟩) :: (p, sOb ⟨77, 0, 10, 32, 4, 4, 1, 1, 1⟩) :: (p3, sOb plV) :: F), x.w.cell? ⟨p + 1, 1, none⟩ = some (.int .u8 0) := fun x => (sOb_cells (x.h.blk mem1)).2.1
  have cB2 : ∀ x : HpW W L ((p + 1 + 1, sOb ⟨77, 0, 10, 0, 4, 4, 1, 128, 64⟩) :: (p + 1, sOb ⟨77, 0, 10, 0, 3, 4, 1, 1, 1⟩) :: (p, sOb ⟨77, 0, 10, 32, 4, 4, 1, 1, 1⟩) :: (p3, sOb plV) :: F), x.w.cell? ⟨p + 1, 2, none⟩ = some (.int .u8 10) := fun x => (sOb_cells (x.h.blk mem1)).2.2.1
  have cB3 : ∀ x : HpW W L ((p + 1 + 1, sOb ⟨77, 0, 10, 0, 4, 4, 1, 128, 64⟩) :: (p + 1, sOb ⟨77, 0, 10, 0, 3, 4, 1, 1, 1⟩) :: (p, sOb ⟨77, 0, 10, 32, 4, 4, 1, 1, 1⟩) :: (p3, sOb plV) :: F), x.w.cell? ⟨p + 1, 3, none⟩ = some (.int .i64 0) := fun x => (sOb_cells (x.h.blk mem1)).2.2.2.1
  have cB4 : ∀ x : HpW W L ((p + 1 + 1, sOb ⟨77, 0, 10, 0, 4, 4, 1, 128, 64⟩) :: (p + 1, sOb ⟨77, 0, 10, 0, 3, 4, 1, 1, 1⟩) :: (p, sOb ⟨77, 0, 10, 32, 4, 4, 1, 1, 1⟩) :: (p3, sOb plV) :: F), x.w.cell? ⟨p + 1, 4, none⟩ = some (.int .i64 3) := fun x => (sOb_cells (x.h.blk mem1)).2.2.2.2.1
  have cB5 : ∀ x : HpW W L ((p + 1 + 1, sOb ⟨77, 0, 10, 0, 4, 4, 1, 128, 64⟩) :: (p + 1, sOb ⟨77, 0, 10, 0, 3, 4, 1, 1, 1⟩) :: (p, sOb ⟨77, 0, 10, 32, 4, 4, 1, 1, 1⟩) :: (p3, sOb plV) :: F), x.w.cell? ⟨p + 1, 5, none⟩ = some (.int .i64 4) := fun x => (sOb_cells (x.h.blk mem1)).2.2.2.2.2.1
  have cB6 : ∀ x : HpW W L ((p + 1 + 1, sOb ⟨77, 0, 10, 0, 4, 4, 1, 128, 64⟩) :: (p + 1, sOb ⟨77, 0, 10, 0, 3, 4, 1, 1, 1⟩) :: (p, sOb ⟨77, 0, 10, 32, 4, 4, 1, 1, 1⟩) :: (p3, sOb plV) :: F), x.w.cell? ⟨p + 1, 6, none⟩ = some (.int .i64 1) := fun x => (sOb_cells (x.h.blk mem1)).2.2.2.2.2.2.1
  have cB7 : ∀ x : HpW W L ((p + 1 + 1, sOb ⟨77, 0, 10, 0, 4, 4, 1, 128, 64⟩) :: (p + 1, sOb ⟨77, 0, 10, 0, 3, 4, 1, 1, 1⟩) :: (p, sOb ⟨77, 0, 10, 32, 4, 4, 1, 1, 1⟩) :: (p3, sOb plV) :: F), x.w.cell? ⟨p + 1, 7, none⟩ = some (.int .i64 1) := fun x => (sOb_cells (x.h.blk mem1)).2.2.2.2.2.2.2.1
  have cB8 : ∀ x : HpW W L ((p + 1 + 1, sOb ⟨77, 0, 10, 0, 4, 4, 1, 128, 64⟩) :: (p + 1, sOb ⟨77, 0, 10, 0, 3, 4, 1, 1, 1⟩) :: (p, sOb ⟨77, 0, 10, 32, 4, 4, 1, 1, 1⟩) :: (p3, sOb plV) :: F), x.w.cell? ⟨p + 1, 8, none⟩ = some (.int .i64 1) := fun x => (sOb_cells (x.h.blk mem1)).2.2.2.2.2.2.2.2
  have cC0 : ∀ x : HpW W L ((p + 1 + 1, sOb ⟨77, 0, 10, 0, 4, 4, 1, 128, 64⟩) :: (p + 1, sOb ⟨77, 0, 10, 0, 3, 4, 1, 1, 1⟩) :: (p, sOb ⟨77, 0, 10, 32, 4, 4, 1, 1, 1⟩) :: (p3, sOb plV) :: F), x.w.cell? ⟨p + 1 + 1, 0, none⟩ = some (.int .u8 77) := fun x => (sOb_cells (x.h.blk (List.mem_cons_self ..))).1
  have cC1 : ∀ x : HpW W L ((p + 1 + 1, sOb ⟨77, 0, 10, 0, 4, 4, 1, 128, 64⟩) :: (p + 1, sOb ⟨77, 0, 10, 0, 3, 4, 1, 1, 1⟩) :: (p, sOb ⟨77, 0, 10, 32, 4, 4, 1, 1, 1⟩) :: (p3, sOb plV) :: F), x.w.cell? ⟨p + 1 + 1, 1, none⟩ = some (.int .u8 0) := fun x => (sOb_cells (x.h.blk (List.mem_cons_self ..))).2.1
  have cC2 : ∀ x : HpW W L ((p + 1 + 1, sOb ⟨77, 0, 10, 0, 4, 4, 1, 128, 64⟩) :: (p + 1, sOb ⟨77, 0, 10, 0, 3, 4, 1, 1, 1⟩) :: (p, sOb ⟨77, 0, 10, 32, 4, 4, 1, 1, 1⟩) :: (p3, sOb plV) :: F), x.w.cell? ⟨p + 1 + 1, 2, none⟩ = some (.int .u8 10) := fun x => (sOb_cells (x.h.blk (List.mem_cons_self ..))).2.2.1
  have cC3 : ∀ x : HpW W L ((p + 1 + 1, sOb ⟨77, 0, 10, 0, 4, 4, 1, 128, 64⟩) :: (p + 1, sOb ⟨77, 0, 10, 0, 3, 4, 1, 1, 1⟩) :: (p, sOb ⟨77, 0, 10, 32, 4, 4, 1, 1, 1⟩) :: (p3, sOb plV) :: F), x.w.cell? ⟨p + 1 + 1, 3, none⟩ = some (.int .i64 0) := fun x => (sOb_cells (x.h.blk (List.mem_cons_self ..))).2.2.2.1
  have cC4 : ∀ x : HpW W L ((p + 1 + 1, sOb ⟨77, 0, 10, 0, 4, 4, 1, 128, 64⟩) :: (p + 1, sOb ⟨77, 0, 10, 0, 3, 4, 1, 1, 1⟩) :: (p, sOb ⟨77, 0, 10, 32, 4, 4, 1, 1, 1⟩) :: (p3, sOb plV) :: F), x.w.cell? ⟨p + 1 + 1, 4, none⟩ = some (.int .i64 4) := fun x => (sOb_cells (x.h.blk (List.mem_cons_self ..))).2.2.2.2.1
  have cC5 : ∀ x : HpW W L ((p + 1 + 1, sOb ⟨77, 0, 10, 0, 4, 4, 1, 128, 64⟩) :: (p + 1, sOb ⟨77, 0, 10, 0, 3, 4, 1, 1, 1⟩) :: (p, sOb ⟨77, 0, 10, 32, 4, 4, 1, 1, 1⟩) :: (p3, sOb plV) :: F), x.w.cell? ⟨p + 1 + 1, 5, none⟩ = some (.int .i64 4) := fun x => (sOb_cells (x.h.blk (List.mem_cons_self ..))).2.2.2.2.2.1
  have cC6 : ∀ x : HpW W L ((p + 1 + 1, sOb ⟨77, 0, 10, 0, 4, 4, 1, 128, 64⟩) :: (p + 1, sOb ⟨77, 0, 10, 0, 3, 4, 1, 1, 1⟩) :: (p, sOb ⟨77, 0, 10, 32, 4, 4, 1, 1, 1⟩) :: (p3, sOb plV) :: F), x.w.cell? ⟨p + 1 + 1, 6, none⟩ = some (.int .i64 1) := fun x => (sOb_cells (x.h.blk (List.mem_cons_self ..))).2.2.2.2.2.2.1
  have cC7 : ∀ x : HpW W L ((p + 1 + 1, sOb ⟨77, 0, 10, 0, 4, 4, 1, 128, 64⟩) :: (p + 1, sOb ⟨77, 0, 10, 0, 3, 4, 1, 1, 1⟩) :: (p, sOb ⟨77, 0, 10, 32, 4, 4, 1, 1, 1⟩) :: (p3, sOb plV) :: F), x.w.cell? ⟨p + 1 + 1, 7, none⟩ = some (.int .i64 128) := fun x => (sOb_cells (x.h.blk (List.mem_cons_self ..))).2.2.2.2.2.2.2.1
  have cC8 : ∀ x : HpW W L ((p + 1 + 1, sOb ⟨77, 0, 10, 0, 4, 4, 1, 128, 64⟩) :: (p + 1, sOb ⟨77, 0, 10, 0, 3, 4, 1, 1, 1⟩) :: (p, sOb ⟨77, 0, 10, 32, 4, 4, 1, 1, 1⟩) :: (p3, sOb plV) :: F), x.w.cell? ⟨p + 1 + 1, 8, none⟩ = some (.int .i64 64) := fun x => (sOb_cells (x.h.blk (List.mem_cons_self ..))).2.2.2.2.2.2.2.2
  have c30 : ∀ x : HpW W L ((p + 1 + 1, sOb ⟨77, 0, 10, 0, 4, 4, 1, 128, 64⟩) :: (p + 1, sOb ⟨77, 0, 10, 0, 3, 4, 1, 1, 1⟩) :: (p, sOb ⟨77, 0, 10, 32, 4, 4, 1, 1, 1⟩) :: (p3, sOb plV) :: F), x.w.cell? ⟨p3, 0, none⟩ = some (.int .u8 77) := fun x => (sOb_cells (x.h.blk mem3)).1
  have c31 : ∀ x : HpW W L ((p + 1 + 1, sOb ⟨77, 0, 10, 0, 4, 4, 1, 128, 64⟩) :: (p + 1, sOb ⟨77, 0, 10, 0, 3, 4, 1, 1, 1⟩) :: (p, sOb ⟨77, 0, 10, 32, 4, 4, 1, 1, 1⟩) :: (p3, sOb plV) :: F), x.w.cell? ⟨p3, 1, none⟩ = some (.int .u8 0) := fun x => (sOb_cells (x.h.blk mem3)).2.1
  have c32 : ∀ x : HpW W L ((p + 1 + 1, sOb ⟨77, 0, 10, 0, 4, 4, 1, 128, 64⟩) :: (p + 1, sOb ⟨77, 0, 10, 0, 3, 4, 1, 1, 1⟩) :: (p, sOb ⟨77, 0, 10, 32, 4, 4, 1, 1, 1⟩) :: (p3, sOb plV) :: F), x.w.cell? ⟨p3, 2, none⟩ = some (.int .u8 10) := fun x => (sOb_cells (x.h.blk mem3)).2.2.1
  have c33 : ∀ x : HpW W L ((p + 1 + 1, sOb ⟨77, 0, 10, 0, 4, 4, 1, 128, 64⟩) :: (p + 1, sOb ⟨77, 0, 10, 0, 3, 4, 1, 1, 1⟩) :: (p, sOb ⟨77, 0, 10, 32, 4, 4, 1, 1, 1⟩) :: (p3, sOb plV) :: F), x.w.cell? ⟨p3, 3, none⟩ = some (.int .i64 0) := fun x => (sOb_cells (x.h.blk mem3)).2.2.2.1
  have c34 : ∀ x : HpW W L ((p + 1 + 1, sOb ⟨77, 0, 10, 0, 4, 4, 1, 128, 64⟩) :: (p + 1, sOb ⟨77, 0, 10, 0, 3, 4, 1, 1, 1⟩) :: (p, sOb ⟨77, 0, 10, 32, 4, 4, 1, 1, 1⟩) :: (p3, sOb plV) :: F), x.w.cell? ⟨p3, 4, none⟩ = some (.int .i64 4) := fun x => (sOb_cells (x.h.blk mem3)).2.2.2.2.1
  have c35 : ∀ x : HpW W L ((p + 1 + 1, sOb ⟨77, 0, 10, 0, 4, 4, 1, 128, 64⟩) :: (p + 1, sOb ⟨77, 0, 10, 0, 3, 4, 1, 1, 1⟩) :: (p, sOb ⟨77, 0, 10, 32, 4, 4, 1, 1, 1⟩) :: (p3, sOb plV) :: F), x.w.cell? ⟨p3, 5, none⟩ = some (.int .i64 4) := fun x => (sOb_cells (x.h.blk mem3)).2.2.2.2.2.1
  have c36 : ∀ x : HpW W L ((p + 1 + 1, sOb ⟨77, 0, 10, 0, 4, 4, 1, 128, 64⟩) :: (p + 1, sOb ⟨77, 0, 10, 0, 3, 4, 1, 1, 1⟩) :: (p, sOb ⟨77, 0, 10, 32, 4, 4, 1, 1, 1⟩) :: (p3, sOb plV) :: F), x.w.cell? ⟨p3, 6, none⟩ = some (.int .i64 1) := fun x => (sOb_cells (x.h.blk mem3)).2.2.2.2.2.2.1
  have c37 : ∀ x : HpW W L ((p + 1 + 1, sOb ⟨77, 0, 10, 0, 4, 4, 1, 128, 64⟩) :: (p + 1, sOb ⟨77, 0, 10, 0, 3, 4, 1, 1, 1⟩) :: (p, sOb ⟨77, 0, 10, 32, 4, 4, 1, 1, 1⟩) :: (p3, sOb plV) :: F), x.w.cell? ⟨p3, 7, none⟩ = some (.int .i64 1) := fun x => (sOb_cells (x.h.blk mem3)).2.2.2.2.2.2.2.1
  have c38 : ∀ x : HpW W L ((p + 1 + 1, sOb ⟨77, 0, 10, 0, 4, 4, 1, 128, 64⟩) :: (p + 1, sOb ⟨77, 0, 10, 0, 3, 4, 1, 1, 1⟩) :: (p, sOb ⟨77, 0, 10, 32, 4, 4, 1, 1, 1⟩) :: (p3, sOb plV) :: F), x.w.cell? ⟨p3, 8, none⟩ = some (.int .i64 1) := fun x => (sOb_cells (x.h.blk mem3)).2.2.2.2.2.2.2.2
  have E2 : ∀ w, (Op.equalIn 10000 23 (sv plV) (sv plV)).run Try.prog w = .ok true w := fun w => by rw [sps_eq, decide_eq_true rfl]
  have HB := Lib.hid h10
  clear h10
  refine wp_region_hp HB.out (by kernel_rfl) (by kernel_rfl) ?_
  repeat (go_big_quiet_step ((first | (go_at_call 16; with_reducible exact HpW.call (plain_v (HpW.h _))) | (go_at_call 11; with_reducible exact HpW.call (scheck_as (HpW.h _) ⟨77, 0, 10, 32, 4, 4, 1, 1, 1⟩ kn_chk.1)) | (go_at_call 11; with_reducible exact HpW.call (scheck_as (HpW.h _) ⟨77, 0, 10, 0, 3, 4, 1, 1, 1⟩ kn_chk.2.1)) | (go_at_call 11; with_reducible exact HpW.call (scheck_as (HpW.h _) ⟨77, 0, 10, 0, 4, 4, 1, 128, 64⟩ kn_chk.2.2.1)) | (go_at_call 11; with_reducible exact HpW.call (scheck_as (HpW.h _) s00 kn_chk.2.2.2)))))
  refine wpQuiet_nil ?_
  rintro _ ⟨⟨wq, hq⟩, rfl⟩
  go_wp2_with (fail)
  exact bodyPost_ret (results_tmp rfl _ _ _) rfl ⟨rfl, hq.drop.drop.drop.drop⟩
end Go.Proofs.Ytnigpledibhiaaa
