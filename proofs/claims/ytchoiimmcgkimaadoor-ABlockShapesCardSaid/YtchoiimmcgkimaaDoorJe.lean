/- The law's own functions: rest, of, EqualInts, alive, Fit. -/
import Derived.Test.YtchoiimmcgkimaaDoorJd
import Derived.Test.YtchoiimmcgkimaaDoorVh
import Derived.Deep.RegionLaw
import Derived.Deep.RegionWith
import Derived.StillTailTactics
namespace Go.Proofs.YtchoiimmcgkimaaDoor
open Go.RowKit Go.Shelf
set_option linter.unusedVariables false
set_option maxRecDepth 100000
set_option linter.unusedSimpArgs false

theorem ctx_cell {w : World} {g : Nat} {l : List Int} (h : w.heap[g]? = some (ctxO l)) {i : Nat} (hi : i < l.length) : w.cell? ⟨g, i, none⟩ = some (.int .i64 (l.getD i 0)) := by
  simp only [World.cell?, h]
  simp [List.getElem?_eq_getElem hi]
section
variable {W w : World} {L : List AObj} {F : List (Nat × Obj)}
set_option maxHeartbeats 1000000 in
theorem rest28_any (n m : Int) (hm : 0 < m) (hm2 : m ≤ 4611686018427387904) (h1 : -9223372036854775808 ≤ n) (h2 : n < 9223372036854775808) (w : World) :
    Calls Tryd.prog 10 #[.int .i64 n, .int .i64 m] w fun e w' => e = .returned (.int .i64 (n % m)) ∧ w = w' := by
  have e := tmod_rest n m
  have b1 := Int.tmod_lt_of_pos n hm
  have b2 := Int.lt_tmod_of_pos n hm
  have E := Lib.hid e
  clear e
  have hz : ¬ m = 0 := by omega
  go_enter Tryd.func10, Tryd.ntmps10
  go_wp2_with (fail)
  go_ret
  exact ⟨by rw [← E.out]; rfl, rfl⟩

theorem rest28_is {n m y : Int} (hm : 0 < m ∧ m ≤ 4611686018427387904) (h1 : -9223372036854775808 ≤ n ∧ n < 9223372036854775808) (hy : n % m = y) (w : World) :
    Calls Tryd.prog 10 #[.int .i64 n, .int .i64 m] w fun e w' => e = .returned (.int .i64 y) ∧ w = w' := by
  subst hy
  exact rest28_any n m hm.1 hm.2 h1.1 h1.2 w
set_option maxHeartbeats 2000000 in
theorem of28_any {g n c : Nat} {l : List Int} (h : Hp W w L ((g, ctxO l) :: F)) (hn : n = l.length) (hl1 : 0 < l.length) (hl2 : l.length ≤ 100) :
    Calls Tryd.prog 16 #[.slice (some ⟨g, 0, none⟩) n c] w fun e w' => ∃ v', e = .returned v' ∧ Hp W w' (aBn v' (ofB l) :: L) F := by
  obtain ⟨i0, hi, hz0, hz1, hz2⟩ := bin_info
  have h10 := hl2
  have h0 := h.sl_nil 31 2
  have HN := Lib.hid hn
  rw [← hn] at h10
  have H := Lib.hid h0
  have HL1 := Lib.hid hl1
  have HL2 := Lib.hid hl2
  clear h h0 hn hl1 hl2
  go_enter Tryd.func16, Tryd.ntmps16
  go_wp2_with (fail)
  go_loopw [3, 4] (fun o i wr => ∃ (k : Nat) (sp : Option Addr) (cap : Nat), 2 * k ≤ n ∧ i = .int .i64 ((2 * k : Nat) : Int) ∧ o = .slice sp k cap ∧ Hp W wr (aSl 31 2 (.slice sp k cap) k (bcs (ofB (l.take (2 * k)))) :: L) ((g, ctxO l) :: F)) (fun _ i _ => n - (intOf i).toNat)
  case atStart => exact ⟨0, none, 0, Nat.zero_le _, rfl, rfl, by simpa [ofB, bcs] using H.out⟩
  case round =>
    obtain ⟨k, sp, cap, hk, rfl, rfl, hS⟩ := hrel
    have hC := hS.blk (List.mem_cons_self ..)
    by_cases hlt : 2 * k + 1 < n
    · have c1 := ctx_cell hC (i := 2 * k) (by rw [← HN.out]; omega)
      have c2 := ctx_cell hC (i := 2 * k + 1) (by rw [← HN.out]; omega)
      have hq := ofB_take l k (by rw [← HN.out]; exact hlt)
      generalize l.getD (2 * k) 0 = x at c1 hq
      generalize l.getD (2 * k + 1) 0 = y at c2 hq
      obtain ⟨q, hq2⟩ : ∃ q, q = 2 * k := ⟨_, rfl⟩
      rw [← hq2] at c1 c2 hlt ⊢
      have z1 : ((q : Int)) < (n : Int) := by omega
      have z2 : ((q : Int) + 1) < (n : Int) := by omega
      have z3 : 0 ≤ ((q : Int) + 1) := by omega
      have z4 : ((q : Int) + 1).toNat = q + 1 := by omega
      have z5 : IntKind.i64.wrap ((q : Int) + 1) = (q : Int) + 1 := IntWalk.i64_in _ (by omega)
      have HQ2 := Lib.hid hq2
      clear hq2
      have HS := Lib.hid hS
      have HCC := Lib.hid hC
      have HQ := Lib.hid hq
      clear hS hC hq
      go_wp2_with (fail)
      go_region_law (first | (refine step_append_hp rfl (.tmp 12) (.tmp 24) 26 rfl 31 i0 (bvl (0, 0)) 2 16 Tryd.underlying26 hi hz0 hz1 hz2 rfl (by decide) (HS.out.drew.lost _) 0 at0 (by simp [Act.eval, Act.put]) ⟨wr.heap.size, 0, none⟩ 1 1 (bcs [(x, y % 256)]) (by simp [Act.eval, Act.put]) rfl (bin_new wr.drew _ _ _) (bcs_one _) (by unfold maxLen; omega) (by omega) ?_; intro v2 w2 h2; try simp only [set0] at h2; obtain ⟨sp2, cap2, rfl, _, _⟩ := h2.sl_form 0 at0))
      all_goals
        clear z1 z2 z3 z4 z5
        go_wp2_with (fail)
        go_roundw
        case rel => exact ⟨k + 1, sp2, cap2, by have := HQ2.out; omega, by have := HQ2.out; rw [show ((2 * (k + 1) : Nat) : Int) = (q : Int) + 2 by omega], rfl, by rw [show 2 * (k + 1) = 2 * k + 2 by omega, HQ.out, bcs_append]; exact h2⟩
        case measure => simp [intOf]; omega
    · have e2 : l.take (2 * k) = l.take (2 * (l.length / 2)) := by
        have := HN.out
        congr 1
        omega
      have hk2 : k = l.length / 2 := by
        have := HN.out
        omega
      have e3 : l.take (2 * (l.length / 2)) = l ∨ ofB (l.take (2 * (l.length / 2))) = ofB l := .inr (ofB_even l)
      have HE := Lib.hid (show ofB (l.take (2 * k)) = ofB l by rw [e2]; exact ofB_even l)
      have HK := Lib.hid hk2
      clear e2 e3 hk2
      go_wp2_with (fail)
      refine bodyPost_ret (results_tmp rfl _ _ _) rfl ⟨.slice sp k cap, rfl, ?_⟩
      have h2 := hS.drop
      rw [HE.out] at h2
      unfold aBn
      rw [ofB_len, ← HK.out]
      exact h2

set_option maxHeartbeats 2000000 in
theorem eqi_any {n c d g1 o1 g2 o2 : Nat} {a b : Nat → Int} (ha : IntIn w n g1 o1 a) (hb : IntIn w n g2 o2 b) (hn : n ≤ 100000) {r : Bool} (hr : r = true ↔ ∀ i, i < n → a i = b i) :
    Calls Tryd.prog 9 #[.slice (some ⟨g1, o1, none⟩) n c, .slice (some ⟨g2, o2, none⟩) n d] w fun e w' => e = .returned (.bool r) ∧ ∃ x, w' = w.drewN x := by
  have HR := Lib.hid hr
  have HA := Lib.hid ha
  have HB := Lib.hid hb
  have ne : ((n : Int) != (n : Int)) = false := by simp
  clear hr ha hb
  go_enter Tryd.func9, Tryd.ntmps9
  go_wp2_with (fail)
  go_loopw [5] (fun i wr => ∃ (k x : Nat), k ≤ n ∧ i = .int .i64 k ∧ wr = w.drewN x ∧ Hid (∀ j, j < k → a j = b j)) (fun i _ => n - (intOf i).toNat)
  case atStart => exact ⟨0, 0, Nat.zero_le _, rfl, rfl, Lib.hid (fun j hj => by omega)⟩
  case round =>
    obtain ⟨k, x, hk, rfl, rfl, HQ⟩ := hrel
    by_cases hlt : k < n
    · have c1 := HA.out.cell k hlt
      have c2 := HB.out.cell k hlt
      obtain ⟨p, hp⟩ : ∃ p, a k = p := ⟨_, rfl⟩
      obtain ⟨q, hq⟩ : ∃ q, b k = q := ⟨_, rfl⟩
      rw [hp] at c1
      rw [hq] at c2
      have HP := Lib.hid (And.intro hp hq)
      clear hp hq
      have hlti : (k : Int) < (n : Int) := by omega
      have k0 : (0 : Int) ≤ (k : Int) := by omega
      by_cases hpq : p = q
      · have e1 : (p != q) = false := by simp [hpq]
        have HD := Lib.hid hpq
        clear hpq
        go_wp2_with (fail)
        go_quiet (fail)
        go_wp2_with (fail)
        go_roundw
        case rel => exact ⟨k + 1, x + nq, by omega, by go_num, by simp only [World.drewN, Nat.add_assoc], Lib.hid (fun j hj => by
          by_cases hjk : j < k
          · exact HQ.out j hjk
          · obtain rfl : j = k := by omega
            rw [HP.out.1, HP.out.2]; exact HD.out)⟩
        case measure => simp [intOf]; omega
      · have e1 : (p != q) = true := by simp [hpq]
        have HD := Lib.hid hpq
        clear hpq
        go_wp2_with (fail)
        go_quiet (fail)
        go_wp2_with (fail)
        refine bodyPost_ret (results_tmp rfl _ _ _) rfl ⟨?_, x + nq, by simp only [World.drewN, Nat.add_assoc]⟩
        have : r = false := by
          cases hc : r with
          | false => rfl
          | true => exact absurd (by have := HR.out.1 hc k hlt; rw [HP.out.1, HP.out.2] at this; exact this) HD.out
        rw [this]; rfl
    · obtain rfl : k = n := by omega
      have : r = true := HR.out.2 HQ.out
      subst this
      go_wp2_with (fail)
      exact bodyPost_ret (results_tmp rfl _ _ _) rfl ⟨rfl, x, rfl⟩
end
end Go.Proofs.YtchoiimmcgkimaaDoor
