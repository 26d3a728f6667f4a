/- The program's package rbsp: what each function does, at every state. -/
import Derived.Test.YtkaoeilijdeioaaTz
import Derived.Test.YtkaoeilijdeioaaAs
import Derived.Laws.EntriesVeiled
namespace Go.Proofs.Ytkaoeilijdeioaa
open Go.RowKit
set_option linter.unusedVariables false
set_option maxRecDepth 100000
set_option linter.unusedSimpArgs false

theorem trB_val (n : Nat) : (2 : Nat) ^ (7 - n % 8) < 2 ^ (8 - n % 8) := Nat.pow_lt_pow_right (by omega) (by omega)

theorem trail_any {W w : World} {L : List AObj} {F : List (Nat × Obj)} (h : Hp W w L F) (k : Nat) {b : Nat} {B : List Bool} (hk : L[k]? = some (aWr b B)) (hB : B.length ≤ 2 ^ 40) :
    Calls Try.prog 25 #[.pointer (some ⟨b, 0, none⟩)] w fun e w' => e = .returned (.int .i64 0) ∧ Hp W w' (L.set k (aWr b (B ++ trB B.length))) F := by
  have hB41 : B.length ≤ 2 ^ 41 := by omega
  obtain ⟨n, hn⟩ : ∃ n, n = 8 - B.length % 8 := ⟨_, rfl⟩
  obtain ⟨q, hq⟩ : ∃ q, q = 7 - B.length % 8 := ⟨_, rfl⟩
  obtain ⟨P, hP⟩ : ∃ P, P = 2 ^ q := ⟨_, rfl⟩
  have hlt := trB_val B.length
  rw [← hq, ← hn, ← hP] at hlt
  have hP7 : P ≤ 128 := by rw [hP]; exact Nat.le_trans (Nat.pow_le_pow_right (by omega) (show q ≤ 7 by omega)) (by decide)
  have q1 : 8 - ((B.length : Nat) : Int) % 8 = (n : Int) := by omega
  have q2 : (n : Int) - 1 = (q : Int) := by omega
  have q3 : IntKind.u64.wrap ((2 : Int) ^ q) = (P : Int) := by rw [show ((2 : Int) ^ q) = ((P : Nat) : Int) by rw [hP]; simp]; exact w_u64 (by omega)
  have hT : trB B.length = bitsN n P := by unfold trB; rw [← hn, hP, hq]
  rw [hT]
  have H := Lib.hid h; clear h
  have HK := Lib.hid hk; clear hk
  have hn8 : n ≤ 64 := by omega
  have R := Lib.hid (And.intro hn (And.intro hq hP)); clear hn hq hP hT
  go_enter Try.func25, Try.ntmps25
  go_wp2_with (first | (go_at_call 62; (with_reducible refine (len_hp H.out k HK.out hB41).mono ?_); rintro e w1 ⟨rfl, hS⟩) | (go_at_call 22; (with_reducible refine (put_good hS k HK.out hB n P hn8 hlt).mono ?_); rintro e w1 ⟨rfl, hS2⟩))
  exact bodyPost_ret (results_tmp rfl _ _ _) rfl ⟨rfl, hS2⟩

theorem trail_nil (w : World) : Calls Try.prog 25 #[.pointer none] w fun e w' => e = .returned (.int .i64 1) ∧ w = w' := by
  go_enter Try.func25, Try.ntmps25
  go_wp2
  exact bodyPost_ret (results_tmp rfl _ _ _) rfl ⟨rfl, rfl⟩

/-- A scan over the reader at block c. -/
abbrev fU (c : Nat) : Value := .func (.func 49) #[.pointer (some ⟨c, 0, none⟩)] #[]
abbrev fLeft (c : Nat) : Value := .func (.func 65) #[.pointer (some ⟨c, 0, none⟩)] #[]

theorem from_any {W w : World} {L : List AObj} {F : List (Nat × Obj)} (h : Hp W w L F) (k : Nat) {b : Nat} {s : ByteArray} {i : Nat} (hk : L[k]? = some (aRd b s i)) :
    Calls Try.prog 66 #[.pointer (some ⟨b, 0, none⟩)] w fun e w' => ∃ c, e = .returned (.agg #[fU c, fLeft c]) ∧ Hp W w' (aRd c s i :: L) F := by
  have H := Lib.hid h; clear h
  have HK := Lib.hid hk; clear hk
  go_enter Try.func66, Try.ntmps66
  go_wp2_with (first | (go_at_call 75; (refine (copy_any (H.out.alloc _) k HK.out).mono ?_); rintro e w1 ⟨c, rfl, hS⟩; have hb := hS.blk (List.mem_cons_self ..); obtain ⟨c0, c1, f0, f1⟩ := cells_two hb))
  have hS2 := (hS.set 0 rfl 0 (fU c)).set 0 rfl 1 (fLeft c)
  have hb2 := hS2.blk (List.mem_cons_self ..)
  obtain ⟨d0, d1, _, _⟩ := cells_two hb2
  refine bodyPost_ret (v := .agg #[fU c, fLeft c]) ?_ rfl ⟨c, rfl, hS2.drop⟩
  clear c0 c1 f0 f1 hb hb2
  simp [results, Try.results66, go_sem, d0, d1]

theorem u_at {W w : World} {L : List AObj} {F : List (Nat × Obj)} {k : Nat} {b : Nat} {s : ByteArray} {i : Nat} {x : AObj} (hk : L[k]? = some x) (h : Hp W w (L.set k (aRd b s i)) F) (n : Int) {t V : Nat} (hn : n = (t : Int)) (ht : t ≤ 64) (hl : i + t ≤ 8 * s.size) (hV : natB (seg (sbits s) i t) = V) :
    Calls Try.prog 49 #[.pointer (some ⟨b, 0, none⟩), .int .i64 n] w fun e w' => e = .returned (.tuple #[.int .u64 V, .int .i64 0]) ∧ Hp W w' (L.set k (aRd b s (i + t))) F := by
  subst hn hV
  have := u_good h k (set_at hk _) t ht hl
  rwa [set_set] at this

set_option maxHeartbeats 2000000 in
theorem zero_any {W w : World} {L : List AObj} {F : List (Nat × Obj)} (h : Hp W w L F) (k : Nat) {c : Nat} {s : ByteArray} {j : Nat} (hk : L[k]? = some (aRd c s j)) (n : Nat) (hn : n ≤ 2 ^ 60) :
    Calls Try.prog 67 #[.agg #[fU c, fLeft c], .int .i64 n] w fun e w' => e = .returned (.bool (zB s j (min n (8 * s.size - j)))) ∧ ∃ j', Hp W w' (L.set k (aRd c s j')) F := by
  obtain ⟨_, hs48, hjs⟩ := h.rd k hk
  have H := Lib.hid (h.alloc (.cells #[fU c, fLeft c] 99 (0, 0))); clear h
  have HK := Lib.hid hk; clear hk
  obtain ⟨l, hl⟩ : ∃ l, l = 8 * s.size - j := ⟨_, rfl⟩
  obtain ⟨m, hm⟩ : ∃ m, m = min n l := ⟨_, rfl⟩
  rw [← hl, ← hm]
  have hl2 : l < 2 ^ 60 := by omega
  by_cases hln : l < n
  all_goals
    have hmn := And.intro (show m ≤ n by omega) (show j + m ≤ 8 * s.size by omega)
    first | (have hml : m = l := by omega) | (have hml : m = n := by omega)
    have R := Lib.hid (And.intro hl hm); clear hm hl
    subst hml
    go_enter Try.func67, Try.ntmps67
    go_wp2_with (first | (go_at_call 65; (with_reducible refine (left_as H.out k HK.out R.out.1).mono ?_); rintro e w1 ⟨rfl, hS⟩))
    have HS := Lib.hid hS; clear hS
    go_loopw [1] (fun n' wr => ∃ q i : Nat, n' = .int .i64 q ∧ j ≤ i ∧ i + q = j + m ∧ Hid (zB s j (i - j) = true) ∧ Hp W wr (L.set k (aRd c s i)) ((w.heap.size, .cells #[fU c, fLeft c] 99 (0, 0)) :: F)) (fun n' _ => (intOf n').toNat)
    case atStart => exact ⟨m, j, rfl, Nat.le_refl _, rfl, Lib.hid (by rw [Nat.sub_self]; exact zB_zero s j), by rw [set_same HK.out]; exact HS.out⟩
    case round =>
      obtain ⟨q, i, rfl, g1, g2, g3, g4⟩ := hrel
      have hb := g4.blk (List.mem_cons_self ..)
      obtain ⟨x0, x1, _, _⟩ := cells_two hb
      clear hb
      have G3 := Lib.hid g3.out; clear g3
      by_cases hq : q = 0
      · subst hq
        have hi : i = j + m := by omega
        have G4 := Lib.hid g4; clear g4
        go_wp2_with (fail)
        refine bodyPost_ret (results_tmp rfl _ _ _) rfl ⟨?_, i, G4.out.drop⟩
        have := G3.out
        rw [hi, Nat.add_sub_cancel_left] at this
        rw [this]; rfl
      · have hq0 : 0 < q := by omega
        obtain ⟨t, ht⟩ : ∃ t, t = min q 64 := ⟨_, rfl⟩
        have ht64 : t ≤ 64 := by omega
        have htq : t ≤ q := by omega
        have hit : i + t ≤ 8 * s.size := by omega
        obtain ⟨V, hV⟩ : ∃ V, V = natB (seg (sbits s) i t) := ⟨_, rfl⟩
        have hz : zB s i t = decide (V = 0) := by rw [hV]; rfl
        have hzz : zB s j (i - j + t) = decide (V = 0) := by rw [zB_add, G3.out, show j + (i - j) = i by omega, hz]; rfl
        have hzm : V ≠ 0 → zB s j m = false := fun hne => by
          rw [show m = i - j + t + (m - (i - j + t)) by omega, zB_add, hzz, decide_eq_false hne]; rfl
        have Z := Lib.hid (And.intro hV (And.intro hzz hzm)); clear hz hzz hzm hV
        obtain ⟨y, hy⟩ : ∃ y, y = 8 * s.size - (i + t) := ⟨_, rfl⟩
        have hyq : q - t ≤ y := by omega
        have Y := Lib.hid hy; clear hy
        by_cases h64 : 64 < q
        · obtain rfl : t = 64 := by omega
          clear ht
          by_cases hv0 : V = 0
          · subst hv0
            go_wp2_with (first | (go_at_call 49; (with_reducible refine (u_at HK.out g4 64 rfl ht64 hit Z.out.1.symm).mono ?_); rintro e w1 ⟨rfl, g5⟩; obtain ⟨x2, x3, _, _⟩ := cells_two (g5.blk (List.mem_cons_self ..)); clear g4) | (go_at_call 65; (with_reducible refine (left_as g5 k (set_at HK.out _) Y.out).mono ?_); rintro e w1 ⟨rfl, g6⟩; clear g5))
            go_roundw
            case rel => exact ⟨q - 64, i + 64, ret_i64 (by omega), by omega, by omega, Lib.hid (by rw [show i + 64 - j = i - j + 64 by omega, Z.out.2.1]; rfl), g6⟩
            case measure => simp [intOf]; omega
          · have hv1 : ((V : Int) == 0) = false := by simp; omega
            go_wp2_with (first | (go_at_call 49; (with_reducible refine (u_at HK.out g4 64 rfl ht64 hit Z.out.1.symm).mono ?_); rintro e w1 ⟨rfl, g5⟩; obtain ⟨x2, x3, _, _⟩ := cells_two (g5.blk (List.mem_cons_self ..)); clear g4))
            exact bodyPost_ret (results_tmp rfl _ _ _) rfl ⟨by rw [Z.out.2.2 hv0]; rfl, _, g5.drop⟩
        · obtain rfl : t = q := by omega
          clear ht
          by_cases hv0 : V = 0
          · subst hv0
            go_wp2_with (first | (go_at_call 49; (with_reducible refine (u_at HK.out g4 (t : Int) rfl ht64 hit Z.out.1.symm).mono ?_); rintro e w1 ⟨rfl, g5⟩; obtain ⟨x2, x3, _, _⟩ := cells_two (g5.blk (List.mem_cons_self ..)); clear g4) | (go_at_call 65; (with_reducible refine (left_as g5 k (set_at HK.out _) Y.out).mono ?_); rintro e w1 ⟨rfl, g6⟩; clear g5))
            go_roundw
            case rel => exact ⟨t - t, i + t, ret_i64 (by omega), by omega, by omega, Lib.hid (by rw [show i + t - j = i - j + t by omega, Z.out.2.1]; rfl), g6⟩
            case measure => simp [intOf]; omega
          · have hv1 : ((V : Int) == 0) = false := by simp; omega
            go_wp2_with (first | (go_at_call 49; (with_reducible refine (u_at HK.out g4 (t : Int) rfl ht64 hit Z.out.1.symm).mono ?_); rintro e w1 ⟨rfl, g5⟩; obtain ⟨x2, x3, _, _⟩ := cells_two (g5.blk (List.mem_cons_self ..)); clear g4))
            exact bodyPost_ret (results_tmp rfl _ _ _) rfl ⟨by rw [Z.out.2.2 hv0]; rfl, _, g5.drop⟩

end Go.Proofs.Ytkaoeilijdeioaa
