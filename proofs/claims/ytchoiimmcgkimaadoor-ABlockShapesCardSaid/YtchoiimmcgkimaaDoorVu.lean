/- Unary, Cut, Escape. -/
import Derived.Test.YtchoiimmcgkimaaDoorWb
import Derived.Test.YtchoiimmcgkimaaDoorShelf
import Derived.Lib.ItoaNum
namespace Go.Proofs.YtchoiimmcgkimaaDoor
open Go.RowKit Go.Shelf
set_option linter.unusedVariables false
set_option maxRecDepth 100000
set_option linter.unusedSimpArgs false

/-- Unary: its error and its bins. -/
def unE (v f s r : Int) : Int := if 0 ≤ v ∧ v ≤ 1024 ∧ [f, s, r].all okc = true then 0 else 3
def unB (v f s r : Int) : List (Int × Int) := if unE v f s r = 0 then cntB [f, s, r] v.toNat true else []
def cutE (v m f r : Int) : Int := if 0 ≤ m ∧ m ≤ 1024 ∧ [f, r].all okc = true ∧ 0 ≤ v ∧ v ≤ m then 0 else 3
def cutB (v m f r : Int) : List (Int × Int) := if cutE v m f r = 0 then cntB [f, r] v.toNat (decide (v ≠ m)) else []
/-- How many bits of a number of order k are zeros. -/
def lgN (q : Nat) : Nat := Nat.log2 (q + 1)
def escE (v : Nat) (k : Int) : Int := if k < 0 ∨ 8 < k ∨ 4294967294 < v / 2 ^ k.toNat then 3 else 0
def escB (v : Nat) (k : Int) : List (Int × Int) := if escE v k = 0 then digB (v / 2 ^ k.toNat + 1) (2 * lgN (v / 2 ^ k.toNat) + 1) ++ digB v k.toNat else []
theorem lgN_bounds (v : Nat) : 2 ^ lgN v ≤ v + 1 ∧ v + 1 < 2 ^ (lgN v + 1) := ⟨Nat.log2_self_le (by omega), Nat.lt_log2_self⟩
theorem lgN_of {v n : Nat} (h1 : 2 ^ n ≤ v + 1) (h2 : v + 1 < 2 ^ (n + 1)) : lgN v = n := by
  obtain ⟨g1, g2⟩ := lgN_bounds v
  have a : n < lgN v + 1 := (Nat.pow_lt_pow_iff_right (by omega)).1 (Nat.lt_of_le_of_lt h1 g2)
  have b : lgN v < n + 1 := (Nat.pow_lt_pow_iff_right (by omega)).1 (Nat.lt_of_le_of_lt g1 h2)
  omega
theorem lgN_le {v : Nat} (h : v ≤ 4294967294) : lgN v ≤ 31 := by
  obtain ⟨g1, g2⟩ := lgN_bounds v
  have e : (2 : Nat) ^ 32 = 4294967296 := by decide
  have b : lgN v < 32 := (Nat.pow_lt_pow_iff_right (a := 2) (by omega)).1 (by omega)
  omega
theorem bitLen_lg {v : Nat} (h : v ≤ 4294967294) : Lib.bitLen (v + 1) = lgN v + 1 := by
  have e64 : (2 : Nat) ^ 64 = 18446744073709551616 := by decide
  obtain ⟨h1, h2, h3⟩ := Lib.bitLenAux_bounds 64 (v + 1) (by omega) (by omega)
  obtain ⟨n, hn⟩ : ∃ n, Lib.bitLenAux 64 (v + 1) = n + 1 := ⟨Lib.bitLenAux 64 (v + 1) - 1, by omega⟩
  rw [hn] at h2 h3
  show Lib.bitLenAux 64 (v + 1) = _
  rw [hn, lgN_of (n := n) (by simpa using h2) h3]
theorem len64_lg (v c : Nat) (hv : v ≤ 4294967294) (hc : c = lgN v + 1) (w : World) :
    Calls Tryd.prog 25 #[.int .u64 ((v : Int) + 1)] w fun e w' => e = .returned (.int .i64 (c : Int)) ∧ w = w' := by
  refine (Tryd.bits_Len64 ((v : Int) + 1) w (by omega) (by omega)).mono ?_
  rintro e w' ⟨rfl, rfl⟩
  rw [show ((v : Int) + 1).toNat = v + 1 by omega, bitLen_lg hv, hc]
  exact ⟨rfl, rfl⟩
theorem digits_as {w : World} {V N : Int} {v n : Nat} (hV : V = v) (hN : N = n) (r : Option Nat) (hr : ∀ x, r = some x → x < w.heap.size) :
    Calls Tryd.prog 26 #[.int .u64 V, .int .i64 N] w fun e w' => ∃ bv bn, e = .returned (.func (.func 31) #[] #[.pointer (some ⟨bn, 0, none⟩), .pointer (some ⟨bv, 0, none⟩)]) ∧ DigIn w'.heap.size r w' bv bn v n ∧ Below w.heap.size w w' := by
  subst hV hN
  exact digits_ctx r hr

section
variable {W w : World} {L : List AObj} {F : List (Nat × Obj)}
set_option maxHeartbeats 2000000 in
theorem cut_any (h : Hp W w L F) (v m f r : Int) :
    Calls Tryd.prog 18 #[.int .i64 v, .int .i64 m, .int .i64 f, .int .i64 r] w fun e w' => ∃ v', e = .returned (.tuple #[v', .int .i64 (cutE v m f r)]) ∧ Hp W w' (aBn v' (cutB v m f r) :: L) F := by
  have H := Lib.hid h
  clear h
  by_cases h1 : 0 ≤ m ∧ m ≤ 1024
  · obtain ⟨h1, h2⟩ := h1
    cases ha : [f, r].all okc with
    | true =>
      have hv := fun (w : World) (g n c : Nat) (h : CtxIn w g [f, r]) (hn : n = 2) => (ha ▸ valid_any (c := c) h hn : Calls Tryd.prog 21 #[.slice (some ⟨g, 0, none⟩) n c] w fun e w' => e = .returned (.bool true) ∧ w = w')
      have c1 := ctx_new w [f, r] #[.int .i64 f, .int .i64 r] 3 rfl (by simp) (by simp)
      by_cases h3 : 0 ≤ v
      · by_cases h4 : v ≤ m
        · have e1 : cutE v m f r = 0 := if_pos ⟨h1, h2, ha, h3, h4⟩
          obtain ⟨V, rfl⟩ : ∃ V : Nat, v = V := ⟨v.toNat, by omega⟩
          have e2 : cutB V m f r = cntB [f, r] V (decide ((V : Int) ≠ m)) := by unfold cutB; rw [if_pos e1]; rfl
          rw [e1, e2]
          clear e1 e2 ha
          have C2 := ctx_new (w.alloc (.cells #[.int .i64 f, .int .i64 r] 3)) [f, r] #[.int .i64 f, .int .i64 r] 3 rfl (by simp) (by simp)
          rw [World.size_alloc] at C2
          go_enter Tryd.func18, Tryd.ntmps18
          go_wp2_with (first | (go_at_call 21; (with_reducible refine (hv _ _ 2 _ c1 rfl).mono ?_); rintro e w1 ⟨rfl, rfl⟩) | (go_at_call 24; (with_reducible refine (row_ctx (n := 2) C2 rfl).mono ?_); rintro e w1 ⟨bl, rfl, r1, r2, r3, r4⟩) | (go_at_call 23; (with_reducible refine (counted_ctx r1 r2 r3 rfl).mono ?_); rintro e w2 ⟨bv, ba, bm, rfl, q1, q2⟩; have H2 := (((H.out.lost _).lost _).same r4).same q2) | (go_at_call 22; (with_reducible refine (collect_cnt H2 q1 (by omega)).mono ?_); rintro e w3 ⟨v', rfl, H3⟩))
          exact bodyPost_ret (results_tmp2 rfl _ _ _) rfl ⟨v', rfl, H3⟩
        · have e1 : cutE v m f r = 3 := if_neg (fun h => h4 h.2.2.2.2)
          have e2 : cutB v m f r = [] := by unfold cutB; rw [e1]; rfl
          rw [e1, e2]
          clear e1 e2 ha
          go_enter Tryd.func18, Tryd.ntmps18
          go_wp2_with (first | (go_at_call 21; (with_reducible refine (hv _ _ 2 _ c1 rfl).mono ?_); rintro e w1 ⟨rfl, rfl⟩))
          exact bodyPost_ret (results_tmp2 rfl _ _ _) rfl ⟨.slice none 0 0, rfl, (H.out.lost _).sl_nil _ _⟩
      · have e1 : cutE v m f r = 3 := if_neg (fun h => h3 h.2.2.2.1)
        have e2 : cutB v m f r = [] := by unfold cutB; rw [e1]; rfl
        rw [e1, e2]
        clear e1 e2 ha
        go_enter Tryd.func18, Tryd.ntmps18
        go_wp2_with (first | (go_at_call 21; (with_reducible refine (hv _ _ 2 _ c1 rfl).mono ?_); rintro e w1 ⟨rfl, rfl⟩))
        exact bodyPost_ret (results_tmp2 rfl _ _ _) rfl ⟨.slice none 0 0, rfl, (H.out.lost _).sl_nil _ _⟩
    | false =>
      have e1 : cutE v m f r = 3 := if_neg (by rw [ha]; simp)
      have e2 : cutB v m f r = [] := by unfold cutB; rw [e1]; rfl
      rw [e1, e2]
      clear e1 e2
      have hv := fun (w : World) (g n c : Nat) (h : CtxIn w g [f, r]) (hn : n = 2) => (ha ▸ valid_any (c := c) h hn : Calls Tryd.prog 21 #[.slice (some ⟨g, 0, none⟩) n c] w fun e w' => e = .returned (.bool false) ∧ w = w')
      clear ha
      have c1 := ctx_new w [f, r] #[.int .i64 f, .int .i64 r] 3 rfl (by simp) (by simp)
      go_enter Tryd.func18, Tryd.ntmps18
      go_wp2_with (first | (go_at_call 21; (with_reducible refine (hv _ _ 2 _ c1 rfl).mono ?_); rintro e w1 ⟨rfl, rfl⟩))
      exact bodyPost_ret (results_tmp2 rfl _ _ _) rfl ⟨.slice none 0 0, rfl, (H.out.lost _).sl_nil _ _⟩
  · have e1 : cutE v m f r = 3 := if_neg (fun h => h1 ⟨h.1, h.2.1⟩)
    have e2 : cutB v m f r = [] := by unfold cutB; rw [e1]; rfl
    rw [e1, e2]
    clear e1 e2
    by_cases h2 : m < 0
    · clear h1
      go_enter Tryd.func18, Tryd.ntmps18
      go_wp2_with (fail)
      exact bodyPost_ret (results_tmp2 rfl _ _ _) rfl ⟨.slice none 0 0, rfl, H.out.sl_nil _ _⟩
    · have h3 : 1024 < m := by omega
      clear h1
      go_enter Tryd.func18, Tryd.ntmps18
      go_wp2_with (fail)
      exact bodyPost_ret (results_tmp2 rfl _ _ _) rfl ⟨.slice none 0 0, rfl, H.out.sl_nil _ _⟩

set_option maxHeartbeats 2000000 in
theorem escape_any (h : Hp W w L F) (v : Nat) (k : Int) (hv : v < 18446744073709551616) :
    Calls Tryd.prog 19 #[.int .u64 v, .int .i64 k] w fun e w' => ∃ v', e = .returned (.tuple #[v', .int .i64 (escE v k)]) ∧ Hp W w' (aBn v' (escB v k) :: L) F := by
  have H := Lib.hid h
  clear h
  by_cases h1 : 0 ≤ k ∧ k ≤ 8
  · obtain ⟨h1, h2⟩ := h1
    obtain ⟨K, rfl⟩ : ∃ K : Nat, k = K := ⟨k.toNat, by omega⟩
    obtain ⟨q, hq⟩ : ∃ q, q = v / 2 ^ K := ⟨_, rfl⟩
    have eq : ((v : Int) / 2 ^ K) = (q : Int) := by rw [hq]; simp
    have hqv : q < 18446744073709551616 := by rw [hq]; exact Nat.lt_of_le_of_lt (Nat.div_le_self _ _) hv
    have HV := Lib.hid hv
    by_cases h3 : q ≤ 4294967294
    · have e1 : escE v K = 0 := if_neg (by rw [Int.toNat_natCast, ← hq]; omega)
      have e2 : escB v K = digB (q + 1) (2 * lgN q + 1) ++ digB v K := by unfold escB; rw [if_pos e1, Int.toNat_natCast, ← hq]
      rw [e1, e2]
      obtain ⟨c, hc⟩ : ∃ c, c = lgN q + 1 := ⟨_, rfl⟩
      have hc1 : 1 ≤ c ∧ c ≤ 32 := by have := lgN_le h3; omega
      have e3 : 2 * lgN q + 1 = 2 * c - 1 := by omega
      rw [e3]
      have HC := Lib.hid hc
      clear e1 e2 e3 hq hc hv
      go_enter Tryd.func19, Tryd.ntmps19
      go_wp2_with (first | (go_at_call 25; refine (len64_lg q c h3 HC.out _).mono ?_; rintro e w1 ⟨rfl, rfl⟩) | (go_at_call 26; (with_reducible refine (digits_as (w := w) (v := q + 1) (n := 2 * c - 1) (by omega) (by omega) none (by simp)).mono ?_); rintro e w1 ⟨bv, bn, rfl, q1, q2⟩; have H1 := H.out.same q2) | (go_at_call 22; (with_reducible refine (collect_dig H1 q1 (by omega) (by omega)).mono ?_); rintro e w2 ⟨v2, rfl, H2⟩; have hlt := (H2.sl 0 rfl).lt; clear q1 H1) | (go_at_call 26; (with_reducible refine (digits_as (v := v) (n := K) rfl rfl v2.ownBlock (fun x hx => (hlt x hx).2)).mono ?_); rintro e w1 ⟨bv2, bn2, rfl, q3, q4⟩; have H3 := H2.same q4) | (go_at_call 22; (with_reducible refine (collect_dig_on H3 0 rfl (by rw [digB_length]; omega) q3 (by omega) HV.out).mono ?_); rintro e w3 ⟨v3, rfl, H4⟩))
      exact bodyPost_ret (results_tmp2 rfl _ _ _) rfl ⟨v3, rfl, H4⟩
    · have e1 : escE v K = 3 := if_pos (by rw [Int.toNat_natCast, ← hq]; omega)
      have e2 : escB v K = [] := by unfold escB; rw [e1]; rfl
      rw [e1, e2]
      have hd : decide ((4294967295 : Int) ≤ q) = true := by simp; omega
      clear e1 e2 hq hv
      go_enter Tryd.func19, Tryd.ntmps19
      go_wp2_with (fail)
      exact bodyPost_ret (results_tmp2 rfl _ _ _) rfl ⟨.slice none 0 0, rfl, H.out.sl_nil _ _⟩
  · have e1 : escE v k = 3 := if_pos (by omega)
    have e2 : escB v k = [] := by unfold escB; rw [e1]; rfl
    rw [e1, e2]
    clear e1 e2
    by_cases h2 : k < 0
    · clear h1
      go_enter Tryd.func19, Tryd.ntmps19
      go_wp2_with (fail)
      exact bodyPost_ret (results_tmp2 rfl _ _ _) rfl ⟨.slice none 0 0, rfl, H.out.sl_nil _ _⟩
    · have h3 : 8 < k := by omega
      clear h1
      go_enter Tryd.func19, Tryd.ntmps19
      go_wp2_with (fail)
      exact bodyPost_ret (results_tmp2 rfl _ _ _) rfl ⟨.slice none 0 0, rfl, H.out.sl_nil _ _⟩
end

end Go.Proofs.YtchoiimmcgkimaaDoor
