/- What is written is read: plain facts on codes; chapter 02's get, fit, code and begins. -/
import Derived.Test.YtlmkabpdgemndaaGf
namespace Go.Proofs.Ytlmkabpdgemndaa
open Go.RowKit
set_option linter.unusedVariables false
set_option maxRecDepth 100000
set_option linter.unusedSimpArgs false

theorem zs_of_natB {s : ByteArray} {i n : Nat} (hl : i + n ≤ 8 * s.size) (h : natB (seg (sbits s) i n) = 0) : Zs s i n := by
  intro k hk
  have e : n = k + (1 + (n - k - 1)) := by omega
  rw [e, seg_add, seg_add, natB_append, natB_append] at h
  have hp := Nat.one_le_two_pow (n := (seg (sbits s) (i + k + 1) (n - k - 1)).length)
  have h1 : natB (seg (sbits s) (i + k) 1) * 2 ^ (seg (sbits s) (i + k + 1) (n - k - 1)).length = 0 := by omega
  have h2 : natB (seg (sbits s) (i + k) 1) = 0 := by
    rcases Nat.mul_eq_zero.1 h1 with h' | h'
    · exact h'
    · omega
  have h3 : uE s (i + k) 1 = 0 := uE_one.2 (by omega)
  exact ⟨h3, by unfold uV; rw [if_pos h3]; exact h2⟩

theorem ue_back {s : ByteArray} {i v : Nat} (hv : v ≤ 4294967294) (hl : i + (2 * ueN v + 1) ≤ 8 * s.size) (h : natB (seg (sbits s) i (2 * ueN v + 1)) = v + 1) :
    ueE s i = 0 ∧ ueV s i = v ∧ ueI s i = i + (2 * ueN v + 1) ∧ gz s i = ueN v := by
  have hn := ueN_le hv
  obtain ⟨g1, g2⟩ := ueN_bounds v
  generalize ueN v = n at *
  have h' := h
  rw [show 2 * n + 1 = n + (1 + n) by omega, seg_add, seg_add, natB_append, natB_append, List.length_append] at h
  have l1 : (seg (sbits s) (i + n + 1) n).length = n := seg_length (by rw [sbits_length]; omega)
  have l2 : (seg (sbits s) (i + n) 1).length = 1 := seg_length (by rw [sbits_length]; omega)
  have hz := natB_lt (seg (sbits s) (i + n + 1) n)
  have hy := seg_one s (i + n)
  rw [l1] at h hz
  rw [l2, show 1 + n = n + 1 by omega, Nat.pow_succ] at h
  have hp := Nat.one_le_two_pow (n := n)
  rw [Nat.pow_succ] at g2
  generalize hX : natB (seg (sbits s) i n) = X at *
  generalize hY : natB (seg (sbits s) (i + n) 1) = Y at *
  generalize natB (seg (sbits s) (i + n + 1) n) = Z at *
  generalize 2 ^ n = p at *
  have hX0 : X = 0 := by
    rcases Nat.eq_zero_or_pos X with c | c
    · exact c
    · have : p * 2 * 1 ≤ p * 2 * X := Nat.mul_le_mul_left _ c
      rw [Nat.mul_comm X] at h; omega
  subst hX0
  have hY1 : Y = 1 := by
    have hy2 : Y = 0 ∨ Y = 1 := by omega
    rcases hy2 with c | c
    · subst c; omega
    · exact c
  have hzs := zs_of_natB (by omega) hX
  have h0 : uE s (i + n) 1 = 0 := uE_one.2 (by omega)
  have hg : gz s i = n := gz_stop hzs (by omega) (fun c => by
    have := c.2
    unfold uV at this; rw [if_pos h0] at this
    have e : natB (seg (sbits s) (i + n) 1) = 0 := this
    omega)
  have he : ueE s i = 0 := by unfold ueE; rw [hg, if_neg (by omega), uE_nat (by omega), if_neg (by omega)]
  refine ⟨he, ?_, ?_, hg⟩
  · unfold ueV; rw [if_pos he, hg, h']; omega
  · unfold ueI; rw [if_pos he, hg]

theorem ueB_nat (v : Nat) : natB (ueB v) = v + 1 := natB_bitsN_lt (ueB_lt v)

theorem ue_back' {s : ByteArray} {i v : Nat} (hv : v ≤ 4294967294) (hl : i + (ueB v).length ≤ 8 * s.size) (h : seg (sbits s) i (ueB v).length = ueB v) :
    ueE s i = 0 ∧ ueV s i = v ∧ ueI s i = i + (ueB v).length := by
  rw [ueB_length] at hl h ⊢
  have := ue_back hv hl (by rw [h, ueB_nat])
  exact ⟨this.1, this.2.1, this.2.2.1⟩

theorem se_back {s : ByteArray} {i : Nat} {v : Int} (h : ueV s i = seN v) : seV s i = v := by
  unfold seV
  rw [h]
  unfold seN
  split <;> split <;> omega

theorem te_back {s : ByteArray} {i m v : Nat} (hm : m ≤ 4294967294) (hv : v ≤ m) (hl : i + (teB m v).length ≤ 8 * s.size) (h : seg (sbits s) i (teB m v).length = teB m v) :
    teE s i m = 0 ∧ teV s i m = v ∧ teI s i m = i + (teB m v).length := by
  by_cases m0 : m = 0
  · subst m0
    obtain rfl : v = 0 := by omega
    exact ⟨rfl, rfl, rfl⟩
  · by_cases m1 : m = 1
    · subst m1
      have e : teB 1 v = bitsN 1 (1 - v) := rfl
      rw [e, bitsN_length] at hl h ⊢
      have e1 : teE s i 1 = 0 := uE_one.2 (by omega)
      have e2 : uV s i 1 = 1 - v := by
        unfold uV; rw [if_pos (show uE s i 1 = 0 from e1)]
        show natB (seg (sbits s) i 1) = _
        rw [h, natB_bitsN_lt (by omega)]
      refine ⟨e1, ?_, ?_⟩
      · unfold teV; rw [if_pos e1, if_neg (by omega), if_pos rfl, e2]; omega
      · unfold teI; rw [if_pos e1, if_neg (by omega), if_pos rfl]; unfold uI; rw [if_pos (show uE s i 1 = 0 from e1)]; rfl
    · have e : teB m v = ueB v := by unfold teB; rw [if_neg m0, if_neg m1]
      rw [e] at hl h ⊢
      obtain ⟨u1, u2, u3⟩ := ue_back' (by omega) hl h
      have e1 : teE s i m = 0 := by unfold teE; rw [if_neg (by omega), if_neg m0, if_neg m1, if_pos u1, u2, if_neg (by omega)]
      refine ⟨e1, ?_, ?_⟩
      · unfold teV; rw [if_pos e1, if_neg m0, if_neg m1, u2]
      · unfold teI; rw [if_pos e1, if_neg m0, if_neg m1, u3]

theorem uk_back {s : ByteArray} {i k v : Nat} (hk : k ≤ 8) (hv : v / 2 ^ k ≤ 4294967294) (hl : i + (ukB k v).length ≤ 8 * s.size) (h : seg (sbits s) i (ukB k v).length = ukB k v) :
    ukE s i k = 0 ∧ ukV s i k = v ∧ ukI s i k = i + (ukB k v).length := by
  unfold ukB at h hl ⊢
  rw [List.length_append] at hl h ⊢
  rw [seg_add] at h
  obtain ⟨h1, h2⟩ := List.append_inj h (seg_length (by rw [sbits_length]; omega))
  obtain ⟨u1, u2, u3⟩ := ue_back' hv (by omega) h1
  rw [bitsN_length] at hl h2 ⊢
  have e0 : uE s (i + (ueB (v / 2 ^ k)).length) (k : Int) = 0 := uE_ok (by omega) (by omega)
  have e1 : ukE s i k = 0 := by unfold ukE; rw [if_neg (by omega), if_pos u1, u3, e0]
  have e2 : uV s (i + (ueB (v / 2 ^ k)).length) (k : Int) = v % 2 ^ k := by
    rw [uV_ok (by omega) (by omega), h2, natB_bitsN, Nat.mod_mod]
  refine ⟨e1, ?_, ?_⟩
  · unfold ukV; rw [if_pos e1, u2, u3, e2, Int.toNat_natCast]
    have := Nat.div_add_mod v (2 ^ k)
    rw [Nat.mul_comm]; exact this
  · unfold ukI; rw [if_pos e1, u3, uI_ok (by omega) (by omega)]; omega

theorem lget_any {W w : World} {L : List AObj} {F : List (Nat × Obj)} (h : Hp W w L F) (j : Nat) {b : Nat} {s : ByteArray} {i : Nat} (hk : L[j]? = some (aRd b s i)) {wh : Int} {m k v : Nat} (ok : CallOk wh m k v)
    (hl : i + (cB wh m k v).length ≤ 8 * s.size) (hs : seg (sbits s) i (cB wh m k v).length = cB wh m k v) (vv : Value) :
    Calls Try.prog 46 #[.pointer (some ⟨b, 0, none⟩), .agg #[.int .u8 wh, .int .u64 m, .int .i64 k, vv]] w fun e w' => e = .returned (.tuple #[.int .u64 v, .int .i64 0]) ∧ Hp W w' (L.set j (aRd b s (i + (cB wh m k v).length))) F := by
  have hm : m < 18446744073709551616 := by have := ok.m1; omega
  have h4 : wh % 4 = 0 ∨ wh % 4 = 1 ∨ wh % 4 = 2 ∨ wh % 4 = 3 := by omega
  have hw := And.intro ok.w0 ok.w1
  have HK := Lib.hid hk; clear hk
  have H := Lib.hid h; clear h
  have OK := Lib.hid ok; clear ok
  rcases h4 with c | c | c | c
  · have e1 : cB wh m k v = ueB v := if_pos c
    rw [e1] at hl hs ⊢
    obtain ⟨u1, u2, u3⟩ := ue_back' (OK.out.v01 (by omega)) hl hs
    clear e1 hl hs
    go_enter Try.func46, Try.ntmps46
    go_wp2_with (first | (go_at_call 17; refine (gue_any (H.out.lost _) j HK.out).mono ?_; rintro e w1 ⟨rfl, hS⟩; simp only [u1, u2, u3] at hS ⊢))
    exact bodyPost_ret (results_tmp2 rfl _ _ _) rfl ⟨rfl, hS⟩
  · have e1 : cB wh m k v = ueB (seN ((v : Int) - 2147483647)) := by unfold cB; rw [if_neg (by omega), if_pos c]
    rw [e1] at hl hs ⊢
    have hb := OK.out.v01 (by omega)
    obtain ⟨u1, u2, u3⟩ := ue_back' (seN_le (v := (v : Int) - 2147483647) (by omega) (by omega)) hl hs
    have u4 := se_back u2
    have q1 : IntKind.i64.wrap ((v : Int) - 2147483647 + 2147483647) = v := by rw [show (v : Int) - 2147483647 + 2147483647 = v by omega]; exact IntWalk.i64_in _ (by omega)
    have q2 : IntKind.u64.wrap (v : Int) = v := w_u64 (by omega)
    clear e1 hl hs u2
    go_enter Try.func46, Try.ntmps46
    go_wp2_with (first | (go_at_call 38; refine (gse_any (H.out.lost _) j HK.out).mono ?_; rintro e w1 ⟨rfl, hS⟩; simp only [u1, u4, u3] at hS ⊢))
    exact bodyPost_ret (results_tmp2 rfl _ _ _) rfl ⟨rfl, hS⟩
  · have e1 : cB wh m k v = teB m v := by unfold cB; rw [if_neg (by omega), if_neg (by omega), if_pos c]
    rw [e1] at hl hs ⊢
    obtain ⟨u1, u2, u3⟩ := te_back OK.out.m1 (OK.out.v2 c) hl hs
    clear e1 hl hs
    go_enter Try.func46, Try.ntmps46
    go_wp2_with (first | (go_at_call 40; refine (gte_any (H.out.lost _) j HK.out m hm).mono ?_; rintro e w1 ⟨rfl, hS⟩; simp only [u1, u2, u3] at hS ⊢))
    exact bodyPost_ret (results_tmp2 rfl _ _ _) rfl ⟨rfl, hS⟩
  · have e1 : cB wh m k v = ukB k v := by unfold cB; rw [if_neg (by omega), if_neg (by omega), if_neg (by omega)]
    rw [e1] at hl hs ⊢
    obtain ⟨u1, u2, u3⟩ := uk_back OK.out.k1 (OK.out.v3 c) hl hs
    clear e1 hl hs
    go_enter Try.func46, Try.ntmps46
    go_wp2_with (first | (go_at_call 42; refine (guk_any (H.out.lost _) j HK.out k).mono ?_; rintro e w1 ⟨rfl, hS⟩; simp only [u1, u2, u3] at hS ⊢))
    exact bodyPost_ret (results_tmp2 rfl _ _ _) rfl ⟨rfl, hS⟩

theorem cells4 {w : World} {b : Nat} {x y z u : Value} {t : TypeId} (h : w.heap[b]? = some (.cells #[x, y, z, u] t (0, 0))) :
    w.cell? ⟨b, 0, none⟩ = some x ∧ w.cell? ⟨b, 1, none⟩ = some y ∧ w.cell? ⟨b, 2, none⟩ = some z ∧ w.cell? ⟨b, 3, none⟩ = some u := by
  simp [World.cell?, h]

theorem code_any {W w : World} {L : List AObj} {F : List (Nat × Obj)} (h : Hp W w L F) {wh : Int} {m k v : Nat} (ok : CallOk wh m k v) :
    Calls Try.prog 34 #[.agg #[.int .u8 wh, .int .u64 m, .int .i64 k, .int .u64 v]] w fun e w' => e = .returned (.string (strB (cB wh m k v))) ∧ Hp W w' L F := by
  have H := Lib.hid h; clear h
  have OK := Lib.hid ok; clear ok
  go_enter Try.func34, Try.ntmps34
  go_wp2_with (first | (go_at_call 13; refine (write_any (H.out.alloc _)).mono ?_; rintro e w1 ⟨wb, rfl, hS⟩; obtain ⟨c0, c1, c2, c3⟩ := cells4 (hS.blk (List.mem_cons_self ..))) | (go_at_call 45; refine (lput_any (B := []) hS 0 at0 (by simp) OK.out).mono ?_; rintro e w1 ⟨rfl, hS2⟩; simp only [set0, List.nil_append] at hS2) | (go_at_call 31; refine (wbits_any hS2 0 at0 (by have := OK.out.len; omega)).mono ?_; rintro e w1 ⟨rfl, hS3⟩))
  exact bodyPost_ret (results_tmp rfl _ _ _) rfl ⟨rfl, hS3.tail.drop⟩

end Go.Proofs.Ytlmkabpdgemndaa
