/- The walks of RbspReads, RbspTrails, RbspOnly. -/
import Derived.Test.YtlckjjgamnphbaaTl
import Derived.Lib.Strings
namespace Go.Proofs.Ytlckjjgamnphbaa
open Go.RowKit
set_option linter.unusedVariables false
set_option maxRecDepth 100000
set_option linter.unusedSimpArgs false

theorem mod_cast_ex {s : ByteArray} {n : Int} (h0 : 0 ≤ n) : ∃ K : Nat, n % (8 * (s.size : Int) + 1) = (K : Int) ∧ K ≤ 8 * s.size := by
  have h1 := Int.emod_nonneg n (show (8 * (s.size : Int) + 1) ≠ 0 by omega)
  have h2 := Int.emod_lt_of_pos n (show (0 : Int) < 8 * (s.size : Int) + 1 by omega)
  exact ⟨(n % (8 * (s.size : Int) + 1)).toNat, by omega, by omega⟩

theorem treads_walk (s : ByteArray) (n : Int) (wd : Bool) (h0 : 0 ≤ n) (h9 : n ≤ 65535) (W : World) :
    Calls Try.prog 5 #[.string s, .int .u16 n, .bool wd] W fun e w' => e = .returned (.bool true) ∧ Below W.heap.size W w' := by
  have hS := Hp.start W
  by_cases hs : s.size ≤ 300
  · have hs48 : s.size ≤ 2 ^ 48 := by omega
    have hsd : decide (300 < s.size) = false := by simp; omega
    obtain ⟨K, hK, _⟩ := mod_cast_ex (s := s) h0
    have HK := Lib.hid hK; clear hK
    go_enter Try.func5, Try.ntmps5
    go_wp2_with (first | (go_at_call 9; (with_reducible refine (lat_any hS s hs48 n h0 h9 HK.out).mono ?_); rintro e w1 ⟨rb, qb, rfl, h1⟩; clear hS) | (go_at_call 11; (with_reducible refine (more_any h1 1 at1).mono ?_); rintro e w1 ⟨rfl, h2⟩; clear h1) | (go_at_call 20; (with_reducible refine (rmore_any h2 0 at0).mono ?_); rintro e w1 ⟨rfl, rfl⟩) | (go_at_call 21; (with_reducible refine (pos_any h2 1 at1).mono ?_); rintro e w1 ⟨rfl, rfl⟩) | (go_at_call 22; (with_reducible refine (qpos_any h2 0 at0).mono ?_); rintro e w1 ⟨rfl, rfl⟩) | (go_at_call 12; (with_reducible refine (end_any h2 1 at1 wd).mono ?_); rintro e w1 ⟨rfl, h3⟩; simp only [set1] at h3; clear h2) | (go_at_call 23; (with_reducible refine (rend_any h3 0 at0 wd).mono ?_); rintro e w1 ⟨rfl, h4⟩; simp only [set0] at h4; clear h3) | (go_at_call 21; (with_reducible refine (pos_any h4 1 at1).mono ?_); rintro e w1 ⟨rfl, rfl⟩) | (go_at_call 22; (with_reducible refine (qpos_any h4 0 at0).mono ?_); rintro e w1 ⟨rfl, rfl⟩) | (go_at_call 17; (with_reducible refine (tknown_any h4).mono ?_); rintro e w1 ⟨rfl, h5⟩))
    exact bodyPost_ret (results_tmp rfl _ _ _) rfl ⟨rfl, h5.below⟩
  · have hsd : decide (300 < s.size) = true := by simp; omega
    go_enter Try.func5, Try.ntmps5
    go_wp2_with (first | (go_at_call 17; (with_reducible refine (tknown_any hS).mono ?_); rintro e w1 ⟨rfl, h5⟩))
    exact bodyPost_ret (results_tmp rfl _ _ _) rfl ⟨rfl, h5.below⟩

theorem qbit_in {W w : World} {L : List AObj} {F : List (Nat × Obj)} {b : Nat} (h : Hp W w L F) (k : Nat) {s : ByteArray} {j : Nat} (hk : L[k]? = some (aQrd b s j)) (hj : j < 8 * s.size) {V : Nat} (hV : V = bt s j) :
    Calls Try.prog 29 #[.pointer (some ⟨b, 0, none⟩)] w fun e w' => e = .returned (.tuple #[.int .u8 V, .int .i64 0]) ∧ Hp W w' (L.set k (aQrd b s (j + 1))) F := by
  subst hV
  have e1 : uE s j 1 = 0 := by unfold uE; rw [if_neg (by omega), if_neg (by omega)]
  have e2 : uV s j 1 = bt s j := by unfold uV; rw [if_pos e1]; rfl
  have e3 : uI s j 1 = j + 1 := by unfold uI; rw [if_pos e1]; rfl
  have := qbit_any h k hk
  rwa [e1, e2, e3] at this
theorem qput_bit {W w : World} {L : List AObj} {F : List (Nat × Obj)} {b : Nat} (h : Hp W w L F) (k : Nat) {B B' : List Bool} (hk : L[k]? = some (aQwr b B)) (hB : B.length ≤ 2 ^ 40) {V : Nat} (hV : V ≤ 1) (hb : B' = B ++ [decide (V = 1)]) :
    Calls Try.prog 30 #[.pointer (some ⟨b, 0, none⟩), .int .i64 1, .int .u64 V] w fun e w' => e = .returned (.int .i64 0) ∧ Hp W w' (L.set k (aQwr b B')) F := by
  have := qput_good h k hk hB 1 V (by omega) (by omega)
  have e : bitsN 1 V = [decide (V = 1)] := by
    rcases (show V = 0 ∨ V = 1 by omega) with rfl | rfl <;> rfl
  rw [e, ← hb] at this
  exact this

set_option maxHeartbeats 1000000 in
theorem ttrails_walk (s : ByteArray) (n : Int) (h0 : 0 ≤ n) (h9 : n ≤ 65535) (W : World) :
    Calls Try.prog 8 #[.string s, .int .u16 n] W fun e w' => e = .returned (.bool true) ∧ Below W.heap.size W w' := by
  have hS := Hp.start W
  by_cases hs : s.size ≤ 300
  · have hs48 : s.size ≤ 2 ^ 48 := by omega
    have hsd : decide (300 < s.size) = false := by simp; omega
    obtain ⟨K, hK, hK8⟩ := mod_cast_ex (s := s) h0
    go_enter Try.func8, Try.ntmps8
    go_wp2_with (first | (go_at_call 27; (with_reducible refine (qread_any hS s hs48).mono ?_); rintro e w1 ⟨rb, rfl, h1⟩; clear hS) | (go_at_call 13; (with_reducible refine (write_any h1).mono ?_); rintro e w1 ⟨wb, rfl, h2⟩; clear h1) | (go_at_call 28; (with_reducible refine (qwrite_any h2).mono ?_); rintro e w1 ⟨qb, rfl, h3⟩; clear h2))
    simp only [hK]
    have H3 := Lib.hid h3
    clear h3 hK
    go_loopw [8] (fun i wr => ∃ q c : Nat, i = .int .i64 q ∧ q + c = K ∧ Hp W wr [aQwr qb (seg (sbits s) 0 c), aWr wb (seg (sbits s) 0 c), aQrd rb s c] []) (fun i _ => (intOf i).toNat)
    case atStart => exact ⟨K, 0, rfl, rfl, by rw [seg_zero]; exact H3.out⟩
    case round =>
      obtain ⟨q, c, rfl, hc, g⟩ := hrel
      have hl : (seg (sbits s) 0 c).length ≤ 2 ^ 39 := by rw [seg_length (by rw [sbits_length]; omega)]; omega
      have hl40 : (seg (sbits s) 0 c).length ≤ 2 ^ 40 := by omega
      by_cases hlt : 0 < q
      · have hj : c < 8 * s.size := by omega
        have hb := bt_le s c
        obtain ⟨V, hV⟩ : ∃ V, V = bt s c := ⟨_, rfl⟩
        have hB' : seg (sbits s) 0 (c + 1) = seg (sbits s) 0 c ++ [decide (V = 1)] := by rw [hV]; exact seg_snoc s hj
        rw [← hV] at hb
        have E := Lib.hid (And.intro hV hB'); clear hV hB'
        have hqK : q ≤ 2400 := by omega
        have HC := Lib.hid hc; clear hc
        go_wp2_with (first | (go_at_call 29; (with_reducible refine (qbit_in g 2 at2 hj E.out.1).mono ?_); rintro e w1 ⟨rfl, g2⟩; simp only [set2] at g2; clear g) | (go_at_call 14; (with_reducible refine (put_bit g2 1 at1 hl40 hb E.out.2).mono ?_); rintro e w1 ⟨rfl, g3⟩; simp only [set1] at g3; clear g2) | (go_at_call 30; (with_reducible refine (qput_bit g3 0 at0 hl40 hb E.out.2).mono ?_); rintro e w1 ⟨rfl, g4⟩; simp only [set0] at g4; clear g3))
        go_roundw
        case rel => exact ⟨q - 1, c + 1, ret_i64 (by omega), by have := HC.out; omega, g4⟩
        case measure => simp [intOf]; omega
      · obtain rfl : q = 0 := by omega
        obtain rfl : c = K := by omega
        clear hc
        have hl2 : (seg (sbits s) 0 c ++ trB (seg (sbits s) 0 c).length).length ≤ 2 ^ 41 := by rw [List.length_append, trB_eq, List.length_cons, List.length_replicate]; omega
        go_wp2_with (first | (go_at_call 15; (with_reducible refine (trail_any g 1 at1 hl40).mono ?_); rintro e w1 ⟨rfl, g2⟩; simp only [set1] at g2; clear g) | (go_at_call 31; (with_reducible refine (rtrail_any g2 0 at0 hl).mono ?_); rintro e w1 ⟨rfl, g3⟩; simp only [set0] at g3; clear g2) | (go_at_call 32; (with_reducible refine (wbits_any g3 1 at1 hl2).mono ?_); rintro e w1 ⟨rfl, g4⟩; clear g3) | (go_at_call 33; (with_reducible refine (qbits_any g4 0 at0).mono ?_); rintro e w1 ⟨rfl, rfl⟩) | (go_at_call 17; (with_reducible refine (tknown_any g4).mono ?_); rintro e w1 ⟨rfl, g5⟩))
        exact bodyPost_ret (results_tmp rfl _ _ _) rfl ⟨rfl, g5.below⟩
  · have hsd : decide (300 < s.size) = true := by simp; omega
    go_enter Try.func8, Try.ntmps8
    go_wp2_with (first | (go_at_call 17; (with_reducible refine (tknown_any hS).mono ?_); rintro e w1 ⟨rfl, h5⟩))
    exact bodyPost_ret (results_tmp rfl _ _ _) rfl ⟨rfl, h5.below⟩

theorem pstr_sbits (s : ByteArray) : pstr (sbits s) = s := by
  have := packB_sbits s.data.toList []
  rw [List.append_nil, packB_nil, List.append_nil] at this
  unfold pstr sbits
  rw [this]
theorem seg_all {S : List Bool} {a b : Nat} (h : a + b = S.length) : seg S 0 a ++ seg S a b = S := by
  have := seg_add S 0 a b
  rw [Nat.zero_add] at this
  rw [← this, h]
  simp [seg]
theorem natB_zero_rep {l : List Bool} (h : natB l = 0) : l = List.replicate l.length false := by
  have := bitsN_natB l
  rw [h, bitsN_zero] at this
  exact this.symm
theorem bt_list {s : ByteArray} {j : Nat} (hj : j < 8 * s.size) (h : bt s j = 1) : seg (sbits s) j 1 = [true] := by
  have hl : (seg (sbits s) j 1).length = 1 := seg_length (by rw [sbits_length]; omega)
  unfold bt at h
  match hx : seg (sbits s) j 1, hl with
  | [x], _ =>
    rw [hx] at h
    cases x
    · simp [natB] at h
    · rfl

/-- End succeeds exactly where the string is what Trail makes of the bits before. -/
theorem only_law {s : ByteArray} {K : Nat} (hK : K ≤ 8 * s.size) : enE s K false = 0 ↔ pstr (seg (sbits s) 0 K ++ trB K) = s := by
  constructor
  · intro h
    unfold enE at h
    by_cases c : 8 * s.size ≤ K
    · rw [if_pos c] at h; simp at h
    · rw [if_neg c] at h
      split at h
      · rename_i hx
        obtain ⟨g, _, a0⟩ := hx
        have a0 := a0 rfl
        unfold enG at g
        rw [Bool.and_eq_true, decide_eq_true_iff] at g
        have g2 : natB (seg (sbits s) (K + 1) (8 * s.size - (K + 1))) = 0 := by simpa [zR, zB] using g.2
        have e1 := bt_list (by omega) g.1
        have e2 := natB_zero_rep g2
        rw [seg_length (by rw [sbits_length]; omega)] at e2
        have e3 : trB K = seg (sbits s) K (8 * s.size - K) := by
          rw [trB_eq, show 8 * s.size - K = 1 + (8 * s.size - (K + 1)) by omega, seg_add, e1, e2, show 8 * s.size - (K + 1) = 7 - K % 8 by omega]; rfl
        rw [e3, seg_all (by rw [sbits_length]; omega), pstr_sbits]
      · simp at h
  · intro h
    have e := congrArg sbits h
    have hl : (seg (sbits s) 0 K).length = K := seg_length (by rw [sbits_length]; omega)
    have hlen : (seg (sbits s) 0 K ++ trB K).length = K + (8 - K % 8) := by rw [List.length_append, hl, trB_eq, List.length_cons, List.length_replicate]; omega
    rw [sbits_pstr, hlen, show (8 - (K + (8 - K % 8)) % 8) % 8 = 0 by omega] at e
    simp only [List.replicate_zero, List.append_nil] at e
    have hsz := congrArg List.length e
    rw [hlen, sbits_length] at hsz
    have e4 : trB K = seg (sbits s) K (8 - K % 8) := by
      have h2 := seg_all (S := sbits s) (a := K) (b := 8 - K % 8) (by rw [sbits_length]; omega)
      exact List.append_cancel_left (e.trans h2.symm)
    rw [trB_eq, show 8 - K % 8 = 1 + (7 - K % 8) by omega, seg_add] at e4
    have hs1 : (seg (sbits s) K 1).length = 1 := seg_length (by rw [sbits_length]; omega)
    have e5 := List.append_inj (s₁ := [true]) (s₂ := seg (sbits s) K 1) e4 hs1.symm
    have b1 : bt s K = 1 := by unfold bt; rw [← e5.1]; rfl
    have z1 : zR s (K + 1) = true := by
      unfold zR zB
      rw [show 8 * s.size - (K + 1) = 7 - K % 8 by omega, ← e5.2, ← bitsN_zero, natB_bitsN]
      simp
    unfold enE
    rw [if_neg (by omega), if_pos ⟨by unfold enG; rw [b1, z1]; rfl, by omega, fun _ => by omega⟩]

theorem bytes_beq (a b : ByteArray) : (a.toList == b.toList) = decide (a = b) := by
  rw [Bool.eq_iff_iff, beq_iff_eq, decide_eq_true_iff, Lib.toList_data, Lib.toList_data]
  constructor
  · intro h
    cases a; cases b
    simp only [Array.toList_inj] at h
    rw [h]
  · intro h; rw [h]

theorem tonly_walk (s : ByteArray) (n : Int) (h0 : 0 ≤ n) (h9 : n ≤ 65535) (W : World) :
    Calls Try.prog 4 #[.string s, .int .u16 n] W fun e w' => e = .returned (.bool true) ∧ Below W.heap.size W w' := by
  have hS := Hp.start W
  by_cases hs : s.size ≤ 100
  · have hs48 : s.size ≤ 2 ^ 48 := by omega
    have hs36 : s.size ≤ 2 ^ 36 := by omega
    have hsd : decide (100 < s.size) = false := by simp; omega
    obtain ⟨K, hK, hK8⟩ := mod_cast_ex (s := s) h0
    have HK := Lib.hid hK; clear hK
    have hlK : (seg (sbits s) 0 K).length = K := seg_length (by rw [sbits_length]; omega)
    obtain ⟨B, hB⟩ : ∃ B, B = seg (sbits s) 0 K := ⟨_, rfl⟩
    obtain ⟨X, hX⟩ : ∃ X, X = B ++ trB B.length := ⟨_, rfl⟩
    have hl40 : B.length ≤ 2 ^ 40 := by rw [hB, hlK]; omega
    have hl2 : X.length ≤ 2 ^ 41 := by rw [hX, List.length_append, trB_eq, List.length_cons, List.length_replicate]; omega
    have hlaw : (enE s K false == 0) = ((pstr X).toList == s.toList) := by
      rw [bytes_beq, Bool.eq_iff_iff, beq_iff_eq, decide_eq_true_iff, only_law hK8, hX, hB, hlK]
    have E := Lib.hid (And.intro hB hX.symm); clear hB hX hlK
    obtain ⟨e0, he0⟩ : ∃ e0, e0 = enE s K false := ⟨_, rfl⟩
    obtain ⟨Y, hY⟩ : ∃ Y, Y = pstr X := ⟨_, rfl⟩
    rw [← he0, ← hY] at hlaw
    have E2 := Lib.hid (And.intro he0.symm hY.symm); clear he0 hY
    go_enter Try.func4, Try.ntmps4
    go_wp2_with (first | (go_at_call 18; (with_reducible refine (lwritten_any hS s hs36 n h0 h9 HK.out).mono ?_); rintro e w1 ⟨wb, rb, rfl, h1⟩; rw [← E.out.1] at h1; clear hS) | (go_at_call 19; (with_reducible refine (lskip_any h1 s hs48 K hK8).mono ?_); rintro e w1 ⟨sb, rfl, h2⟩; clear h1) | (go_at_call 12; (with_reducible refine (end_as h2 0 at0 false (And.intro E2.out.1 rfl)).mono ?_); rintro e w1 ⟨rfl, h3⟩; simp only [set0] at h3; clear h2) | (go_at_call 15; (with_reducible refine (trail_as h3 1 at1 hl40 E.out.2).mono ?_); rintro e w1 ⟨rfl, h4⟩; simp only [set1] at h4; clear h3) | (go_at_call 16; (with_reducible refine (bytes_eq h4 1 at1 hl2 E2.out.2).mono ?_); rintro e w1 ⟨rfl, h5⟩; clear h4) | (go_at_call 17; (with_reducible refine (tknown_any h5).mono ?_); rintro e w1 ⟨rfl, h6⟩))
    exact bodyPost_ret (results_tmp rfl _ _ _) rfl ⟨rfl, h6.below⟩
  · have hsd : decide (100 < s.size) = true := by simp; omega
    go_enter Try.func4, Try.ntmps4
    go_wp2_with (first | (go_at_call 17; (with_reducible refine (tknown_any hS).mono ?_); rintro e w1 ⟨rfl, h5⟩))
    exact bodyPost_ret (results_tmp rfl _ _ _) rfl ⟨rfl, h5.below⟩

end Go.Proofs.Ytlckjjgamnphbaa
