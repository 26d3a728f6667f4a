/- Law 05's own functions. -/
import Derived.Test.YtlckjjgamnphbaaTe
import Derived.Test.YtlckjjgamnphbaaTq
namespace Go.Proofs.Ytlckjjgamnphbaa
open Go.RowKit
set_option linter.unusedVariables false
set_option maxRecDepth 100000
set_option linter.unusedSimpArgs false

section
variable {W w : World} {L : List AObj} {F : List (Nat × Obj)} {b : Nat}
theorem bit_in (h : Hp W w L F) (k : Nat) {s : ByteArray} {j : Nat} (hk : L[k]? = some (aRd b s j)) (hj : j < 8 * s.size) {V : Nat} (hV : V = bt s j) :
    Calls Try.prog 26 #[.pointer (some ⟨b, 0, none⟩)] w fun e w' => e = .returned (.tuple #[.int .u8 V, .int .i64 0]) ∧ Hp W w' (L.set k (aRd b s (j + 1))) F := by
  subst hV
  have e1 : uE s j 1 = 0 := by unfold uE; rw [if_neg (by omega), if_neg (by omega)]
  exact bit_as h k hk ⟨e1, by unfold uI; rw [if_pos e1]; rfl, by unfold uV; rw [if_pos e1]; rfl, rfl⟩
theorem put_bit (h : Hp W w L F) (k : Nat) {B B' : List Bool} (hk : L[k]? = some (aWr b B)) (hB : B.length ≤ 2 ^ 40) {V : Nat} (hV : V ≤ 1) (hb : B' = B ++ [decide (V = 1)]) :
    Calls Try.prog 14 #[.pointer (some ⟨b, 0, none⟩), .int .i64 1, .int .u64 V] w fun e w' => e = .returned (.int .i64 0) ∧ Hp W w' (L.set k (aWr b B')) F := by
  have := put_good h k hk hB 1 V (by omega) (by omega)
  have e : bitsN 1 V = [decide (V = 1)] := by
    rcases (show V = 0 ∨ V = 1 by omega) with rfl | rfl <;> rfl
  rw [e, ← hb] at this
  exact this
theorem trail_as (h : Hp W w L F) (k : Nat) {B B' : List Bool} (hk : L[k]? = some (aWr b B)) (hB : B.length ≤ 2 ^ 40) (hx : B ++ trB B.length = B') :
    Calls Try.prog 15 #[.pointer (some ⟨b, 0, none⟩)] w fun e w' => e = .returned (.int .i64 0) ∧ Hp W w' (L.set k (aWr b B')) F := by subst hx; exact trail_any h k hk hB
theorem more_as (h : Hp W w L F) (k : Nat) {s : ByteArray} {i : Nat} (hk : L[k]? = some (aRd b s i)) {v : Bool} {e0 : Int} (hx : mrV s i = v ∧ mrE s i = e0) :
    Calls Try.prog 11 #[.pointer (some ⟨b, 0, none⟩)] w fun e w' => e = .returned (.tuple #[.bool v, .int .i64 e0]) ∧ Hp W w' L F := by
  obtain ⟨rfl, rfl⟩ := hx; exact more_any h k hk
theorem end_as (h : Hp W w L F) (k : Nat) {s : ByteArray} {i : Nat} (hk : L[k]? = some (aRd b s i)) (wd : Bool) {j : Nat} {e0 : Int} (hx : enE s i wd = e0 ∧ enI s i wd = j) :
    Calls Try.prog 12 #[.pointer (some ⟨b, 0, none⟩), .bool wd] w fun e w' => e = .returned (.int .i64 e0) ∧ Hp W w' (L.set k (aRd b s j)) F := by
  obtain ⟨rfl, rfl⟩ := hx; exact end_any h k hk wd
end

theorem seg_snoc (s : ByteArray) {j : Nat} (hj : j < 8 * s.size) : seg (sbits s) 0 (j + 1) = seg (sbits s) 0 j ++ [decide (bt s j = 1)] := by
  rw [seg_add, Nat.zero_add]
  congr 1
  have hl : (seg (sbits s) j 1).length = 1 := seg_length (by rw [sbits_length]; omega)
  unfold bt
  match h : seg (sbits s) j 1, hl with
  | [x], _ => cases x <;> rfl

theorem lat_any {W w : World} {L : List AObj} {F : List (Nat × Obj)} (h : Hp W w L F) (s : ByteArray) (hs : s.size ≤ 2 ^ 48) (n : Int) (h0 : 0 ≤ n) (hn : n ≤ 65535) {K : Nat} (hK : n % (8 * (s.size : Int) + 1) = (K : Int)) :
    Calls Try.prog 9 #[.string s, .int .u16 n] w fun e w' => ∃ rb qb, e = .returned (.tuple #[.pointer (some ⟨rb, 0, none⟩), .pointer (some ⟨qb, 0, none⟩)]) ∧ Hp W w' (aQrd qb s K :: aRd rb s K :: L) F := by
  have hK8 : K ≤ 8 * s.size := by have := Int.emod_lt_of_pos n (show (0 : Int) < 8 * (s.size : Int) + 1 by omega); omega
  have H := Lib.hid h; clear h
  go_enter Try.func9, Try.ntmps9
  go_wp2_with (first | (go_at_call 34; (with_reducible refine (read_any H.out s hs).mono ?_); rintro e w1 ⟨rb, rfl, h1⟩) | (go_at_call 27; (with_reducible refine (qread_any h1 s hs).mono ?_); rintro e w1 ⟨qb, rfl, h2⟩; obtain ⟨c0, c1, f0, f1⟩ := cells_two (h2.qrd 0 at0).1; clear h1))
  have h3 := h2.qrd_set 0 at0 0 K hK8
  rw [show w1.drewN 0 = w1 from rfl] at h3
  simp only [set0] at h3
  have H3 := Lib.hid h3
  clear c0 c1 f0 f1 h2 h3
  clear hK
  go_loopw [8] (fun i wr => ∃ c : Nat, i = .int .i64 c ∧ c ≤ K ∧ Hp W wr (aQrd qb s K :: aRd rb s c :: L) F) (fun i _ => K - (intOf i).toNat)
  case atStart => exact ⟨0, rfl, Nat.zero_le _, H3.out⟩
  case round =>
    obtain ⟨c, rfl, hc, g⟩ := hrel
    obtain ⟨c0, c1, f0, f1⟩ := cells_two (g.qrd 0 at0).1
    by_cases hlt : c < K
    · have hj : c < 8 * s.size := by omega
      go_wp2_with (first | (go_at_call 26; (with_reducible refine (bit_in g 1 at1 hj rfl).mono ?_); rintro e w1 ⟨rfl, g2⟩; simp only [set1] at g2; clear g))
      go_roundw
      case rel => exact ⟨c + 1, by go_num, by omega, g2⟩
      case measure => simp [intOf]; omega
    · obtain rfl : c = K := by omega
      have G := Lib.hid g; clear g
      go_wp2_with (fail)
      exact bodyPost_ret (results_tmp2 rfl _ _ _) rfl ⟨rb, qb, rfl, G.out⟩
theorem lat_as {W w : World} {L : List AObj} {F : List (Nat × Obj)} (h : Hp W w L F) (s : ByteArray) (hs : s.size ≤ 2 ^ 48) (n : Int) (h0 : 0 ≤ n) (hn : n ≤ 65535) {K : Nat} (hK : n % (8 * (s.size : Int) + 1) = (K : Int)) :
    Calls Try.prog 9 #[.string s, .int .u16 n] w fun e w' => ∃ rb qb, e = .returned (.tuple #[.pointer (some ⟨rb, 0, none⟩), .pointer (some ⟨qb, 0, none⟩)]) ∧ Hp W w' (aQrd qb s K :: aRd rb s K :: L) F := lat_any h s hs n h0 hn hK

theorem lwritten_any {W w : World} {L : List AObj} {F : List (Nat × Obj)} (h : Hp W w L F) (s : ByteArray) (hs : s.size ≤ 2 ^ 36) (n : Int) (h0 : 0 ≤ n) (hn : n ≤ 65535) {K : Nat} (hK : n % (8 * (s.size : Int) + 1) = (K : Int)) :
    Calls Try.prog 18 #[.string s, .int .u16 n] w fun e w' => ∃ wb rb, e = .returned (.tuple #[.pointer (some ⟨wb, 0, none⟩), .int .i64 K]) ∧ Hp W w' (aWr wb (seg (sbits s) 0 K) :: aRd rb s K :: L) F := by
  have hK8 : K ≤ 8 * s.size := by have := Int.emod_lt_of_pos n (show (0 : Int) < 8 * (s.size : Int) + 1 by omega); omega
  have hs48 : s.size ≤ 2 ^ 48 := by omega
  have H := Lib.hid h; clear h
  go_enter Try.func18, Try.ntmps18
  go_wp2_with (first | (go_at_call 34; (with_reducible refine (read_any H.out s hs48).mono ?_); rintro e w1 ⟨rb, rfl, h1⟩) | (go_at_call 13; (with_reducible refine (write_any h1).mono ?_); rintro e w1 ⟨wb, rfl, h2⟩; clear h1))
  have H3 := Lib.hid h2
  simp only [hK]
  clear h2 hK
  go_loopw [9] (fun i wr => ∃ c : Nat, i = .int .i64 c ∧ c ≤ K ∧ Hp W wr (aWr wb (seg (sbits s) 0 c) :: aRd rb s c :: L) F) (fun i _ => K - (intOf i).toNat)
  case atStart => exact ⟨0, rfl, Nat.zero_le _, by rw [seg_zero]; exact H3.out⟩
  case round =>
    obtain ⟨c, rfl, hc, g⟩ := hrel
    by_cases hlt : c < K
    · have hj : c < 8 * s.size := by omega
      have hb := bt_le s c
      obtain ⟨V, hV⟩ : ∃ V, V = bt s c := ⟨_, rfl⟩
      have hB' : seg (sbits s) 0 (c + 1) = seg (sbits s) 0 c ++ [decide (V = 1)] := by rw [hV]; exact seg_snoc s hj
      rw [← hV] at hb
      have hl : (seg (sbits s) 0 c).length ≤ 2 ^ 40 := by rw [seg_length (by rw [sbits_length]; omega)]; omega
      have E := Lib.hid (And.intro hV hB'); clear hV hB'
      go_wp2_with (first | (go_at_call 26; (with_reducible refine (bit_in g 1 at1 hj E.out.1).mono ?_); rintro e w1 ⟨rfl, g2⟩; simp only [set1] at g2; clear g) | (go_at_call 14; (with_reducible refine (put_bit g2 0 at0 hl hb E.out.2).mono ?_); rintro e w1 ⟨rfl, g3⟩; simp only [set0] at g3; clear g2))
      go_roundw
      case rel => exact ⟨c + 1, by go_num, by omega, g3⟩
      case measure => simp [intOf]; omega
    · obtain rfl : c = K := by omega
      have G := Lib.hid g; clear g
      go_wp2_with (fail)
      exact bodyPost_ret (results_tmp2 rfl _ _ _) rfl ⟨wb, rb, rfl, G.out⟩

theorem lskip_any {W w : World} {L : List AObj} {F : List (Nat × Obj)} (h : Hp W w L F) (s : ByteArray) (hs : s.size ≤ 2 ^ 48) (n : Nat) (hn : n ≤ 8 * s.size) :
    Calls Try.prog 19 #[.string s, .int .i64 n] w (Makes W L F fun b => aRd b s n) := by
  have H := Lib.hid h; clear h
  go_enter Try.func19, Try.ntmps19
  go_wp2_with (first | (go_at_call 34; (with_reducible refine (read_any H.out s hs).mono ?_); rintro e w1 ⟨rb, rfl, h1⟩))
  have H3 := Lib.hid h1
  clear h1
  go_loopw [6] (fun i wr => ∃ c : Nat, i = .int .i64 c ∧ c ≤ n ∧ Hp W wr (aRd rb s c :: L) F) (fun i _ => n - (intOf i).toNat)
  case atStart => exact ⟨0, rfl, Nat.zero_le _, H3.out⟩
  case round =>
    obtain ⟨c, rfl, hc, g⟩ := hrel
    by_cases hlt : c < n
    · have hj : c < 8 * s.size := by omega
      go_wp2_with (first | (go_at_call 26; (with_reducible refine (bit_in g 0 at0 hj rfl).mono ?_); rintro e w1 ⟨rfl, g2⟩; simp only [set0] at g2; clear g))
      go_roundw
      case rel => exact ⟨c + 1, by go_num, by omega, g2⟩
      case measure => simp [intOf]; omega
    · obtain rfl : c = n := by omega
      have G := Lib.hid g; clear g
      go_wp2_with (fail)
      exact bodyPost_ret (results_tmp rfl _ _ _) rfl ⟨rb, rfl, G.out⟩

theorem tknown_any {W w : World} {L : List AObj} {F : List (Nat × Obj)} (h : Hp W w L F) :
    Calls Try.prog 17 #[] w fun e w' => e = .returned (.bool true) ∧ Hp W w' L F := by
  have P0 := Lib.hid (show pE 4 (Int.toNat 11) = 0 ∧ pB [] 4 (Int.toNat 11) = [true, false, true, true] by decide +kernel)
  have P1 := Lib.hid (show [true, false, true, true] ++ trB [true, false, true, true].length = [true, false, true, true, true, false, false, false] by decide +kernel)
  have P2 := Lib.hid (show (4 : Int) % (8 * ((⟨#[184]⟩ : ByteArray).size : Int) + 1) = ((4 : Nat) : Int) by decide +kernel)
  have P3 := Lib.hid (show mrV ⟨#[184]⟩ 4 = false ∧ mrE ⟨#[184]⟩ 4 = 0 by decide +kernel)
  have P4 := Lib.hid (show enE ⟨#[184]⟩ 4 false = 0 ∧ enI ⟨#[184]⟩ 4 false = 8 by decide +kernel)
  have P5 := Lib.hid (show pstr [true, false, true, true, true, false, false, false] = ⟨#[184]⟩ by decide +kernel)
  have P6 := Lib.hid (show ((8 * (⟨#[184]⟩ : ByteArray).size - 8 : Nat) : Int) = 0 by decide +kernel)
  have H1 := h
  have H := Lib.hid h; clear h
  go_enter Try.func17, Try.ntmps17
  go_wp2_with (first | (go_at_call 13; (with_reducible refine (write_any H1).mono ?_); rintro e w1 ⟨wb, rfl, q1⟩; clear H1) | (go_at_call 14; (with_reducible refine (put_as q1 0 at0 (by decide) 4 11 (by decide) (by decide) P0.out).mono ?_); rintro e w1 ⟨rfl, q2⟩; simp only [set0] at q2 ⊢; clear q1) | (go_at_call 15; (with_reducible refine (trail_as q2 0 at0 (by decide) P1.out).mono ?_); rintro e w1 ⟨rfl, q3⟩; simp only [set0] at q3 ⊢; clear q2) | (go_at_call 9; (with_reducible refine (lat_as q3 ⟨#[184]⟩ (by decide) 4 (by decide) (by decide) P2.out).mono ?_); rintro e w1 ⟨rb, qb, rfl, q4⟩; clear q3) | (go_at_call 11; (with_reducible refine (more_as q4 1 at1 P3.out).mono ?_); rintro e w1 ⟨rfl, q5⟩; clear q4) | (go_at_call 12; (with_reducible refine (end_as q5 1 at1 false P4.out).mono ?_); rintro e w1 ⟨rfl, q6⟩; simp only [set1] at q6 ⊢; clear q5) | (go_at_call 16; (with_reducible refine (bytes_eq q6 2 at2 (by decide) P5.out).mono ?_); rintro e w1 ⟨rfl, q7⟩; clear q6) | (go_at_call 25; (with_reducible refine (left_eq q7 1 at1 P6.out).mono ?_); rintro e w1 ⟨rfl, q8⟩; clear q7))
  exact bodyPost_ret (results_tmp rfl _ _ _) rfl ⟨rfl, q8.tail.tail.tail⟩

end Go.Proofs.Ytlckjjgamnphbaa
