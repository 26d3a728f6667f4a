/- The program's reader and the reference's: what each of their functions does, at every state. -/
import Derived.Test.YtkaoeilijdeioaaProg
import Derived.Test.YtkaoeilijdeioaaHp
import Derived.Test.YtkaoeilijdeioaaArith
import Derived.Deep.QuietTactic
import Derived.BigQuiet
import Derived.KernelRfl
import Derived.IntWalk
import Derived.RegionTactic
import Derived.BigRegion
import Derived.ChangeAlike
import Derived.Lib.Hide
namespace Go.Proofs.Ytkaoeilijdeioaa
open Go.RowKit
set_option linter.unusedVariables false
set_option maxRecDepth 100000
set_option linter.unusedSimpArgs false

def rdObj (s : ByteArray) (i : Nat) : Obj := .cells #[.string s, .int .i64 i] 95 (0, 0)
def qrdObj (s : ByteArray) (i : Nat) : Obj := .cells #[.string s, .int .i64 i] 103 (0, 0)

/-- The program's reader at block b: the string, how many bits were read. -/
def aRd (b : Nat) (s : ByteArray) (i : Nat) : AObj where
  P w G := G b ∧ w.heap[b]? = some (rdObj s i) ∧ s.size ≤ 2 ^ 48 ∧ i ≤ 8 * s.size
  loc hh hG := fun ⟨h1, h2, h3⟩ => ⟨hG _ h1, (hh _ h1).trans h2, h3⟩
/-- The reference's. -/
def aQrd (b : Nat) (s : ByteArray) (i : Nat) : AObj where
  P w G := G b ∧ w.heap[b]? = some (qrdObj s i) ∧ s.size ≤ 2 ^ 48 ∧ i ≤ 8 * s.size
  loc hh hG := fun ⟨h1, h2, h3⟩ => ⟨hG _ h1, (hh _ h1).trans h2, h3⟩

section
variable {W w : World} {L : List AObj} {F : List (Nat × Obj)} {b : Nat} {s : ByteArray} {i : Nat}

theorem Hp.rd (h : Hp W w L F) (k : Nat) (hk : L[k]? = some (aRd b s i)) : w.heap[b]? = some (rdObj s i) ∧ s.size ≤ 2 ^ 48 ∧ i ≤ 8 * s.size := by
  obtain ⟨_, o, _, _, _, hL⟩ := h
  exact (hL k _ hk).2
theorem Hp.qrd (h : Hp W w L F) (k : Nat) (hk : L[k]? = some (aQrd b s i)) : w.heap[b]? = some (qrdObj s i) ∧ s.size ≤ 2 ^ 48 ∧ i ≤ 8 * s.size := by
  obtain ⟨_, o, _, _, _, hL⟩ := h
  exact (hL k _ hk).2

theorem set_at {L : List AObj} {k : Nat} {x : AObj} (h : L[k]? = some x) (y : AObj) : (L.set k y)[k]? = some y := List.getElem?_set_self (List.getElem?_eq_some_iff.1 h).1
theorem set_same {L : List AObj} {k : Nat} {x : AObj} (h : L[k]? = some x) : L.set k x = L := by
  apply List.ext_getElem?
  intro i
  rw [List.getElem?_set]
  split
  · rename_i e; subst e; rw [h]; simp [(List.getElem?_eq_some_iff.1 h).1]
  · rfl

theorem set_set {L : List AObj} {k : Nat} (x y : AObj) : (L.set k x).set k y = L.set k y := by simp
theorem ret_i64 {a b : Int} (h : a = b) : Value.int .i64 a = Value.int .i64 b := by rw [h]

theorem cells_two {w : World} {b : Nat} {x y : Value} {t : TypeId} (h : w.heap[b]? = some (.cells #[x, y] t (0, 0))) :
    w.cell? ⟨b, 0, none⟩ = some x ∧ w.cell? ⟨b, 1, none⟩ = some y ∧ w.frozen? ⟨b, 0, none⟩ = false ∧ w.frozen? ⟨b, 1, none⟩ = false := by
  simp [World.cell?, World.frozen?, h]

/-- A reader that has been moved, after draws. -/
theorem Hp.rd_set (h : Hp W w L F) (k : Nat) (hk : L[k]? = some (aRd b s i)) (n : Nat) (j : Nat) (hj : j ≤ 8 * s.size) :
    Hp W ((w.drewN n).setCell ⟨b, 1, none⟩ (.int .i64 j)) (L.set k (aRd b s j)) F := by
  obtain ⟨G, ⟨g1, g2, g3, g4⟩, hG, hx⟩ := h.turn k hk
  have hlt := lt_of_block g2
  have h3' : w.heap[b] = rdObj s i := by simpa [Array.getElem?_eq_getElem hlt] using g2
  refine hx _ _ rfl rfl rfl (by simp [World.setCell, World.drewN]) (fun c hc hn => ?_) ⟨Or.inl g1, ?_, g3, hj⟩
  · exact Below.heap_setCell (w.drewN n) ⟨b, 1, none⟩ _ c (fun e => hn (e ▸ g1))
  · show (w.heap.modify b _)[b]? = _
    rw [Array.getElem?_eq_getElem (by simpa using hlt), Array.getElem_modify_self, h3']
    rfl
theorem Hp.qrd_set (h : Hp W w L F) (k : Nat) (hk : L[k]? = some (aQrd b s i)) (n : Nat) (j : Nat) (hj : j ≤ 8 * s.size) :
    Hp W ((w.drewN n).setCell ⟨b, 1, none⟩ (.int .i64 j)) (L.set k (aQrd b s j)) F := by
  obtain ⟨G, ⟨g1, g2, g3, g4⟩, hG, hx⟩ := h.turn k hk
  have hlt := lt_of_block g2
  have h3' : w.heap[b] = qrdObj s i := by simpa [Array.getElem?_eq_getElem hlt] using g2
  refine hx _ _ rfl rfl rfl (by simp [World.setCell, World.drewN]) (fun c hc hn => ?_) ⟨Or.inl g1, ?_, g3, hj⟩
  · exact Below.heap_setCell (w.drewN n) ⟨b, 1, none⟩ _ c (fun e => hn (e ▸ g1))
  · show (w.heap.modify b _)[b]? = _
    rw [Array.getElem?_eq_getElem (by simpa using hlt), Array.getElem_modify_self, h3']
    rfl
theorem Hp.rd_new (h : Hp W w L F) (hs : s.size ≤ 2 ^ 48) (hi : i ≤ 8 * s.size) : Hp W (w.alloc (rdObj s i)) (aRd w.heap.size s i :: L) F :=
  h.make ((Below.refl _ _).alloc (Nat.le_refl _) _) ⟨⟨Nat.le_refl _, by simp⟩, by show (w.heap.push _)[w.heap.size]? = _; simp, hs, hi⟩
theorem Hp.qrd_new (h : Hp W w L F) (hs : s.size ≤ 2 ^ 48) (hi : i ≤ 8 * s.size) : Hp W (w.alloc (qrdObj s i)) (aQrd w.heap.size s i :: L) F :=
  h.make ((Below.refl _ _).alloc (Nat.le_refl _) _) ⟨⟨Nat.le_refl _, by simp⟩, by show (w.heap.push _)[w.heap.size]? = _; simp, hs, hi⟩
end

/-- The post of a constructor: a pointer to a new object. -/
def Makes (W : World) (L : List AObj) (F : List (Nat × Obj)) (x : Nat → AObj) (e : Ending) (w' : World) : Prop :=
  ∃ b : Nat, e = .returned (.pointer (some ⟨b, 0, none⟩)) ∧ Hp W w' (x b :: L) F

theorem read_any {W w : World} {L : List AObj} {F : List (Nat × Obj)} (h : Hp W w L F) (s : ByteArray) (hs : s.size ≤ 2 ^ 48) :
    Calls Try.prog 36 #[.string s] w (Makes W L F fun b => aRd b s 0) := by
  have H := Lib.hid h; clear h
  go_enter Try.func36, Try.ntmps36
  go_wp2
  go_ret
  exact ⟨_, rfl, H.out.rd_new hs (Nat.zero_le _)⟩

theorem left_any {W w : World} {L : List AObj} {F : List (Nat × Obj)} (h : Hp W w L F) (k : Nat) {b : Nat} {s : ByteArray} {i : Nat} (hk : L[k]? = some (aRd b s i)) :
    Calls Try.prog 65 #[.pointer (some ⟨b, 0, none⟩)] w fun e w' => e = .returned (.int .i64 ((8 * s.size - i : Nat) : Int)) ∧ ∃ n, w' = w.drewN n := by
  obtain ⟨h1, h2, h3⟩ := h.rd k hk
  obtain ⟨c0, c1, f0, f1⟩ := cells_two h1
  have e : ((8 * s.size - i : Nat) : Int) = 8 * (s.size : Int) - (i : Int) := by omega
  rw [e]
  clear e hk h h1
  go_enter Try.func65, Try.ntmps65
  go_wp2
  go_quiet (fail)
  go_wp2
  go_ret
  exact ⟨rfl, _, rfl⟩


theorem u_good {W w : World} {L : List AObj} {F : List (Nat × Obj)} (h : Hp W w L F) (k : Nat) {b : Nat} {s : ByteArray} {i : Nat} (hk : L[k]? = some (aRd b s i)) (n : Nat) (hn : n ≤ 64) (hl : i + n ≤ 8 * s.size) :
    Calls Try.prog 49 #[.pointer (some ⟨b, 0, none⟩), .int .i64 n] w fun e w' => e = .returned (.tuple #[.int .u64 (natB (seg (sbits s) i n)), .int .i64 0]) ∧ Hp W w' (L.set k (aRd b s (i + n))) F := by
  obtain ⟨h1, h2, h3⟩ := h.rd k hk
  have H := Lib.hid h; clear h
  have HK := Lib.hid hk; clear hk
  have h1n : decide (8 * s.size - i < n) = false := by simp; omega
  clear h1
  go_enter Try.func49, Try.ntmps49
  go_wp2_with (go_at_call 65; refine (left_any H.out k HK.out).mono ?_; rintro e w' ⟨rfl, q, rfl⟩)
  have H1 := Lib.hid (H.out.drewN q)
  go_loopw [1, 6] (fun n' v' wr => ∃ m j : Nat, n' = .int .i64 m ∧ v' = .int .u64 (natB (seg (sbits s) i (j - i))) ∧ i ≤ j ∧ j + m = i + n ∧ Hp W wr (L.set k (aRd b s j)) F) (fun n' _ _ => (intOf n').toNat)
  case atStart => exact ⟨n, i, rfl, by simp [natB], Nat.le_refl _, rfl, by rw [set_same HK.out]; exact H1.out⟩
  case round =>
    obtain ⟨m, j, rfl, rfl, g1, g2, g3⟩ := hrel
    by_cases hm : m = 0
    · have G3 := Lib.hid g3; clear g3
      go_wp2
      obtain rfl : j = i + n := by omega
      refine bodyPost_ret (results_tmp2 rfl _ _ _) rfl ⟨?_, G3.out⟩
      rw [Nat.add_sub_cancel_left]; rfl
    · obtain ⟨h1, _, h3'⟩ := g3.rd (b := b) (s := s) (i := j) k (set_at HK.out _)
      obtain ⟨c0, c1, f0, f1⟩ := cells_two h1
      clear h1
      have G3 := Lib.hid g3; clear g3
      go_wp2
      all_goals
        have q1 : IntKind.i64.wrap ((j : Int) / 8) = (j : Int) / 8 := IntWalk.i64_in _ (by omega)
        have q2 : 0 ≤ (j : Int) / 8 := by omega
        have q3 : ((j : Int) / 8).toNat = j / 8 := by omega
        have q4 : (j : Int) / 8 < s.size := by omega
        have q5 : IntKind.i64.wrap (8 - (8 - (j : Int) % 8)) = 8 - (8 - (j : Int) % 8) := IntWalk.i64_in _ (by omega)
        have q6 : IntKind.i64.wrap (8 - (m : Int)) = 8 - (m : Int) := IntWalk.i64_in _ (by omega)
        go_quiet (fail)
        go_wp2
      · have hr := u_round s i j (8 - j % 8) (by omega) (by omega) g1 (by omega) (by omega)
        have e2 : (j : Int) + (8 - (j : Int) % 8) = ((j + (8 - j % 8) : Nat) : Int) := by omega
        go_roundw
        case rel => exact ⟨m - (8 - j % 8), j + (8 - j % 8), ret_i64 (by omega), by rw [hr], by omega, by omega, by rw [e2, ← set_set]; exact G3.out.rd_set k (set_at HK.out _) _ _ (by omega)⟩
        case measure => simp [intOf]; omega
      · have hr := u_round s i j m (by omega) (by omega) g1 (by omega) (by omega)
        have e2 : (j : Int) + (m : Int) = ((j + m : Nat) : Int) := by omega
        go_roundw
        case rel => exact ⟨0, j + m, rfl, by rw [hr], by omega, by omega, by rw [e2, ← set_set]; exact G3.out.rd_set k (set_at HK.out _) _ _ (by omega)⟩
        case measure => simp [intOf]; omega

theorem u_nil (n : Int) (w : World) : Calls Try.prog 49 #[.pointer none, .int .i64 n] w fun e w' => e = .returned (.tuple #[.int .u64 0, .int .i64 1]) ∧ w = w' := by
  go_enter Try.func49, Try.ntmps49
  go_wp2
  exact bodyPost_ret (results_tmp2 rfl _ _ _) rfl ⟨rfl, rfl⟩

theorem u_range {w : World} {b : Nat} (n : Int) (hn : n < 0 ∨ 64 < n) :
    Calls Try.prog 49 #[.pointer (some ⟨b, 0, none⟩), .int .i64 n] w fun e w' => e = .returned (.tuple #[.int .u64 0, .int .i64 3]) ∧ w = w' := by
  rcases hn with hn | hn
  · have hd : decide (n < 0) = true := by simpa using hn
    go_enter Try.func49, Try.ntmps49
    go_wp2
    exact bodyPost_ret (results_tmp2 rfl _ _ _) rfl ⟨rfl, rfl⟩
  · have hd : decide (n < 0) = false := by simp; omega
    go_enter Try.func49, Try.ntmps49
    go_wp2
    exact bodyPost_ret (results_tmp2 rfl _ _ _) rfl ⟨rfl, rfl⟩

theorem u_short {W w : World} {L : List AObj} {F : List (Nat × Obj)} (h : Hp W w L F) (k : Nat) {b : Nat} {s : ByteArray} {i : Nat} (hk : L[k]? = some (aRd b s i)) (n : Nat) (hn : n ≤ 64) (hl : 8 * s.size - i < n) :
    Calls Try.prog 49 #[.pointer (some ⟨b, 0, none⟩), .int .i64 n] w fun e w' => e = .returned (.tuple #[.int .u64 0, .int .i64 5]) ∧ ∃ q, w' = w.drewN q := by
  have H := Lib.hid h; clear h
  have HK := Lib.hid hk; clear hk
  have h1n : decide (8 * s.size - i < n) = true := by simpa using hl
  go_enter Try.func49, Try.ntmps49
  go_wp2_with (go_at_call 65; refine (left_any H.out k HK.out).mono ?_; rintro e w' ⟨rfl, q, rfl⟩)
  exact bodyPost_ret (results_tmp2 rfl _ _ _) rfl ⟨rfl, _, rfl⟩

theorem copy_any {W w : World} {L : List AObj} {F : List (Nat × Obj)} (h : Hp W w L F) (k : Nat) {b : Nat} {s : ByteArray} {i : Nat} (hk : L[k]? = some (aRd b s i)) :
    Calls Try.prog 75 #[.pointer (some ⟨b, 0, none⟩)] w (Makes W L F fun c => aRd c s i) := by
  obtain ⟨h1, h2, h3⟩ := h.rd k hk
  obtain ⟨c0, c1, f0, f1⟩ := cells_two h1
  have H := Lib.hid h; clear h hk h1
  go_enter Try.func75, Try.ntmps75
  go_wp2
  
  go_ret
  exact ⟨_, rfl, H.out.rd_new h2 h3⟩

theorem qread_any {W w : World} {L : List AObj} {F : List (Nat × Obj)} (h : Hp W w L F) (s : ByteArray) (hs : s.size ≤ 2 ^ 48) :
    Calls Try.prog 52 #[.string s] w (Makes W L F fun b => aQrd b s 0) := by
  have H := Lib.hid h; clear h
  go_enter Try.func52, Try.ntmps52
  go_wp2
  go_ret
  exact ⟨_, rfl, H.out.qrd_new hs (Nat.zero_le _)⟩

theorem qleft_any {W w : World} {L : List AObj} {F : List (Nat × Obj)} (h : Hp W w L F) (k : Nat) {b : Nat} {s : ByteArray} {i : Nat} (hk : L[k]? = some (aQrd b s i)) :
    Calls Try.prog 73 #[.pointer (some ⟨b, 0, none⟩)] w fun e w' => e = .returned (.int .i64 ((8 * s.size - i : Nat) : Int)) ∧ ∃ n, w' = w.drewN n := by
  obtain ⟨h1, h2, h3⟩ := h.qrd k hk
  obtain ⟨c0, c1, f0, f1⟩ := cells_two h1
  have e : ((8 * s.size - i : Nat) : Int) = 8 * (s.size : Int) - (i : Int) := by omega
  rw [e]
  clear e hk h h1
  go_enter Try.func73, Try.ntmps73
  go_wp2
  go_quiet (fail)
  go_wp2
  go_ret
  exact ⟨rfl, _, rfl⟩

theorem qu_good {W w : World} {L : List AObj} {F : List (Nat × Obj)} (h : Hp W w L F) (k : Nat) {b : Nat} {s : ByteArray} {i : Nat} (hk : L[k]? = some (aQrd b s i)) (n : Nat) (hn : n ≤ 64) (hl : i + n ≤ 8 * s.size) :
    Calls Try.prog 69 #[.pointer (some ⟨b, 0, none⟩), .int .i64 n] w fun e w' => e = .returned (.tuple #[.int .u64 (natB (seg (sbits s) i n)), .int .i64 0]) ∧ Hp W w' (L.set k (aQrd b s (i + n))) F := by
  obtain ⟨h1, h2, h3⟩ := h.qrd k hk
  have H := Lib.hid h; clear h
  have HK := Lib.hid hk; clear hk
  have h1n : decide (8 * s.size - i < n) = false := by simp; omega
  clear h1
  go_enter Try.func69, Try.ntmps69
  go_wp2_with (go_at_call 73; refine (qleft_any H.out k HK.out).mono ?_; rintro e w' ⟨rfl, q, rfl⟩)
  have H1 := Lib.hid (H.out.drewN q)
  go_loopw [6, 7] (fun v' n' wr => ∃ c : Nat, n' = .int .i64 c ∧ c ≤ n ∧ v' = .int .u64 (natB (seg (sbits s) i c)) ∧ Hp W wr (L.set k (aQrd b s (i + c))) F) (fun _ n' _ => n - (intOf n').toNat)
  case atStart => exact ⟨0, rfl, Nat.zero_le _, by simp [natB], by rw [Nat.add_zero, set_same HK.out]; exact H1.out⟩
  case round =>
    obtain ⟨c, rfl, g1, rfl, g3⟩ := hrel
    by_cases hm : c < n
    · obtain ⟨h1, _, h3'⟩ := g3.qrd (b := b) (s := s) (i := i + c) k (set_at HK.out _)
      obtain ⟨c0, c1, f0, f1⟩ := cells_two h1
      have G3 := Lib.hid g3; clear g3
      clear h1
      obtain ⟨j, hj⟩ : ∃ j, j = i + c := ⟨_, rfl⟩
      rw [← hj] at c1 h3'
      have J1 : j + 1 ≤ 8 * s.size := by omega
      have HJ := Lib.hid hj; clear hj
      have q1 : IntKind.i64.wrap ((j : Int) / 8) = (j : Int) / 8 := IntWalk.i64_in _ (by omega)
      have q2 : 0 ≤ (j : Int) / 8 := by omega
      have q3 : ((j : Int) / 8).toNat = j / 8 := by omega
      have q4 : (j : Int) / 8 < s.size := by omega
      have q5 : IntKind.i64.wrap (7 - (j : Int) % 8) = 7 - (j : Int) % 8 := IntWalk.i64_in _ (by omega)
      go_wp2
      go_quiet (fail)
      go_wp2
      have hr := qu_round s i c j HJ.out (by omega) (by omega) J1
      have e2 : (j : Int) + 1 = ((i + (c + 1) : Nat) : Int) := by have := HJ.out; omega
      go_roundw
      case rel => exact ⟨c + 1, by go_num, by omega, by rw [hr], by rw [e2, ← set_set]; exact G3.out.qrd_set k (set_at HK.out _) _ _ (by have := HJ.out; omega)⟩
      case measure => simp [intOf]; omega
    · have G3 := Lib.hid g3; clear g3
      go_wp2
      obtain rfl : c = n := by omega
      exact bodyPost_ret (results_tmp2 rfl _ _ _) rfl ⟨rfl, G3.out⟩

theorem qu_nil (n : Int) (w : World) : Calls Try.prog 69 #[.pointer none, .int .i64 n] w fun e w' => e = .returned (.tuple #[.int .u64 0, .int .i64 1]) ∧ w = w' := by
  go_enter Try.func69, Try.ntmps69
  go_wp2
  exact bodyPost_ret (results_tmp2 rfl _ _ _) rfl ⟨rfl, rfl⟩

theorem qu_range {w : World} {b : Nat} (n : Int) (hn : n < 0 ∨ 64 < n) :
    Calls Try.prog 69 #[.pointer (some ⟨b, 0, none⟩), .int .i64 n] w fun e w' => e = .returned (.tuple #[.int .u64 0, .int .i64 3]) ∧ w = w' := by
  rcases hn with hn | hn
  · have hd : decide (n < 0) = true := by simpa using hn
    go_enter Try.func69, Try.ntmps69
    go_wp2
    exact bodyPost_ret (results_tmp2 rfl _ _ _) rfl ⟨rfl, rfl⟩
  · have hd : decide (n < 0) = false := by simp; omega
    go_enter Try.func69, Try.ntmps69
    go_wp2
    exact bodyPost_ret (results_tmp2 rfl _ _ _) rfl ⟨rfl, rfl⟩

theorem qu_short {W w : World} {L : List AObj} {F : List (Nat × Obj)} (h : Hp W w L F) (k : Nat) {b : Nat} {s : ByteArray} {i : Nat} (hk : L[k]? = some (aQrd b s i)) (n : Nat) (hn : n ≤ 64) (hl : 8 * s.size - i < n) :
    Calls Try.prog 69 #[.pointer (some ⟨b, 0, none⟩), .int .i64 n] w fun e w' => e = .returned (.tuple #[.int .u64 0, .int .i64 5]) ∧ ∃ q, w' = w.drewN q := by
  have H := Lib.hid h; clear h
  have HK := Lib.hid hk; clear hk
  have h1n : decide (8 * s.size - i < n) = true := by simpa using hl
  go_enter Try.func69, Try.ntmps69
  go_wp2_with (go_at_call 73; refine (qleft_any H.out k HK.out).mono ?_; rintro e w' ⟨rfl, q, rfl⟩)
  exact bodyPost_ret (results_tmp2 rfl _ _ _) rfl ⟨rfl, _, rfl⟩

/-- U, at every number: its error, its number, where the reader is then. -/
def uE (s : ByteArray) (i : Nat) (n : Int) : Int := if n < 0 ∨ 64 < n then 3 else if ((8 * s.size - i : Nat) : Int) < n then 5 else 0
def uV (s : ByteArray) (i : Nat) (n : Int) : Nat := if uE s i n = 0 then natB (seg (sbits s) i n.toNat) else 0
def uI (s : ByteArray) (i : Nat) (n : Int) : Nat := if uE s i n = 0 then i + n.toNat else i

theorem uI_le {s : ByteArray} {i : Nat} {n : Int} (h : i ≤ 8 * s.size) : uI s i n ≤ 8 * s.size := by
  unfold uI
  by_cases e : uE s i n = 0
  · rw [if_pos e]
    unfold uE at e
    by_cases c1 : n < 0 ∨ 64 < n
    · rw [if_pos c1] at e; simp at e
    · rw [if_neg c1] at e
      by_cases c2 : ((8 * s.size - i : Nat) : Int) < n
      · rw [if_pos c2] at e; simp at e
      · omega
  · rw [if_neg e]; exact h

theorem uV_one_le (s : ByteArray) (i : Nat) : uV s i 1 ≤ 1 := by
  unfold uV
  split
  · exact seg_one s i
  · omega

theorem u_any {W w : World} {L : List AObj} {F : List (Nat × Obj)} (h : Hp W w L F) (k : Nat) {b : Nat} {s : ByteArray} {i : Nat} (hk : L[k]? = some (aRd b s i)) (n : Int) :
    Calls Try.prog 49 #[.pointer (some ⟨b, 0, none⟩), .int .i64 n] w fun e w' => e = .returned (.tuple #[.int .u64 (uV s i n), .int .i64 (uE s i n)]) ∧ Hp W w' (L.set k (aRd b s (uI s i n))) F := by
  obtain ⟨h1, h2, h3⟩ := h.rd k hk
  by_cases c1 : n < 0 ∨ 64 < n
  · have e1 : uE s i n = 3 := if_pos c1
    have e2 : uV s i n = 0 := by unfold uV; rw [e1]; rfl
    have e3 : uI s i n = i := by unfold uI; rw [e1]; rfl
    rw [e1, e2, e3, set_same hk]
    exact (u_range n c1).mono fun e w' ⟨he, hw⟩ => ⟨he, hw ▸ h⟩
  · obtain ⟨m, rfl⟩ : ∃ m : Nat, n = (m : Int) := ⟨n.toNat, by omega⟩
    by_cases c2 : 8 * s.size - i < m
    · have e1 : uE s i m = 5 := by unfold uE; rw [if_neg c1, if_pos (by omega)]
      have e2 : uV s i m = 0 := by unfold uV; rw [e1]; rfl
      have e3 : uI s i m = i := by unfold uI; rw [e1]; rfl
      rw [e1, e2, e3, set_same hk]
      exact (u_short h k hk m (by omega) c2).mono fun e w' ⟨he, q, hw⟩ => ⟨he, hw ▸ h.drewN q⟩
    · have e1 : uE s i m = 0 := by unfold uE; rw [if_neg c1, if_neg (by omega)]
      have e2 : uV s i m = natB (seg (sbits s) i m) := by unfold uV; rw [if_pos e1]; rfl
      have e3 : uI s i m = i + m := by unfold uI; rw [if_pos e1]; rfl
      rw [e1, e2, e3]
      exact u_good h k hk m (by omega) (by omega)

theorem bit_any {W w : World} {L : List AObj} {F : List (Nat × Obj)} (h : Hp W w L F) (k : Nat) {b : Nat} {s : ByteArray} {i : Nat} (hk : L[k]? = some (aRd b s i)) :
    Calls Try.prog 76 #[.pointer (some ⟨b, 0, none⟩)] w fun e w' => e = .returned (.tuple #[.int .u8 (uV s i 1), .int .i64 (uE s i 1)]) ∧ Hp W w' (L.set k (aRd b s (uI s i 1))) F := by
  have H := Lib.hid h; clear h
  have HK := Lib.hid hk; clear hk
  have hv := u8_of_bit (uV_one_le s i)
  go_enter Try.func76, Try.ntmps76
  go_wp2_with (go_at_call 49; refine (u_any H.out k HK.out 1).mono ?_; rintro e w' ⟨rfl, hS⟩)
  exact bodyPost_ret (results_tmp2 rfl _ _ _) rfl ⟨rfl, hS⟩

theorem bit_nil (w : World) : Calls Try.prog 76 #[.pointer none] w fun e w' => e = .returned (.tuple #[.int .u8 0, .int .i64 1]) ∧ w = w' := by
  go_enter Try.func76, Try.ntmps76
  go_wp2_with (go_at_call 49; refine (u_nil 1 _).mono ?_; rintro e w' ⟨rfl, rfl⟩)
  exact bodyPost_ret (results_tmp2 rfl _ _ _) rfl ⟨rfl, rfl⟩

theorem qu_any {W w : World} {L : List AObj} {F : List (Nat × Obj)} (h : Hp W w L F) (k : Nat) {b : Nat} {s : ByteArray} {i : Nat} (hk : L[k]? = some (aQrd b s i)) (n : Int) :
    Calls Try.prog 69 #[.pointer (some ⟨b, 0, none⟩), .int .i64 n] w fun e w' => e = .returned (.tuple #[.int .u64 (uV s i n), .int .i64 (uE s i n)]) ∧ Hp W w' (L.set k (aQrd b s (uI s i n))) F := by
  obtain ⟨h1, h2, h3⟩ := h.qrd k hk
  by_cases c1 : n < 0 ∨ 64 < n
  · have e1 : uE s i n = 3 := if_pos c1
    have e2 : uV s i n = 0 := by unfold uV; rw [e1]; rfl
    have e3 : uI s i n = i := by unfold uI; rw [e1]; rfl
    rw [e1, e2, e3, set_same hk]
    exact (qu_range n c1).mono fun e w' ⟨he, hw⟩ => ⟨he, hw ▸ h⟩
  · obtain ⟨m, rfl⟩ : ∃ m : Nat, n = (m : Int) := ⟨n.toNat, by omega⟩
    by_cases c2 : 8 * s.size - i < m
    · have e1 : uE s i m = 5 := by unfold uE; rw [if_neg c1, if_pos (by omega)]
      have e2 : uV s i m = 0 := by unfold uV; rw [e1]; rfl
      have e3 : uI s i m = i := by unfold uI; rw [e1]; rfl
      rw [e1, e2, e3, set_same hk]
      exact (qu_short h k hk m (by omega) c2).mono fun e w' ⟨he, q, hw⟩ => ⟨he, hw ▸ h.drewN q⟩
    · have e1 : uE s i m = 0 := by unfold uE; rw [if_neg c1, if_neg (by omega)]
      have e2 : uV s i m = natB (seg (sbits s) i m) := by unfold uV; rw [if_pos e1]; rfl
      have e3 : uI s i m = i + m := by unfold uI; rw [if_pos e1]; rfl
      rw [e1, e2, e3]
      exact qu_good h k hk m (by omega) (by omega)

theorem qbit_any {W w : World} {L : List AObj} {F : List (Nat × Obj)} (h : Hp W w L F) (k : Nat) {b : Nat} {s : ByteArray} {i : Nat} (hk : L[k]? = some (aQrd b s i)) :
    Calls Try.prog 77 #[.pointer (some ⟨b, 0, none⟩)] w fun e w' => e = .returned (.tuple #[.int .u8 (uV s i 1), .int .i64 (uE s i 1)]) ∧ Hp W w' (L.set k (aQrd b s (uI s i 1))) F := by
  have H := Lib.hid h; clear h
  have HK := Lib.hid hk; clear hk
  have hv := u8_of_bit (uV_one_le s i)
  go_enter Try.func77, Try.ntmps77
  go_wp2_with (go_at_call 69; refine (qu_any H.out k HK.out 1).mono ?_; rintro e w' ⟨rfl, hS⟩)
  exact bodyPost_ret (results_tmp2 rfl _ _ _) rfl ⟨rfl, hS⟩

theorem qbit_nil (w : World) : Calls Try.prog 77 #[.pointer none] w fun e w' => e = .returned (.tuple #[.int .u8 0, .int .i64 1]) ∧ w = w' := by
  go_enter Try.func77, Try.ntmps77
  go_wp2_with (go_at_call 69; refine (qu_nil 1 _).mono ?_; rintro e w' ⟨rfl, rfl⟩)
  exact bodyPost_ret (results_tmp2 rfl _ _ _) rfl ⟨rfl, rfl⟩

end Go.Proofs.Ytkaoeilijdeioaa
