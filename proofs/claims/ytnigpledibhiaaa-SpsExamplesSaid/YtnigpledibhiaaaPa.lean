/- The program's Decode of sequence parameter sets: its closures. -/
import Derived.Test.YtnigpledibhiaaaPz
import Derived.Test.YtnigpledibhiaaaTe
namespace Go.Proofs.Ytnigpledibhiaaa
open Go.RowKit
set_option linter.unusedVariables false
set_option maxRecDepth 100000
set_option linter.unusedSimpArgs false

theorem cells_solo {w : World} {b : Nat} {x : Value} {t : TypeId} (h : w.heap[b]? = some (.cells #[x] t (0, 0))) : w.cell? ⟨b, 0, none⟩ = some x ∧ w.frozen? ⟨b, 0, none⟩ = false := by
  simp [World.cell?, World.frozen?, h]
/-- The block that holds the first error. -/
@[reducible] def eOb (e : Int) : Obj := .cells #[.int .i64 e] 24 (0, 0)
abbrev lkV (eb : Nat) : Value := .func (.func 32) #[] #[.pointer (some ⟨eb, 0, none⟩)]
section
variable {W w : World} {L : List AObj} {F : List (Nat × Obj)} {eb : Nat}
theorem Hp.e_set {e : Int} (h : Hp W w L ((eb, eOb e) :: F)) (e' : Int) : Hp W (w.setCell ⟨eb, 0, none⟩ (.int .i64 e')) L ((eb, eOb e') :: F) := h.set 0 rfl 0 _

theorem look_any (h : Hp W w L ((eb, eOb 0) :: F)) (v m : Nat) (hv : v < 9223372036854775808) (hm : m < 2147483648) (e wr : Int) :
    Calls Try.prog 32 #[.int .u64 v, .int .i64 e, .int .i64 0, .int .i64 m, .int .i64 wr, .pointer (some ⟨eb, 0, none⟩)] w fun ex w' => ex = .returned (.int .i64 v) ∧ Hp W w' L ((eb, eOb (lkE e v m wr)) :: F) := by
  obtain ⟨c0, f0⟩ := cells_solo (h.blk (List.mem_cons_self ..))
  have w1 : IntKind.u64.wrap (m : Int) = (m : Int) := by rw [IntKind.wrap_u64]; omega
  have w2 : IntKind.i64.wrap (v : Int) = (v : Int) := by rw [IntKind.wrap_i64]; omega
  have d0 : decide ((v : Int) < 0) = false := by simp
  have H := Lib.hid h; clear h
  by_cases he : e = 0
  · subst he
    by_cases hl : m < v
    · have d1 : decide (m < v) = true := by simpa using hl
      have e1 : lkE 0 v m wr = wr := by unfold lkE; rw [if_pos rfl, if_pos hl]
      rw [e1]
      clear e1 hl hv hm
      go_enter Try.func32, Try.ntmps32
      go_wp2_with (fail)
      exact bodyPost_ret (results_tmp rfl _ _ _) rfl ⟨rfl, H.out.e_set wr⟩
    · have d1 : decide (m < v) = false := by simpa using hl
      have e1 : lkE 0 v m wr = 0 := by unfold lkE; rw [if_pos rfl, if_neg hl]
      rw [e1]
      clear e1 hl hv hm
      go_enter Try.func32, Try.ntmps32
      go_wp2_with (fail)
      exact bodyPost_ret (results_tmp rfl _ _ _) rfl ⟨rfl, H.out⟩
  · have d1 : (e == 0) = false := by simp [he]
    have e1 : lkE e v m wr = e := by unfold lkE; rw [if_neg he]
    rw [e1]
    clear e1 he hv hm
    go_enter Try.func32, Try.ntmps32
    go_wp2_with (fail)
    exact bodyPost_ret (results_tmp rfl _ _ _) rfl ⟨rfl, H.out.e_set e⟩

theorem fixed_any {e : Int} (h : Hp W w L ((eb, eOb e) :: F)) {k : Nat} {r : Nat} {s : ByteArray} {i : Nat} (hk : L[k]? = some (aRd r s i)) {rb fb : Nat} {tr tf : TypeId} (hr : (rb, Obj.cells #[.pointer (some ⟨r, 0, none⟩)] tr (0, 0)) ∈ F) (hf : (fb, Obj.cells #[lkV eb] tf (0, 0)) ∈ F) (n : Nat) (hn : n ≤ 8) {v : Nat} {e' : Int} {i' : Nat} (hx : fxR s n (e, i) = (v, e', i')) :
    Calls Try.prog 33 #[.int .i64 n, .pointer (some ⟨eb, 0, none⟩), .pointer (some ⟨rb, 0, none⟩), .pointer (some ⟨fb, 0, none⟩)] w fun ex w' => ex = .returned (.int .u64 v) ∧ Hp W w' (L.set k (aRd r s i')) ((eb, eOb e') :: F) := by
  obtain ⟨c0, f0⟩ := cells_solo (h.blk (List.mem_cons_self ..))
  obtain ⟨c1, -⟩ := cells_solo (h.blk (List.mem_cons_of_mem _ hr))
  by_cases he : e = 0
  · subst he
    have hlt := fxR_lt hx
    have hlt8 : v < 256 := Nat.lt_of_lt_of_le hlt (by have := Nat.pow_le_pow_right (n := 2) (by omega) hn; omega)
    rw [fxR_zero] at hx
    obtain ⟨x1, x2⟩ := Prod.mk.inj hx
    obtain ⟨x2, x3⟩ := Prod.mk.inj x2
    have hl : lkE e' v 255 3 = e' := by
      unfold lkE
      by_cases h0 : e' = 0
      · rw [if_pos h0, if_neg (by omega), h0]
      · rw [if_neg h0]
    have H := Lib.hid h
    have HK := Lib.hid hk
    have HF := Lib.hid hf
    have X := Lib.hid (And.intro x1 (And.intro x2 x3))
    have HL := Lib.hid hl
    have HV : v < 9223372036854775808 := by omega
    clear h hk hf x1 x2 x3 hx hl hlt hlt8 hr
    go_enter Try.func33, Try.ntmps33
    go_wp2_with (first | (go_at_call 34; (with_reducible refine (u_as H.out _ HK.out _ ⟨X.out.2.1, X.out.2.2, X.out.1, rfl⟩).mono ?_); rintro e w1 ⟨rfl, hS⟩; obtain ⟨c3, -⟩ := cells_solo (hS.blk (List.mem_cons_of_mem _ HF.out)); clear c0 f0 c1) | (go_at_call 32; (refine (look_any hS v 255 HV (by decide) _ 3).mono ?_); rintro e w2 ⟨rfl, hS2⟩))
    exact bodyPost_ret (results_tmp rfl _ _ _) rfl ⟨rfl, by have g := hS2; rwa [HL.out] at g⟩
  · have d1 : (e == 0) = false := by simp [he]
    rw [fxR_not _ _ _ he] at hx
    obtain ⟨rfl, x2⟩ := Prod.mk.inj hx
    obtain ⟨rfl, rfl⟩ := Prod.mk.inj x2
    have H := Lib.hid h
    have HK := Lib.hid hk
    clear h hk hf hr x2 hx he
    go_enter Try.func33, Try.ntmps33
    go_wp2_with (fail)
    exact bodyPost_ret (results_tmp rfl _ _ _) rfl ⟨rfl, by rw [set_same HK.out]; exact H.out⟩
theorem number_any {e : Int} (h : Hp W w L ((eb, eOb e) :: F)) {k : Nat} {r : Nat} {s : ByteArray} {i : Nat} (hk : L[k]? = some (aRd r s i)) {rb fb : Nat} {tr tf : TypeId} (hr : (rb, Obj.cells #[.pointer (some ⟨r, 0, none⟩)] tr (0, 0)) ∈ F) (hf : (fb, Obj.cells #[lkV eb] tf (0, 0)) ∈ F) (m : Nat) (hm : m < 2147483648) (wr : Int) {v : Nat} {e' : Int} {i' : Nat} (hx : nmR s m wr (e, i) = (v, e', i')) :
    Calls Try.prog 35 #[.int .i64 0, .int .i64 m, .int .i64 wr, .pointer (some ⟨eb, 0, none⟩), .pointer (some ⟨rb, 0, none⟩), .pointer (some ⟨fb, 0, none⟩)] w fun ex w' => ex = .returned (.int .i64 v) ∧ Hp W w' (L.set k (aRd r s i')) ((eb, eOb e') :: F) := by
  obtain ⟨c0, f0⟩ := cells_solo (h.blk (List.mem_cons_self ..))
  obtain ⟨c1, -⟩ := cells_solo (h.blk (List.mem_cons_of_mem _ hr))
  by_cases he : e = 0
  · subst he
    have hlt := nmR_lt hx
    rw [nmR_zero] at hx
    obtain ⟨x1, x2⟩ := Prod.mk.inj hx
    obtain ⟨x2, x3⟩ := Prod.mk.inj x2
    obtain ⟨z, hz⟩ : ∃ z, ueE s i = z := ⟨_, rfl⟩
    rw [hz, x1] at x2
    have H := Lib.hid h
    have HK := Lib.hid hk
    have HF := Lib.hid hf
    have X := Lib.hid (And.intro x1 (And.intro hz x3))
    have HL := Lib.hid x2
    have HV : v < 9223372036854775808 := by omega
    have hG : ∀ w L F, Hp W w L F → L[k]? = some (aRd r s i) → Calls Try.prog 36 #[.pointer (some ⟨r, 0, none⟩)] w fun e w' => e = .returned (.tuple #[.int .u64 v, .int .i64 z]) ∧ Hp W w' (L.set k (aRd r s i')) F := fun w L F h hk => by
      obtain ⟨y1, y2, y3⟩ := X.out
      have := gue_any h k hk
      rwa [y1, y2, y3] at this
    have HG := Lib.hid hG
    clear h hk hf x1 x2 x3 hx hlt hr hz hG
    go_enter Try.func35, Try.ntmps35
    go_wp2_with (first | (go_at_call 36; (with_reducible refine (HG.out _ _ _ H.out HK.out).mono ?_); rintro e w1 ⟨rfl, hS⟩; obtain ⟨c3, -⟩ := cells_solo (hS.blk (List.mem_cons_of_mem _ HF.out)); clear c0 f0 c1) | (go_at_call 32; (refine (look_any hS v m HV hm _ wr).mono ?_); rintro e w2 ⟨rfl, hS2⟩))
    exact bodyPost_ret (results_tmp rfl _ _ _) rfl ⟨rfl, by have g := hS2; rwa [HL.out] at g⟩
  · have d1 : (e == 0) = false := by simp [he]
    rw [nmR_not _ _ _ _ he] at hx
    obtain ⟨rfl, x2⟩ := Prod.mk.inj hx
    obtain ⟨rfl, rfl⟩ := Prod.mk.inj x2
    have H := Lib.hid h
    have HK := Lib.hid hk
    clear h hk hf hr x2 hx he
    go_enter Try.func35, Try.ntmps35
    go_wp2_with (fail)
    exact bodyPost_ret (results_tmp rfl _ _ _) rfl ⟨rfl, by rw [set_same HK.out]; exact H.out⟩
end
end Go.Proofs.Ytnigpledibhiaaa
