/- The reference's writer: what each of its functions does, at every state. -/
import Derived.Test.YtkaoeilijdeioaaWrB
import Derived.Maps.AppendAt
namespace Go.Proofs.Ytkaoeilijdeioaa
open Go.RowKit
set_option linter.unusedVariables false
set_option maxRecDepth 100000
set_option linter.unusedSimpArgs false

def qwrObj (v : Value) : Obj := .cells #[v] 93 (0, 0)

/-- The reference's writer at block b. -/
def aQwr (b : Nat) (B : List Bool) : AObj where
  P w G := G b ∧ ∃ v : Value, w.heap[b]? = some (qwrObj v) ∧ BytesAt w (fun c => G c ∧ c ≠ b) v (B.map chB)
  loc hh hG := fun ⟨h1, v, h2, h3⟩ => ⟨hG _ h1, v, (hh _ h1).trans h2, h3.loc (fun c hc => hh c hc.1) (fun c hc => ⟨hG c hc.1, hc.2⟩)⟩

theorem Hp.qwr {W w : World} {L : List AObj} {F : List (Nat × Obj)} {b : Nat} {B : List Bool} (h : Hp W w L F) (k : Nat) (hk : L[k]? = some (aQwr b B)) :
    ∃ (v : Value) (G : Nat → Prop), w.heap[b]? = some (qwrObj v) ∧ BytesAt w (fun c => G c ∧ c ≠ b) v (B.map chB) := by
  obtain ⟨_, o, _, _, _, hL⟩ := h
  obtain ⟨_, v, h2⟩ := hL k _ hk
  exact ⟨v, _, h2⟩

theorem qwrite_any {W w : World} {L : List AObj} {F : List (Nat × Obj)} (h : Hp W w L F) :
    Calls Try.prog 27 #[] w (Makes W L F fun b => aQwr b []) := by
  have H := Lib.hid h; clear h
  go_enter Try.func27, Try.ntmps27
  go_wp2
  go_ret
  refine ⟨_, rfl, H.out.make ((Below.refl _ _).alloc (Nat.le_refl _) _) ⟨⟨Nat.le_refl _, by simp⟩, .slice none 0 0, ?_, ⟨⟨rfl, Or.inl ⟨rfl, rfl⟩⟩, fun c hc => by simp [Value.ownBlock] at hc⟩⟩⟩
  exact heap_alloc_new w _

theorem qput_nil (n v : Int) (w : World) : Calls Try.prog 29 #[.pointer none, .int .i64 n, .int .u64 v] w fun e w' => e = .returned (.int .i64 1) ∧ w = w' := by
  go_enter Try.func29, Try.ntmps29
  go_wp2
  go_ret
  exact ⟨rfl, rfl⟩

theorem qput_range {w : World} {b : Nat} (n v : Int) (hn : n < 0 ∨ 64 < n) :
    Calls Try.prog 29 #[.pointer (some ⟨b, 0, none⟩), .int .i64 n, .int .u64 v] w fun e w' => e = .returned (.int .i64 3) ∧ w = w' := by
  rcases hn with hn | hn
  · have hd : decide (n < 0) = true := by simpa using hn
    go_enter Try.func29, Try.ntmps29
    go_wp2
    go_ret
    exact ⟨rfl, rfl⟩
  · have hd : decide (n < 0) = false := by simp; omega
    go_enter Try.func29, Try.ntmps29
    go_wp2
    go_ret
    exact ⟨rfl, rfl⟩

theorem qput_arg {w : World} {b : Nat} (n v : Nat) (hn : n < 64) (hv : 2 ^ n ≤ v) :
    Calls Try.prog 29 #[.pointer (some ⟨b, 0, none⟩), .int .i64 n, .int .u64 v] w fun e w' => e = .returned (.int .i64 2) ∧ w = w' := by
  have z0 : ((v : Int) / 2 ^ n != 0) = true := by
    have : 0 < v / 2 ^ n := Nat.div_pos hv (Nat.two_pow_pos n)
    have e : ((v : Int) / 2 ^ n) = ((v / 2 ^ n : Nat) : Int) := by simp
    rw [e]; simp; omega
  clear hv
  go_enter Try.func29, Try.ntmps29
  go_wp2
  go_ret
  exact ⟨rfl, rfl⟩

theorem one_new (w : World) (v : Value) (t : TypeId) : ∀ (j : Nat) (u : Value), [v][j]? = some u → (w.alloc (.cells #[v] t (0, 0))).cell? ((⟨w.heap.size, 0, none⟩ : Addr).add j) = some u := by
  intro j u hu
  cases j with
  | zero =>
    simp at hu
    subst hu
    rw [addr_add]
    exact cell_of_one (heap_alloc_new w _)
  | succ j => simp at hu

theorem chB_step (x : Nat) (hx : x ≤ 1) : ((chB (decide (x = 1))).toNat : Int) = 48 + (x : Int) := by
  rcases Nat.le_one_iff_eq_zero_or_eq_one.1 hx with rfl | rfl <;> rfl

set_option maxHeartbeats 1000000 in
theorem qput_good {W w : World} {L : List AObj} {F : List (Nat × Obj)} (h : Hp W w L F) (k : Nat) {b : Nat} {B : List Bool} (hk : L[k]? = some (aQwr b B)) (hB : B.length ≤ 2 ^ 40) (n v : Nat) (hn : n ≤ 64) (hv : v < 2 ^ n) :
    Calls Try.prog 29 #[.pointer (some ⟨b, 0, none⟩), .int .i64 n, .int .u64 v] w fun e w' => e = .returned (.int .i64 0) ∧ Hp W w' (L.set k (aQwr b (B ++ bitsN n v))) F := by
  obtain ⟨ti, ti1, ti2, ti3, ti4⟩ := u8_info
  have hv64 : v < 18446744073709551616 := Nat.lt_of_lt_of_le hv (Nat.pow_le_pow_right (n := 2) (j := 64) (i := n) (by omega) hn)
  have z0 : ((v : Int) / 2 ^ n != 0) = false := by
    have : v / 2 ^ n = 0 := Nat.div_eq_of_lt hv
    have e : ((v : Int) / 2 ^ n) = ((v / 2 ^ n : Nat) : Int) := by simp
    rw [e, this]; rfl
  have HH := Lib.hid h
  have HK := Lib.hid hk
  clear h hk hv
  by_cases h64 : n < 64
  all_goals
    go_enter Try.func29, Try.ntmps29
    go_wp2
    go_loopw [7] (fun i wr => ∃ j : Nat, i = .int .i64 ((j : Int) - 1) ∧ j ≤ n ∧ Hp W wr (L.set k (aQwr b (B ++ bitsN (n - j) (v / 2 ^ j)))) F) (fun i _ => (intOf i + 1).toNat)
    case atStart => exact ⟨n, rfl, Nat.le_refl _, by rw [Nat.sub_self, bitsN, List.append_nil, set_same HK.out]; exact HH.out⟩
    case round =>
      obtain ⟨j, rfl, g1, g3⟩ := hrel
      by_cases hm : 0 < j
      · obtain ⟨j, rfl⟩ : ∃ q, j = q + 1 := ⟨j - 1, by omega⟩
        have hi : (0 : Int) ≤ ((j + 1 : Nat) : Int) - 1 := by omega
        obtain ⟨C, hC⟩ : ∃ C, C = B ++ bitsN (n - (j + 1)) (v / 2 ^ (j + 1)) := ⟨_, rfl⟩
        have hCl : C.length ≤ 2 ^ 40 + 64 := by rw [hC, List.length_append, bitsN_length]; omega
        rw [← hC] at g3
        obtain ⟨G, ⟨hGb, vs, hat, hby⟩, hG, hturn⟩ := g3.turn k (set_at HK.out _)
        obtain ⟨x, hx⟩ : ∃ x, x = v / 2 ^ j % 2 := ⟨_, rfl⟩
        have hx1 : x ≤ 1 := by omega
        have hbx : bits .and .u64 ((v : Int) / 2 ^ j) 1 = (x : Int) := by
          have e1 : ((v : Int) / 2 ^ j) = ((v / 2 ^ j : Nat) : Int) := by simp
          rw [e1, u64_and_one (Nat.lt_of_le_of_lt (Nat.div_le_self _ _) hv64), hx]
        have hstep : B ++ bitsN (n - j) (v / 2 ^ j) = C ++ [decide (x = 1)] := by
          rw [hC, hx, show n - j = (n - (j + 1)) + 1 by omega, bitsN_snoc, List.append_assoc]
        obtain ⟨x0, y0⟩ : wr.cell? ⟨b, 0, none⟩ = some vs ∧ wr.frozen? ⟨b, 0, none⟩ = false := by simp [World.cell?, World.frozen?, hat, qwrObj]
        have hblt := lt_of_block hat
        have q1 : ¬ b = wr.heap.size := by omega
        have q2 : ¬ wr.heap.size = b := by omega
        obtain ⟨sp, cap, rfl, hml, hmc⟩ := hby.form
        rw [List.length_map] at hat hby x0
        have HX := Lib.hid hx; have HC := Lib.hid hC; have HST := Lib.hid hstep; have HAT := Lib.hid hat; have HBY := Lib.hid hby; have HG := Lib.hid hG; have HT := Lib.hid hturn; have G3 := Lib.hid g3
        have hown : wr.ownsRow 0 5 1 (.slice sp C.length cap) C.length ((C.map chB).map bv) := by have := hby.1; rwa [List.length_map] at this
        have HO := Lib.hid hown
        clear hx hC hstep hat hby hG hturn hown g3
        go_wp2_with (at_builtin; refine wpList_append_own_at _ rfl (.tmp 35) (.tmp 43) 36 rfl 0 5 ti (.int .u8 0) 1 1 Try.underlying36 ti1 ti2 ti3 ti4 rfl (by decide) _ _ _ rfl (HO.out.alloc _) ⟨wr.heap.size, 0, none⟩ 1 1 [.int .u8 (48 + (x : Int))] rfl rfl ?c1 ?c2 ?c3 ?c4 ?c5 ?_)
        case c1 => exact one_new _ _ _
        case c2 => intro u hu; simp at hu; subst hu; rfl
        case c3 => unfold maxLen; omega
        case c4 => omega
        case c5 => exact Nat.zero_le _
        intro v' w1 hown' hgrow hnil hat2
        obtain ⟨r1, r2⟩ := hown'
        have nb : (Value.slice sp C.length cap).ownBlock ≠ some b := fun e => (HBY.out.2 b e).2 rfl
        have hszz : (wr.alloc (.cells #[.int .u8 (48 + (x : Int))] 5 (0, 0))).heap.size = wr.heap.size + 1 := by simp
        have d0 : w1.heap[b]? = some (qwrObj (.slice sp C.length cap)) := (hgrow.block b (by omega) (fun e => nb e.symm)).trans ((Below.heap_alloc _ _ _ hblt).trans HAT.out)
        obtain ⟨k0, k1⟩ : w1.cell? ⟨b, 0, none⟩ = some (.slice sp C.length cap) ∧ w1.frozen? ⟨b, 0, none⟩ = false := by simp [World.cell?, World.frozen?, d0, qwrObj]
        rcases r2 with ⟨_, e0⟩ | ⟨g, cap', cur, rfl, _, r3, r4, r5, r6, r7⟩
        · simp at e0
        have HR1 := Lib.hid r1; have HR3 := Lib.hid r3; have HR4 := Lib.hid r4; have HR5 := Lib.hid r5; have HR6 := Lib.hid r6; have HR7 := Lib.hid r7; have HD0 := Lib.hid d0; have HGR := Lib.hid hgrow; have HZZ := Lib.hid hszz; have HA2 := Lib.hid hat2
        clear r1 r3 r4 r5 r6 r7 d0 hgrow nb hnil hszz hat2
        go_wp2
        go_roundw
        case rel =>
          refine ⟨j, rfl, by omega, ?_⟩
          rw [HST.out, ← set_set (aQwr b C)]
          have hgr := HGR.out
          have hzz := HZZ.out
          have hs1 := hgr.size
          have r1 := HR1.out
          have r3 := HR3.out
          have r4 := HR4.out
          have hgG : (G g ∧ g ≠ b) ∨ (wr.heap.size ≤ g ∧ g < w1.heap.size) := by
            rcases HA2.out with e | e
            · exact Or.inl (HBY.out.2 g e.symm)
            · have e' : g = wr.heap.size + 1 := Option.some.inj (show some g = some (wr.heap.size + 1) from e)
              exact Or.inr ⟨by omega, lt_of_block r3⟩
          have hgb : g ≠ b := by
            rcases hgG with h | h
            · exact h.2
            · omega
          have hl1 : ((C ++ [decide (x = 1)]).map chB).length = C.length + 1 := by simp
          refine HT.out _ (aQwr b (C ++ [decide (x = 1)])) (by show w1.os = _; exact hgr.os) (by show w1.tape = _; exact hgr.tape) (by show w1.output = _; exact hgr.output) (by rw [size_setCell]; omega) (fun c hc hn => ?_) ⟨Or.inl hGb, .slice (some ⟨g, 0, none⟩) (C.length + 1) cap', heap_setCell_self HD0.out 0 _, ⟨⟨by simp, Or.inr ⟨g, cap', cur, by rw [hl1], Nat.zero_le _, ?_, by rw [hl1]; exact r4, HR5.out, HR6.out, ?_⟩⟩, ?_⟩⟩
          · rw [Below.heap_setCell _ _ _ _ (fun e => hn (by rw [e]; exact hGb)), hgr.block c (by omega) (fun e => hn (HBY.out.2 c e.symm).1)]
            exact Below.heap_alloc _ _ _ hc
          · rw [Below.heap_setCell _ _ _ _ hgb]; exact r3
          · rw [hl1, HR7.out]
            simp only [List.map_map, List.map_append, List.map_cons, List.map_nil]
            congr 1
            show [Value.int .u8 (48 + (x : Int))] = [Value.int .u8 ((chB (decide (x = 1))).toNat : Int)]
            rw [chB_step x hx1]
          · intro c hc
            have : c = g := by simpa [Value.ownBlock] using hc.symm
            subst this
            refine ⟨?_, hgb⟩
            rcases hgG with h | h
            · exact Or.inl h.1
            · exact Or.inr ⟨h.1, by rw [size_setCell]; exact h.2⟩
        case measure => simp [intOf]
      · obtain rfl : j = 0 := by omega
        have G3 := Lib.hid g3; clear g3
        go_wp2
        refine bodyPost_ret (results_tmp rfl _ _ _) rfl ⟨rfl, ?_⟩
        have g3 := G3.out
        rwa [Nat.sub_zero, Nat.pow_zero, Nat.div_one] at g3

theorem qput_any {W w : World} {L : List AObj} {F : List (Nat × Obj)} (h : Hp W w L F) (k : Nat) {b : Nat} {B : List Bool} (hk : L[k]? = some (aQwr b B)) (hB : B.length ≤ 2 ^ 40) (n : Int) (v : Nat) (hv : v < 18446744073709551616) :
    Calls Try.prog 29 #[.pointer (some ⟨b, 0, none⟩), .int .i64 n, .int .u64 v] w fun e w' => e = .returned (.int .i64 (pE n v)) ∧ Hp W w' (L.set k (aQwr b (pB B n v))) F := by
  by_cases c1 : n < 0 ∨ 64 < n
  · have e1 : pE n v = 3 := if_pos c1
    have e2 : pB B n v = B := by unfold pB; rw [e1]; rfl
    rw [e1, e2, set_same hk]
    exact (qput_range n v c1).mono fun e w' ⟨he, hw⟩ => ⟨he, hw ▸ h⟩
  · obtain ⟨m, rfl⟩ : ∃ m : Nat, n = (m : Int) := ⟨n.toNat, by omega⟩
    by_cases c2 : m < 64 ∧ 2 ^ m ≤ v
    · have e1 : pE m v = 2 := by unfold pE; rw [if_neg c1, if_pos ⟨by omega, by simpa using c2.2⟩]
      have e2 : pB B m v = B := by unfold pB; rw [e1]; rfl
      rw [e1, e2, set_same hk]
      exact (qput_arg m v c2.1 c2.2).mono fun e w' ⟨he, hw⟩ => ⟨he, hw ▸ h⟩
    · have e1 : pE m v = 0 := by unfold pE; rw [if_neg c1, if_neg (fun hc => c2 ⟨by omega, by simpa using hc.2⟩)]
      have e2 : pB B m v = B ++ bitsN m v := by unfold pB; rw [if_pos e1]; rfl
      rw [e1, e2]
      refine qput_good h k hk hB m v (by omega) ?_
      by_cases h64 : m < 64
      · exact Nat.lt_of_not_le fun hc => c2 ⟨h64, hc⟩
      · obtain rfl : m = 64 := by omega
        exact hv

theorem qlen_any {W w : World} {L : List AObj} {F : List (Nat × Obj)} (h : Hp W w L F) (k : Nat) {b : Nat} {B : List Bool} (hk : L[k]? = some (aQwr b B)) :
    Calls Try.prog 63 #[.pointer (some ⟨b, 0, none⟩)] w fun e w' => e = .returned (.int .i64 (B.length : Nat)) ∧ w = w' := by
  obtain ⟨v, G, hat, hby⟩ := h.qwr k hk
  obtain ⟨sp, cap, rfl, h1, h2⟩ := hby.form
  rw [List.length_map] at hat
  obtain ⟨x0, y0⟩ : w.cell? ⟨b, 0, none⟩ = some (.slice sp B.length cap) ∧ w.frozen? ⟨b, 0, none⟩ = false := by simp [World.cell?, World.frozen?, hat, qwrObj]
  clear hk h hat hby
  go_enter Try.func63, Try.ntmps63
  go_wp2
  go_ret
  exact ⟨rfl, rfl⟩

end Go.Proofs.Ytkaoeilijdeioaa
