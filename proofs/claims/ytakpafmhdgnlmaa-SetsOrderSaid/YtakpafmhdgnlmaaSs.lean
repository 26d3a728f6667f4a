/- The walk of SetsOrder. -/
import Derived.Test.YtakpafmhdgnlmaaSr
import Derived.Test.YtakpafmhdgnlmaaFl
import Derived.Deep.RegionHeld3
import Derived.Deep.CutRange
namespace Go.Proofs.Ytakpafmhdgnlmaa
open Go.RowKit
set_option linter.unusedVariables false
set_option maxRecDepth 100000
set_option linter.unusedSimpArgs false

def theL (C : Nat → List Value) (m : Nat) : List PutD := (List.range m).map fun c => ⟨bat C c 0, zat C c 1, zat C c 2⟩
theorem theL_len (C : Nat → List Value) (m : Nat) : (theL C m).length = m := by simp [theL]
theorem theL_at (C : Nat → List Value) {m c : Nat} (h : c < m) : (theL C m)[c]? = some ⟨bat C c 0, zat C c 1, zat C c 2⟩ := by simp [theL, h]

theorem lawputo_as {W w : World} {L : List AObj} {F : List (Nat × Obj)} {b m1 m2 : Nat} {f f' : Int → Option SpsD} {g g' : Int → Option PpsD} (h : Hp W w L F) (k : Nat) (hk : L[k]? = some (aSt b m1 m2 f g)) {pb : Bool} {i o : Int} (hi : (-9223372036854775808 ≤ i ∧ i < 9223372036854775808) ∧ (-9223372036854775808 ≤ o ∧ o < 9223372036854775808)) (hx : stS pb i o f = f' ∧ stP pb i o g = g') :
    Calls Try.prog 9 #[.pointer (some ⟨b, 0, none⟩), .agg #[.bool pb, .int .i64 i, .int .i64 o]] w fun e w' => e = .returned (.int .i64 0) ∧ Hp W w' (L.set k (aSt b m1 m2 f' g')) F := by
  obtain ⟨rfl, rfl⟩ := hx
  exact lawput_any h k hk pb i o hi.1 hi.2

theorem at4 {a b c d e : AObj} {l : List AObj} : (a :: b :: c :: d :: e :: l)[4]? = some e := rfl
theorem q_info : ∃ i : TypeInfo, Try.prog.info? 35 = some i ∧ i.zero = some (.agg #[.bool false, .int .i64 0, .int .i64 0]) ∧ i.size = 3 ∧ i.bytes = 24 := by
  obtain ⟨i, h, h0, h1, h2⟩ := info_parts (show (Try.prog.info? 35).map (fun i => (i.zero, i.size, i.bytes)) = some (some (.agg #[.bool false, .int .i64 0, .int .i64 0]), 3, 24) by kernel_rfl)
  exact ⟨i, h, h0, h1, h2⟩
theorem po_news {w : World} {l : List PutD} {b o : Nat} (h : ∀ (c : Nat) (x : PutD), l[c]? = some x → w.cell? ⟨b, o + c * 3, none⟩ = some (.bool x.pb) ∧ w.cell? ⟨b, o + c * 3 + 1, none⟩ = some (.int .i64 x.i) ∧ w.cell? ⟨b, o + c * 3 + 2, none⟩ = some (.int .i64 x.o)) :
    ∀ (j : Nat) (u : Value), (l.flatMap qcs)[j]? = some u → w.cell? ((⟨b, o, none⟩ : Addr).add j) = some u := by
  intro j u hu
  have hj := (List.getElem?_eq_some_iff.1 hu).1
  rw [qcs_len] at hj
  have hc : j / 3 < l.length := by omega
  have hx : l[j / 3]? = some l[j / 3] := List.getElem?_eq_getElem hc
  have hr : j % 3 < 3 := Nat.mod_lt _ (by decide)
  have h1 := qcs_at hx (j % 3) hr
  obtain ⟨q0, q1, q2⟩ := h _ _ hx
  have hjj : j = j / 3 * 3 + j % 3 := by omega
  rw [← hjj, hu] at h1
  rw [addr_off]
  generalize l[j / 3] = x at *
  generalize j / 3 = c at *
  generalize j % 3 = r at *
  subst hjj
  match r, hr, h1 with
  | 0, _, h1 => obtain rfl := Option.some.inj h1; exact q0
  | 1, _, h1 => obtain rfl := Option.some.inj h1; exact q1
  | 2, _, h1 => obtain rfl := Option.some.inj h1; exact q2
theorem swp_mem {l : List PutD} {k : Nat} {a b : PutD} (ha : l[k]? = some a) (hb : l[k + 1]? = some b) {c : Nat} {x : PutD} (hx : (swp l k a b)[c]? = some x) : ∃ c' : Nat, l[c']? = some x := by
  unfold swp at hx
  have hl := (List.getElem?_eq_some_iff.1 hb).1
  by_cases e1 : c = k + 1
  · subst e1
    rw [List.getElem?_set_self (by simpa using hl)] at hx
    exact ⟨k, by rw [ha]; exact hx⟩
  · rw [List.getElem?_set_ne (fun e => e1 e.symm)] at hx
    by_cases e2 : c = k
    · subst e2
      rw [List.getElem?_set_self (by omega)] at hx
      exact ⟨c + 1, by rw [hb]; exact hx⟩
    · rw [List.getElem?_set_ne (fun e => e2 e.symm)] at hx
      exact ⟨c, hx⟩
@[reducible] def qO (pb : Bool) (i o : Int) : Obj := .cells #[.bool pb, .int .i64 i, .int .i64 o] 35 (0, 0)
theorem qo_cells {w : World} {b : Nat} {pb : Bool} {i o : Int} (h : w.heap[b]? = some (qO pb i o)) : w.cell? ⟨b, 0, none⟩ = some (.bool pb) ∧ w.cell? ⟨b, 1, none⟩ = some (.int .i64 i) ∧ w.cell? ⟨b, 2, none⟩ = some (.int .i64 o) := by
  simp [World.cell?, h]
theorem smodq_as (x n : Int) (hn : 1 ≤ n) (hn2 : n ≤ 1048576) (hx : -9223372036854775808 ≤ x ∧ x < 9223372036854775808) {y : Int} (hy : x % n = y) (w : World) :
    Calls Try.prog 10 #[.int .i64 x, .int .i64 n] w fun e w' => e = .returned (.int .i64 y) ∧ w' = w :=
  (smod_as x n hn hn2 hx hy w).mono fun _ _ ⟨he, hw⟩ => ⟨he, hw.symm⟩
theorem M14 : (1 : Int) ≤ 4 := by decide
theorem M41 : (4 : Int) ≤ 1048576 := by decide
theorem Hp.po_swap2 {W w : World} {L : List AObj} {F : List (Nat × Obj)} {g : Nat} {l : List PutD} (h : Hp W w L F) (n : Nat) (hn : L[n]? = some (aPo g l)) {k k' : Nat} (hk : k' = k + 1) {pa pc : Bool} {ia oa ic oc : Int} (ha : l[k]? = some ⟨pa, ia, oa⟩) (hb : l[k']? = some ⟨pc, ic, oc⟩) :
    Hp W ((((((w.setCell ⟨g, k * 3, none⟩ (.bool pc)).setCell ⟨g, k * 3 + 1, none⟩ (.int .i64 ic)).setCell ⟨g, k * 3 + 2, none⟩ (.int .i64 oc)).setCell ⟨g, k' * 3, none⟩ (.bool pa)).setCell ⟨g, k' * 3 + 1, none⟩ (.int .i64 ia)).setCell ⟨g, k' * 3 + 2, none⟩ (.int .i64 oa)) (L.set n (aPo g (swp l k ⟨pa, ia, oa⟩ ⟨pc, ic, oc⟩))) F := by
  subst hk
  have h1 := h.po_swap n hn ha hb
  unfold poSwap at h1
  exact h1
theorem cast00 : ((0 : Nat) : Int) = 0 := rfl
def PutOk (x : PutD) : Prop := (-9223372036854775808 ≤ x.i ∧ x.i < 9223372036854775808) ∧ (-9223372036854775808 ≤ x.o ∧ x.o < 9223372036854775808)
theorem okS_fb {x0 x1 x2 x3 x5 x6 x7 x8 : Int} : okS ⟨x0, x1, x2, x3, 0, x5, x6, x7, x8⟩ = false := by unfold okS; simp
theorem okP_refs {y0 y1 : Int} {y2 : Bool} {y4 y5 y6 y7 : Int} {y8 y9 : Bool} : okP ⟨y0, y1, y2, 0, y4, y5, y6, y7, y8, y9⟩ = false := by unfold okP; simp
theorem Hp.po_of2 {W w : World} {L : List AObj} {F : List (Nat × Obj)} {l : List PutD} {v : Value} {m : Nat} (h : Hp W w L F) (k : Nat) (hm : l.length = m) (hk : L[k]? = some (aSl 35 3 v m (l.flatMap qcs))) (hn : 0 < m) :
    ∃ g cap, v = .slice (some ⟨g, 0, none⟩) m cap ∧ m ≤ cap ∧ Hp W w (L.set k (aPo g l)) F := by
  subst hm
  exact h.po_of k hk hn

set_option maxHeartbeats 8000000 in
theorem sorder_walk {W : World} {sp : Option Addr} {n cap b o' : Nat} {C : Nat → List Value} (hin : RowsIn Try.prog W [.bool, .int .i64, .int .i64] sp n b o' C) (hn63 : n ≤ 9223372036854775807) (hcap : n ≤ cap) (at_ : Int) (hat : -9223372036854775808 ≤ at_ ∧ at_ < 9223372036854775808) (x : SpsD) (y : PpsD) :
    Calls Try.prog 4 #[.slice sp n cap, .int .i64 at_, sv x, pv y] W fun e w' => e = .returned (.bool true) ∧ Below W.heap.size W w' := by
  have hS := Hp.start W
  have HIN := Lib.hid hin
  clear hin
  obtain ⟨f0, hf0⟩ : ∃ f, F0 = f := ⟨_, rfl⟩
  obtain ⟨g0, hg0⟩ : ∃ f, G0 = f := ⟨_, rfl⟩
  have HF0 := Lib.hid hf0
  have HG0 := Lib.hid hg0
  clear hf0 hg0
  obtain ⟨x0, x1, x2, x3, x4, x5, x6, x7, x8⟩ := x
  obtain ⟨y0, y1, y2, y3, y4, y5, y6, y7, y8, y9⟩ := y
  have hbad := (hS.ob_new (sObj ⟨x0, x1, x2, x3, x4, x5, x6, x7, x8⟩)).ob_new (pObj ⟨y0, y1, y2, y3, y4, y5, y6, y7, y8, y9⟩)
  simp only [World.size_alloc] at hbad
  clear hS
  by_cases h30 : n ≤ 30
  · go_enter Try.func4, Try.ntmps4
    go_wp2_with (first | (go_at_call 8; (with_reducible refine (setsnew_as hbad HF0.out HG0.out).mono ?_); rintro e w1 ⟨sb, a1, a2, rfl, h1⟩; clear hbad) | (go_at_call 8; (with_reducible refine (setsnew_as h1 HF0.out HG0.out).mono ?_); rintro e w1 ⟨tb, b1, b2, rfl, h2⟩; clear h1; have qs := h2.ob 3 at3; have qp := h2.ob 2 at2; obtain ⟨_, _, _, _, c4, _, _, _, _⟩ := s_cells qs; obtain ⟨_, _, _, d3, _, _, _, _, _, _⟩ := p_cells qp; have fs := s_free qs; have fp := p_free qp))
    have h3 := h2.ob_turn 3 at3 ((OneBlk.refl _ _).set 4 (.int .i64 0)) (setCell_blk qs 4 (.int .i64 0))
    simp only [set3] at h3
    have h4 := h3.ob_turn 2 at2 ((OneBlk.refl _ _).set 3 (.int .i64 0)) (setCell_blk (h3.ob 2 at2) 3 (.int .i64 0))
    simp only [set2] at h4
    obtain ⟨X, hX⟩ : ∃ X, W.heap.size = X := ⟨_, rfl⟩
    rw [hX] at h4 ⊢
    have H4 : Hid (Hp W _ [aSt tb b1 b2 f0 g0, aSt sb a1 a2 f0 g0, aOb (X + 1) (pObj ⟨y0, y1, y2, 0, y4, y5, y6, y7, y8, y9⟩), aOb X (sObj ⟨x0, x1, x2, x3, 0, x5, x6, x7, x8⟩)] []) := Lib.hid h4
    clear h2 h3 h4 qs qp fs fp c4 d3
    go_loopw [11] (fun i' wr => ∃ c : Nat, i' = .int .i64 c ∧ c ≤ n ∧ ∃ f g, Hid (run1 ((theL C n).take c) = (f, g)) ∧ Hp W wr [aSt tb b1 b2 f0 g0, aSt sb a1 a2 f g, aOb (X + 1) (pObj ⟨y0, y1, y2, 0, y4, y5, y6, y7, y8, y9⟩), aOb X (sObj ⟨x0, x1, x2, x3, 0, x5, x6, x7, x8⟩)] []) (fun i' _ => n - (intOf i').toNat)
    case atStart => exact ⟨0, rfl, Nat.zero_le _, f0, g0, Lib.hid (by rw [List.take_zero, ← HF0.out, ← HG0.out]; rfl), H4.out⟩
    case round =>
      obtain ⟨c, rfl, hc, f, g, HR, h⟩ := hrel
      by_cases hlt : c < n
      · obtain ⟨rfl, hblt⟩ := HIN.out.at_ (by omega)
        have k0 := HIN.out.bool (show c < n by omega) 0 rfl
        obtain ⟨k1, q1⟩ := HIN.out.int (show c < n by omega) 1 (k := .i64) rfl
        obtain ⟨k2, q2⟩ := HIN.out.int (show c < n by omega) 2 (k := .i64) rfl
        simp only [List.length_cons, List.length_nil, Nat.zero_add, Nat.reduceAdd, Nat.add_zero] at k0 k1 k2
        have q1 := bounds_i64 q1
        have q2 := bounds_i64 q2
        have hx := theL_at C hlt
        generalize bat C c 0 = pb at *
        generalize zat C c 1 = i at *
        generalize zat C c 2 = o at *
        have KC : Hid (∀ {w' : World} {L' : List AObj}, Hp W w' L' [] → w'.cell? ⟨b, o' + c * 3, none⟩ = some (.bool pb) ∧ w'.cell? ⟨b, o' + c * 3 + 1, none⟩ = some (.int .i64 i) ∧ w'.cell? ⟨b, o' + c * 3 + 2, none⟩ = some (.int .i64 o)) :=
          Lib.hid fun h => ⟨(h.below.cell (p := ⟨b, _, none⟩) hblt).trans k0, (h.below.cell (p := ⟨b, _, none⟩) hblt).trans k1, (h.below.cell (p := ⟨b, _, none⟩) hblt).trans k2⟩
        obtain ⟨v0, v1, v2⟩ := KC.out h
        have HB : Hid ((-9223372036854775808 ≤ i ∧ i < 9223372036854775808) ∧ (-9223372036854775808 ≤ o ∧ o < 9223372036854775808)) := Lib.hid ⟨by omega, by omega⟩
        obtain ⟨f', hf'⟩ : ∃ f', stS pb i o f = f' := ⟨_, rfl⟩
        obtain ⟨g', hg'⟩ : ∃ g', stP pb i o g = g' := ⟨_, rfl⟩
        have HR2 : Hid (run1 ((theL C n).take (c + 1)) = (f', g')) := Lib.hid (by rw [run1_take hx, HR.out, ← hf', ← hg']; rfl)
        have HFG := Lib.hid (And.intro hf' hg')
        clear hf' hg' k0 k1 k2 q1 q2 hx HR
        go_wp2_with (first | (go_at_call 9; (with_reducible refine (lawputo_as h 1 at1 HB.out HFG.out).mono ?_); rintro e w2 ⟨rfl, j0⟩; simp only [set1] at j0; clear h))
        go_roundw
        case rel => exact ⟨c + 1, by go_num, by omega, f', g', HR2, j0⟩
        case measure => simp [intOf]; omega
      · obtain rfl : n = c := by omega
        have HA : Hid (run1 (theL C n) = (f, g)) := Lib.hid (by rw [← HR.out, List.take_of_length_le (by rw [theL_len]; omega)])
        have H5 := Lib.hid h
        clear h HR hlt hc
        rcases Nat.eq_zero_or_pos n with hm0 | hm0
        · subst hm0
          have hfg : (f, g) = (f0, g0) := by rw [← HA.out, ← HF0.out, ← HG0.out]; rfl
          obtain ⟨rfl, rfl⟩ := Prod.mk.inj hfg
          clear hfg HA
          rcases sp with _ | ad
          · go_wp2_with (fail)
            simp only [cast00]
            go_loopw [16] (fun i' wr => i' = .int .i64 0 ∧ Hp W wr [aSt tb b1 b2 f g, aSt sb a1 a2 f g, aOb (X + 1) (pObj ⟨y0, y1, y2, 0, y4, y5, y6, y7, y8, y9⟩), aOb X (sObj ⟨x0, x1, x2, x3, 0, x5, x6, x7, x8⟩)] []) (fun i' _ => 0)
            case atStart => exact ⟨rfl, H5.out⟩
            case round =>
              obtain ⟨rfl, h⟩ := hrel
              have H6 := Lib.hid h
              clear h
              go_wp2_with (fail)
              go_loopw [17] (fun d' wv => ∃ d : Nat, d' = .int .i64 d ∧ d ≤ 4 ∧ Hp W wv [aSt tb b1 b2 f g, aSt sb a1 a2 f g, aOb (X + 1) (pObj ⟨y0, y1, y2, 0, y4, y5, y6, y7, y8, y9⟩), aOb X (sObj ⟨x0, x1, x2, x3, 0, x5, x6, x7, x8⟩)] []) (fun d' _ => 4 - (intOf d').toNat)
              case atStart => exact ⟨0, rfl, by omega, H6.out⟩
              case round =>
                obtain ⟨d, rfl, hd, h⟩ := hrel
                by_cases hd4 : d < 4
                · obtain ⟨p, q, e0, hr⟩ : ∃ p q e, getR f g d = (p, q, e) := ⟨_, _, _, rfl⟩
                  have HG := Lib.hid hr
                  have HR : Hid (decide (getR f g d = (p, q, e0)) = true) := Lib.hid (decide_eq_true hr)
                  clear hr
                  go_wp2_with (first | (go_at_call 17; (with_reducible refine (get_as h 1 at1 d HG.out).mono ?_); rintro e w4 ⟨rfl, j⟩; clear h; have j0 := (j.lost (pObj p)).lost (sObj q); simp only [pObj, sObj] at j0) | (go_at_call 13; (with_reducible refine (has_any j0 0 at0 d p q e0 HR.out).mono ?_); rintro e w5 ⟨rfl, j1⟩; clear j0))
                  go_roundw
                  case rel => exact ⟨d + 1, by go_num, by omega, j1⟩
                  case measure => simp [intOf]; omega
                · have hd4f : ¬ (d : Int) < 4 := by omega
                  go_wp2_with (first | (go_at_call 14; (with_reducible refine (awake_any h).mono ?_); rintro e w5 ⟨rfl, j1⟩))
                  exact bodyPost_ret (results_tmp rfl _ _ _) rfl ⟨rfl, j1.below⟩
          · go_wp2_with (fail)
            simp only [cast00]
            go_loopw [16] (fun i' wr => i' = .int .i64 0 ∧ Hp W wr [aSt tb b1 b2 f g, aSt sb a1 a2 f g, aOb (X + 1) (pObj ⟨y0, y1, y2, 0, y4, y5, y6, y7, y8, y9⟩), aOb X (sObj ⟨x0, x1, x2, x3, 0, x5, x6, x7, x8⟩)] []) (fun i' _ => 0)
            case atStart => exact ⟨rfl, H5.out⟩
            case round =>
              obtain ⟨rfl, h⟩ := hrel
              have H6 := Lib.hid h
              clear h
              go_wp2_with (fail)
              go_loopw [17] (fun d' wv => ∃ d : Nat, d' = .int .i64 d ∧ d ≤ 4 ∧ Hp W wv [aSt tb b1 b2 f g, aSt sb a1 a2 f g, aOb (X + 1) (pObj ⟨y0, y1, y2, 0, y4, y5, y6, y7, y8, y9⟩), aOb X (sObj ⟨x0, x1, x2, x3, 0, x5, x6, x7, x8⟩)] []) (fun d' _ => 4 - (intOf d').toNat)
              case atStart => exact ⟨0, rfl, by omega, H6.out⟩
              case round =>
                obtain ⟨d, rfl, hd, h⟩ := hrel
                by_cases hd4 : d < 4
                · obtain ⟨p, q, e0, hr⟩ : ∃ p q e, getR f g d = (p, q, e) := ⟨_, _, _, rfl⟩
                  have HG := Lib.hid hr
                  have HR : Hid (decide (getR f g d = (p, q, e0)) = true) := Lib.hid (decide_eq_true hr)
                  clear hr
                  go_wp2_with (first | (go_at_call 17; (with_reducible refine (get_as h 1 at1 d HG.out).mono ?_); rintro e w4 ⟨rfl, j⟩; clear h; have j0 := (j.lost (pObj p)).lost (sObj q); simp only [pObj, sObj] at j0) | (go_at_call 13; (with_reducible refine (has_any j0 0 at0 d p q e0 HR.out).mono ?_); rintro e w5 ⟨rfl, j1⟩; clear j0))
                  go_roundw
                  case rel => exact ⟨d + 1, by go_num, by omega, j1⟩
                  case measure => simp [intOf]; omega
                · have hd4f : ¬ (d : Int) < 4 := by omega
                  go_wp2_with (first | (go_at_call 14; (with_reducible refine (awake_any h).mono ?_); rintro e w5 ⟨rfl, j1⟩))
                  exact bodyPost_ret (results_tmp rfl _ _ _) rfl ⟨rfl, j1.below⟩
        · obtain ⟨rfl, hblt⟩ := HIN.out.at_ (by omega)
          obtain ⟨ti, ti1, ti2, ti3, ti4⟩ := q_info
          obtain ⟨Ls, hLs⟩ : ∃ l, theL C n = l := ⟨_, rfl⟩
          have HLEN : Hid (Ls.length = n) := Lib.hid (by rw [← hLs, theL_len])
          have hLat : ∀ c x, Ls[c]? = some x → PutOk x ∧ W.cell? ⟨b, o' + c * 3, none⟩ = some (.bool x.pb) ∧ W.cell? ⟨b, o' + c * 3 + 1, none⟩ = some (.int .i64 x.i) ∧ W.cell? ⟨b, o' + c * 3 + 2, none⟩ = some (.int .i64 x.o) := by
            intro c x hx
            have hcm : c < n := by rw [← HLEN.out]; exact (List.getElem?_eq_some_iff.1 hx).1
            rw [← hLs, theL_at C hcm] at hx
            obtain rfl := Option.some.inj hx
            have k0 := HIN.out.bool (show c < n by omega) 0 rfl
            obtain ⟨k1, q1⟩ := HIN.out.int (show c < n by omega) 1 (k := .i64) rfl
            obtain ⟨k2, q2⟩ := HIN.out.int (show c < n by omega) 2 (k := .i64) rfl
            simp only [List.length_cons, List.length_nil, Nat.zero_add, Nat.reduceAdd, Nat.add_zero] at k0 k1 k2
            have q1 := bounds_i64 q1
            have q2 := bounds_i64 q2
            exact ⟨⟨⟨by show _ ≤ zat C c 1; omega, by show zat C c 1 < _; omega⟩, ⟨by show _ ≤ zat C c 2; omega, by show zat C c 2 < _; omega⟩⟩, k0, k1, k2⟩
          have HBD : Hid (∀ c x, Ls[c]? = some x → PutOk x) := Lib.hid fun c x hx => (hLat c x hx).1
          have hnews := po_news (w := wr) (l := Ls) (b := b) (o := o') fun c x hx => by
            obtain ⟨-, k0, k1, k2⟩ := hLat c x hx
            exact ⟨(H5.out.below.cell (p := ⟨b, _, none⟩) hblt).trans k0, (H5.out.below.cell (p := ⟨b, _, none⟩) hblt).trans k1, (H5.out.below.cell (p := ⟨b, _, none⟩) hblt).trans k2⟩
          have HN := Lib.hid hnews
          have HL1 : Hid ((Ls.flatMap qcs).length = n * 3) := Lib.hid (by rw [qcs_len, HLEN.out])
          rw [hLs] at HA
          have H5n : Hid _ := Lib.hid (H5.out.sl_nil 35 3)
          clear hLat hnews H5 hLs
          go_upto_if 52 with (first | (at_builtin; refine wpList_append_hp rfl (.const (.slice none 0 0)) (.tmp 48) 22 rfl 35 ti (.agg #[.bool false, .int .i64 0, .int .i64 0]) 3 24 Try.underlying22 ti1 ti2 ti3 ti4 rfl (by decide) H5n.out 0 at0 rfl ⟨b, o', none⟩ n _ (Ls.flatMap qcs) rfl HL1.out HN.out (qcs_one Ls) (by unfold maxLen; omega) (by omega) ?_; intro v6 w6 h6; simp only [set0, Nat.zero_add, List.nil_append] at h6; obtain ⟨og, ocap, rfl, hoc, h7⟩ := h6.po_of2 0 HLEN.out at0 hm0; simp only [set0] at h7; clear h6; have H7 := Lib.hid h7; clear h7))
          go_cut [13, 14, 15] from 50 to 89 (fun s13 s14 s15 wx => ∃ Os : List PutD, Hid (Os.length = n) ∧ Hid (∀ (c : Nat) (x : PutD), Os[c]? = some x → PutOk x) ∧ Hid (run1 Os = (f, g)) ∧ Hp W wx [aPo og Os, aSt tb b1 b2 f0 g0, aSt sb a1 a2 f g, aOb (X + 1) (pObj ⟨y0, y1, y2, 0, y4, y5, y6, y7, y8, y9⟩), aOb X (sObj ⟨x0, x1, x2, x3, 0, x5, x6, x7, x8⟩)] [])
          case rest =>
            obtain ⟨Os, HLEN2, HBD2, HA2, hO⟩ := hcut
            have HO := Lib.hid hO
            clear hO H7
            go_wp2_with (fail)
            go_loopw [16] (fun i' wr => ∃ c : Nat, i' = .int .i64 c ∧ c ≤ n ∧ ∃ f2 g2, Hid (run1 ((Os).take c) = (f2, g2)) ∧ Hp W wr [aPo og (Os), aSt tb b1 b2 f2 g2, aSt sb a1 a2 f g, aOb (X + 1) (pObj ⟨y0, y1, y2, 0, y4, y5, y6, y7, y8, y9⟩), aOb X (sObj ⟨x0, x1, x2, x3, 0, x5, x6, x7, x8⟩)] []) (fun i' _ => n - (intOf i').toNat)
            case atStart => exact ⟨0, rfl, Nat.zero_le _, f0, g0, Lib.hid (by rw [List.take_zero, ← HF0.out, ← HG0.out]; rfl), HO.out⟩
            case round =>
              obtain ⟨c, rfl, hc, f2, g2, HR, h⟩ := hrel
              by_cases hlt : c < n
              · obtain ⟨⟨pb, i, o⟩, hx⟩ : ∃ x, (Os)[c]? = some x := ⟨_, List.getElem?_eq_getElem (by rw [HLEN2.out]; exact hlt)⟩
                have HB : Hid ((-9223372036854775808 ≤ i ∧ i < 9223372036854775808) ∧ (-9223372036854775808 ≤ o ∧ o < 9223372036854775808)) := Lib.hid (HBD2.out c _ hx)
                have KC : Hid (∀ {w' : World} {L' : List AObj}, Hp W w' (aPo og (Os) :: L') [] → w'.cell? ⟨og, c * 3, none⟩ = some (.bool pb) ∧ w'.cell? ⟨og, c * 3 + 1, none⟩ = some (.int .i64 i) ∧ w'.cell? ⟨og, c * 3 + 2, none⟩ = some (.int .i64 o)) :=
                  Lib.hid fun h => (h.po_cells 0 at0 hx).1
                obtain ⟨v0, v1, v2⟩ := KC.out h
                obtain ⟨f', hf'⟩ : ∃ f', stS pb i o f2 = f' := ⟨_, rfl⟩
                obtain ⟨g', hg'⟩ : ∃ g', stP pb i o g2 = g' := ⟨_, rfl⟩
                have HR2 : Hid (run1 ((Os).take (c + 1)) = (f', g')) := Lib.hid (by rw [run1_take hx, HR.out, ← hf', ← hg']; rfl)
                have hid2 := st1_idem ⟨pb, i, o⟩ (f2, g2)
                have HFG2 : Hid (stS pb i o f' = f' ∧ stP pb i o g' = g') := Lib.hid (by rw [← hf', ← hg']; exact ⟨congrArg Prod.fst hid2, congrArg Prod.snd hid2⟩)
                have HFG := Lib.hid (And.intro hf' hg')
                clear hf' hg' hx HR hid2
                go_wp2_with (first | (go_at_call 9; (with_reducible refine (lawputo_as h 1 at1 HB.out HFG.out).mono ?_); rintro e w2 ⟨rfl, j0⟩; simp only [set1] at j0; obtain ⟨v0, v1, v2⟩ := KC.out j0; clear h) | (go_at_call 9; (with_reducible refine (lawputo_as j0 1 at1 HB.out HFG2.out).mono ?_); rintro e w3 ⟨rfl, j1⟩; simp only [set1] at j1; obtain ⟨r0, r1, r2, r3, r4, r5, r6, r7, r8⟩ := s_cells (j1.ob 4 at4); clear j0) | (go_at_call 15; (with_reducible refine (puts_bad j1 1 at1 ⟨x0, x1, x2, x3, 0, x5, x6, x7, x8⟩ okS_fb).mono ?_); rintro e w4 ⟨rfl, j2⟩; obtain ⟨z0, z1, z2, z3, z4, z5, z6, z7, z8, z9⟩ := p_cells (j2.ob 3 at3); clear j1) | (go_at_call 16; (with_reducible refine (putp_bad j2 1 at1 ⟨y0, y1, y2, 0, y4, y5, y6, y7, y8, y9⟩ okP_refs).mono ?_); rintro e w5 ⟨rfl, j3⟩; clear j2))
                go_roundw
                case rel => exact ⟨c + 1, by go_num, by omega, f', g', HR2, j3⟩
                case measure => simp [intOf]; omega
              · obtain rfl : n = c := by omega
                have hfg : (f2, g2) = (f, g) := by rw [← HR.out, ← HA2.out, List.take_of_length_le (by rw [HLEN2.out]; exact Nat.le_refl _)]
                obtain ⟨rfl, rfl⟩ := Prod.mk.inj hfg
                have H6 := Lib.hid h
                clear h HR hfg hlt hc
                go_wp2_with (fail)
                go_loopw [17] (fun d' wv => ∃ d : Nat, d' = .int .i64 d ∧ d ≤ 4 ∧ Hp W wv [aPo og (Os), aSt tb b1 b2 f2 g2, aSt sb a1 a2 f2 g2, aOb (X + 1) (pObj ⟨y0, y1, y2, 0, y4, y5, y6, y7, y8, y9⟩), aOb X (sObj ⟨x0, x1, x2, x3, 0, x5, x6, x7, x8⟩)] []) (fun d' _ => 4 - (intOf d').toNat)
                case atStart => exact ⟨0, rfl, by omega, H6.out⟩
                case round =>
                  obtain ⟨d, rfl, hd, h⟩ := hrel
                  by_cases hd4 : d < 4
                  · obtain ⟨p, q, e0, hr⟩ : ∃ p q e, getR f2 g2 d = (p, q, e) := ⟨_, _, _, rfl⟩
                    have HG := Lib.hid hr
                    have HR : Hid (decide (getR f2 g2 d = (p, q, e0)) = true) := Lib.hid (decide_eq_true hr)
                    clear hr
                    go_wp2_with (first | (go_at_call 17; (with_reducible refine (get_as h 2 at2 d HG.out).mono ?_); rintro e w4 ⟨rfl, j⟩; clear h; have j0 := (j.lost (pObj p)).lost (sObj q); simp only [pObj, sObj] at j0) | (go_at_call 13; (with_reducible refine (has_any j0 1 at1 d p q e0 HR.out).mono ?_); rintro e w5 ⟨rfl, j1⟩; clear j0))
                    go_roundw
                    case rel => exact ⟨d + 1, by go_num, by omega, j1⟩
                    case measure => simp [intOf]; omega
                  · have hd4f : ¬ (d : Int) < 4 := by omega
                    go_wp2_with (first | (go_at_call 14; (with_reducible refine (awake_any h).mono ?_); rintro e w5 ⟨rfl, j1⟩))
                    exact bodyPost_ret (results_tmp rfl _ _ _) rfl ⟨rfl, j1.below⟩
          case first =>
          have hgt : ¬ (1 : Int) < (n : Int) ∨ (1 : Int) < (n : Int) := by omega
          rcases hgt with hgt | hgt
          · go_wp2_with (fail)
            go_meet
            exact ⟨Ls, HLEN, HBD, HA, H7.out⟩
          · obtain ⟨k, hk⟩ : ∃ k : Nat, at_ % ((n : Int) - 1) = (k : Int) := ⟨(at_ % ((n : Int) - 1)).toNat, by rw [Int.toNat_of_nonneg (Int.emod_nonneg _ (by omega))]⟩
            have hk1 : k + 1 < n := by
              have := Int.emod_lt_of_pos at_ (show (0 : Int) < (n : Int) - 1 by omega)
              omega
            have HK := Lib.hid hk
            clear hk
            obtain ⟨k', hkk⟩ : ∃ k', k' = k + 1 := ⟨_, rfl⟩
            have hk2 : k < n := by omega
            rw [← hkk] at hk1
            obtain ⟨⟨pa, ia, oa⟩, ha⟩ : ∃ x, Ls[k]? = some x := ⟨_, List.getElem?_eq_getElem (by rw [HLEN.out]; omega)⟩
            obtain ⟨⟨pc, ic, oc⟩, hb⟩ : ∃ x, Ls[k']? = some x := ⟨_, List.getElem?_eq_getElem (by rw [HLEN.out]; omega)⟩
            have KC : Hid (∀ {og : Nat} {w' : World} {L' : List AObj}, Hp W w' (aPo og Ls :: L') [] → (w'.cell? ⟨og, k * 3, none⟩ = some (.bool pa) ∧ w'.cell? ⟨og, k * 3 + 1, none⟩ = some (.int .i64 ia) ∧ w'.cell? ⟨og, k * 3 + 2, none⟩ = some (.int .i64 oa)) ∧ w'.cell? ⟨og, k' * 3, none⟩ = some (.bool pc) ∧ w'.cell? ⟨og, k' * 3 + 1, none⟩ = some (.int .i64 ic) ∧ w'.cell? ⟨og, k' * 3 + 2, none⟩ = some (.int .i64 oc)) :=
              Lib.hid fun h => ⟨(h.po_cells 0 at0 ha).1, (h.po_cells 0 at0 hb).1⟩
            have HAB := Lib.hid (And.intro ha hb)
            have hwk : IntKind.i64.wrap ((k : Int) + 1) = (k' : Int) := by rw [IntKind.wrap_i64]; omega
            have HKK := Lib.hid hkk
            clear hkk
            clear ha hb
            go_wp2_with (first | (go_at_call 10; (with_reducible refine (smod_as at_ ((n : Int) - 1) (by omega) (by omega) hat HK.out _).mono ?_); rintro e w7 ⟨rfl, rfl⟩))
            obtain ⟨⟨v0, v1, v2⟩, v3, v4, v5⟩ := KC.out H7.out
            have hog : og < w6.heap.size := lt_of_block (H7.out.po 0 at0).choose_spec.1
            have hog1 : og ≠ w6.heap.size := by omega
            have hog2 : og ≠ w6.heap.size + 1 := by omega
            go_region
            · have H9 : Hp W (((w6.alloc (qO pa ia oa)).alloc (qO pc ic oc)).drew) [aPo og Ls, aSt tb b1 b2 f0 g0, aSt sb a1 a2 f g, aOb (X + 1) (pObj ⟨y0, y1, y2, 0, y4, y5, y6, y7, y8, y9⟩), aOb X (sObj ⟨x0, x1, x2, x3, 0, x5, x6, x7, x8⟩)] [] := ((H7.out.lost _).lost _).drew
              have qa : (((w6.alloc (qO pa ia oa)).alloc (qO pc ic oc)).drew).heap[w6.heap.size]? = some (qO pa ia oa) := blk_old _ (blk0 w6 _)
              have qb : (((w6.alloc (qO pa ia oa)).alloc (qO pc ic oc)).drew).heap[w6.heap.size + 1]? = some (qO pc ic oc) := blk1 w6 _ _
              generalize (((w6.alloc (qO pa ia oa)).alloc (qO pc ic oc)).drew) = w9 at H9 qa qb ⊢
              generalize w6.heap.size + 1 = B at qb hog2 ⊢
              generalize w6.heap.size = A at qa hog1 ⊢
              clear v0 v1 v2 v3 v4 v5 hog H7
              obtain ⟨l0, l1, l2⟩ := qo_cells qa
              obtain ⟨n0, n1, n2⟩ := qo_cells qb
              have HIA := Lib.hid (HBD.out k _ HAB.out.1).1
              have HIC := Lib.hid (HBD.out k' _ HAB.out.2).1
              obtain ⟨ra, hra⟩ : ∃ r, ia % 4 = r := ⟨_, rfl⟩
              obtain ⟨rc, hrc⟩ : ∃ r, ic % 4 = r := ⟨_, rfl⟩
              have HRA := Lib.hid hra
              have HRC := Lib.hid hrc
              clear hra hrc
              have H10 := Lib.hid H9
              have QA := Lib.hid qa
              have QB := Lib.hid qb
              clear H9 qa qb
              go_wp2_with (fail)
              cases pa <;> cases pc
              · by_cases hrr : ra = rc
                · go_quiet (first | (go_at_call 10; with_reducible exact Calls.quiet_of_same (smodq_as ia 4 M14 M41 HIA.out HRA.out _)) | (go_at_call 10; with_reducible exact Calls.quiet_of_same (smodq_as ic 4 M14 M41 HIC.out HRC.out _)))
                  have H11 := Lib.hid (H10.out.drewN nq)
                  clear l0 l1 l2 n0 n1 n2
                  go_wp2_with (fail)
                  go_meet
                  exact ⟨Ls, HLEN, HBD, HA, H11.out⟩
                · go_quiet (first | (go_at_call 10; with_reducible exact Calls.quiet_of_same (smodq_as ia 4 M14 M41 HIA.out HRA.out _)) | (go_at_call 10; with_reducible exact Calls.quiet_of_same (smodq_as ic 4 M14 M41 HIC.out HRC.out _)))
                  go_wp2_with (fail)
                  have HCA := Lib.hid HAB.out.1
                  have HCB := Lib.hid HAB.out.2
                  have H11 : Hp W (w9.drewN nq) [aPo og Ls, aSt tb b1 b2 f0 g0, aSt sb a1 a2 f g, aOb (X + 1) (pObj ⟨y0, y1, y2, 0, y4, y5, y6, y7, y8, y9⟩), aOb X (sObj ⟨x0, x1, x2, x3, 0, x5, x6, x7, x8⟩)] [] := H10.out.drewN nq
                  have qa2 : (w9.drewN nq).heap[A]? = some (qO false ia oa) := by simpa using QA.out
                  have qb2 : (w9.drewN nq).heap[B]? = some (qO false ic oc) := by simpa using QB.out
                  generalize w9.drewN nq = w10 at H11 qa2 qb2 ⊢
                  clear l0 l1 l2 n0 n1 n2
                  obtain ⟨l0, l1, l2⟩ := qo_cells qa2
                  obtain ⟨n0, n1, n2⟩ := qo_cells qb2
                  obtain ⟨⟨v0, v1, v2⟩, v3, v4, v5⟩ := KC.out H11
                  have fz := (H11.po_cells 0 at0 HCA.out).2
                  have z0 := fz (k * 3)
                  have z1 := fz (k * 3 + 1)
                  have z2 := fz (k * 3 + 2)
                  have z3 := fz (k' * 3)
                  have z4 := fz (k' * 3 + 1)
                  have z5 := fz (k' * 3 + 2)
                  have hst := (H11.po_swap2 0 at0 HKK.out HCA.out HCB.out).drew
                  simp only [set0] at hst
                  obtain ⟨Os, hOs⟩ : ∃ l, swp Ls k ⟨false, ia, oa⟩ ⟨false, ic, oc⟩ = l := ⟨_, rfl⟩
                  rw [hOs] at hst
                  have HST := Lib.hid hst
                  have HLEN2 : Hid (Os.length = n) := Lib.hid (by rw [← hOs, swp_length, HLEN.out])
                  have HBD2 : Hid (∀ (c : Nat) (x : PutD), Os[c]? = some x → PutOk x) := Lib.hid (by
                    intro c x hx
                    rw [← hOs] at hx
                    obtain ⟨c', hc'⟩ := swp_mem HCA.out (HKK.out ▸ HCB.out) hx
                    exact HBD.out c' x hc')
                  have HA2 : Hid (run1 Os = (f, g)) := Lib.hid (by rw [← hOs, run1_swp HCA.out (HKK.out ▸ HCB.out) (Or.inr (by rw [HRA.out, HRC.out]; exact hrr))]; exact HA.out)
                  clear hst fz hOs qa2 qb2 H11
                  have hklt : k < k' := by have := HKK.out; omega
                  go_region
                  clear l0 l1 l2 n0 n1 n2 v0 v1 v2 v3 v4 v5 z0 z1 z2 z3 z4 z5
                  go_wp2_with (fail)
                  go_meet
                  exact ⟨Os, HLEN2, HBD2, HA2, HST.out⟩
              · go_quiet (fail)
                go_wp2_with (fail)
                have HCA := Lib.hid HAB.out.1
                have HCB := Lib.hid HAB.out.2
                have H11 : Hp W (w9.drewN nq) [aPo og Ls, aSt tb b1 b2 f0 g0, aSt sb a1 a2 f g, aOb (X + 1) (pObj ⟨y0, y1, y2, 0, y4, y5, y6, y7, y8, y9⟩), aOb X (sObj ⟨x0, x1, x2, x3, 0, x5, x6, x7, x8⟩)] [] := H10.out.drewN nq
                have qa2 : (w9.drewN nq).heap[A]? = some (qO false ia oa) := by simpa using QA.out
                have qb2 : (w9.drewN nq).heap[B]? = some (qO true ic oc) := by simpa using QB.out
                generalize w9.drewN nq = w10 at H11 qa2 qb2 ⊢
                clear l0 l1 l2 n0 n1 n2
                obtain ⟨l0, l1, l2⟩ := qo_cells qa2
                obtain ⟨n0, n1, n2⟩ := qo_cells qb2
                obtain ⟨⟨v0, v1, v2⟩, v3, v4, v5⟩ := KC.out H11
                have fz := (H11.po_cells 0 at0 HCA.out).2
                have z0 := fz (k * 3)
                have z1 := fz (k * 3 + 1)
                have z2 := fz (k * 3 + 2)
                have z3 := fz (k' * 3)
                have z4 := fz (k' * 3 + 1)
                have z5 := fz (k' * 3 + 2)
                have hst := (H11.po_swap2 0 at0 HKK.out HCA.out HCB.out).drew
                simp only [set0] at hst
                obtain ⟨Os, hOs⟩ : ∃ l, swp Ls k ⟨false, ia, oa⟩ ⟨true, ic, oc⟩ = l := ⟨_, rfl⟩
                rw [hOs] at hst
                have HST := Lib.hid hst
                have HLEN2 : Hid (Os.length = n) := Lib.hid (by rw [← hOs, swp_length, HLEN.out])
                have HBD2 : Hid (∀ (c : Nat) (x : PutD), Os[c]? = some x → PutOk x) := Lib.hid (by
                  intro c x hx
                  rw [← hOs] at hx
                  obtain ⟨c', hc'⟩ := swp_mem HCA.out (HKK.out ▸ HCB.out) hx
                  exact HBD.out c' x hc')
                have HA2 : Hid (run1 Os = (f, g)) := Lib.hid (by rw [← hOs, run1_swp HCA.out (HKK.out ▸ HCB.out) (Or.inl (by simp))]; exact HA.out)
                clear hst fz hOs qa2 qb2 H11
                have hklt : k < k' := by have := HKK.out; omega
                go_region
                clear l0 l1 l2 n0 n1 n2 v0 v1 v2 v3 v4 v5 z0 z1 z2 z3 z4 z5
                go_wp2_with (fail)
                go_meet
                exact ⟨Os, HLEN2, HBD2, HA2, HST.out⟩
              · go_quiet (fail)
                go_wp2_with (fail)
                have HCA := Lib.hid HAB.out.1
                have HCB := Lib.hid HAB.out.2
                have H11 : Hp W (w9.drewN nq) [aPo og Ls, aSt tb b1 b2 f0 g0, aSt sb a1 a2 f g, aOb (X + 1) (pObj ⟨y0, y1, y2, 0, y4, y5, y6, y7, y8, y9⟩), aOb X (sObj ⟨x0, x1, x2, x3, 0, x5, x6, x7, x8⟩)] [] := H10.out.drewN nq
                have qa2 : (w9.drewN nq).heap[A]? = some (qO true ia oa) := by simpa using QA.out
                have qb2 : (w9.drewN nq).heap[B]? = some (qO false ic oc) := by simpa using QB.out
                generalize w9.drewN nq = w10 at H11 qa2 qb2 ⊢
                clear l0 l1 l2 n0 n1 n2
                obtain ⟨l0, l1, l2⟩ := qo_cells qa2
                obtain ⟨n0, n1, n2⟩ := qo_cells qb2
                obtain ⟨⟨v0, v1, v2⟩, v3, v4, v5⟩ := KC.out H11
                have fz := (H11.po_cells 0 at0 HCA.out).2
                have z0 := fz (k * 3)
                have z1 := fz (k * 3 + 1)
                have z2 := fz (k * 3 + 2)
                have z3 := fz (k' * 3)
                have z4 := fz (k' * 3 + 1)
                have z5 := fz (k' * 3 + 2)
                have hst := (H11.po_swap2 0 at0 HKK.out HCA.out HCB.out).drew
                simp only [set0] at hst
                obtain ⟨Os, hOs⟩ : ∃ l, swp Ls k ⟨true, ia, oa⟩ ⟨false, ic, oc⟩ = l := ⟨_, rfl⟩
                rw [hOs] at hst
                have HST := Lib.hid hst
                have HLEN2 : Hid (Os.length = n) := Lib.hid (by rw [← hOs, swp_length, HLEN.out])
                have HBD2 : Hid (∀ (c : Nat) (x : PutD), Os[c]? = some x → PutOk x) := Lib.hid (by
                  intro c x hx
                  rw [← hOs] at hx
                  obtain ⟨c', hc'⟩ := swp_mem HCA.out (HKK.out ▸ HCB.out) hx
                  exact HBD.out c' x hc')
                have HA2 : Hid (run1 Os = (f, g)) := Lib.hid (by rw [← hOs, run1_swp HCA.out (HKK.out ▸ HCB.out) (Or.inl (by simp))]; exact HA.out)
                clear hst fz hOs qa2 qb2 H11
                have hklt : k < k' := by have := HKK.out; omega
                go_region
                clear l0 l1 l2 n0 n1 n2 v0 v1 v2 v3 v4 v5 z0 z1 z2 z3 z4 z5
                go_wp2_with (fail)
                go_meet
                exact ⟨Os, HLEN2, HBD2, HA2, HST.out⟩
              · by_cases hrr : ra = rc
                · go_quiet (first | (go_at_call 10; with_reducible exact Calls.quiet_of_same (smodq_as ia 4 M14 M41 HIA.out HRA.out _)) | (go_at_call 10; with_reducible exact Calls.quiet_of_same (smodq_as ic 4 M14 M41 HIC.out HRC.out _)))
                  have H11 := Lib.hid (H10.out.drewN nq)
                  clear l0 l1 l2 n0 n1 n2
                  go_wp2_with (fail)
                  go_meet
                  exact ⟨Ls, HLEN, HBD, HA, H11.out⟩
                · go_quiet (first | (go_at_call 10; with_reducible exact Calls.quiet_of_same (smodq_as ia 4 M14 M41 HIA.out HRA.out _)) | (go_at_call 10; with_reducible exact Calls.quiet_of_same (smodq_as ic 4 M14 M41 HIC.out HRC.out _)))
                  go_wp2_with (fail)
                  have HCA := Lib.hid HAB.out.1
                  have HCB := Lib.hid HAB.out.2
                  have H11 : Hp W (w9.drewN nq) [aPo og Ls, aSt tb b1 b2 f0 g0, aSt sb a1 a2 f g, aOb (X + 1) (pObj ⟨y0, y1, y2, 0, y4, y5, y6, y7, y8, y9⟩), aOb X (sObj ⟨x0, x1, x2, x3, 0, x5, x6, x7, x8⟩)] [] := H10.out.drewN nq
                  have qa2 : (w9.drewN nq).heap[A]? = some (qO true ia oa) := by simpa using QA.out
                  have qb2 : (w9.drewN nq).heap[B]? = some (qO true ic oc) := by simpa using QB.out
                  generalize w9.drewN nq = w10 at H11 qa2 qb2 ⊢
                  clear l0 l1 l2 n0 n1 n2
                  obtain ⟨l0, l1, l2⟩ := qo_cells qa2
                  obtain ⟨n0, n1, n2⟩ := qo_cells qb2
                  obtain ⟨⟨v0, v1, v2⟩, v3, v4, v5⟩ := KC.out H11
                  have fz := (H11.po_cells 0 at0 HCA.out).2
                  have z0 := fz (k * 3)
                  have z1 := fz (k * 3 + 1)
                  have z2 := fz (k * 3 + 2)
                  have z3 := fz (k' * 3)
                  have z4 := fz (k' * 3 + 1)
                  have z5 := fz (k' * 3 + 2)
                  have hst := (H11.po_swap2 0 at0 HKK.out HCA.out HCB.out).drew
                  simp only [set0] at hst
                  obtain ⟨Os, hOs⟩ : ∃ l, swp Ls k ⟨true, ia, oa⟩ ⟨true, ic, oc⟩ = l := ⟨_, rfl⟩
                  rw [hOs] at hst
                  have HST := Lib.hid hst
                  have HLEN2 : Hid (Os.length = n) := Lib.hid (by rw [← hOs, swp_length, HLEN.out])
                  have HBD2 : Hid (∀ (c : Nat) (x : PutD), Os[c]? = some x → PutOk x) := Lib.hid (by
                    intro c x hx
                    rw [← hOs] at hx
                    obtain ⟨c', hc'⟩ := swp_mem HCA.out (HKK.out ▸ HCB.out) hx
                    exact HBD.out c' x hc')
                  have HA2 : Hid (run1 Os = (f, g)) := Lib.hid (by rw [← hOs, run1_swp HCA.out (HKK.out ▸ HCB.out) (Or.inr (by rw [HRA.out, HRC.out]; exact hrr))]; exact HA.out)
                  clear hst fz hOs qa2 qb2 H11
                  have hklt : k < k' := by have := HKK.out; omega
                  go_region
                  clear l0 l1 l2 n0 n1 n2 v0 v1 v2 v3 v4 v5 z0 z1 z2 z3 z4 z5
                  go_wp2_with (fail)
                  go_meet
                  exact ⟨Os, HLEN2, HBD2, HA2, HST.out⟩
            · have H9 : Hp W (((w6.alloc (qO pc ic oc)).alloc (qO pa ia oa)).drew) [aPo og Ls, aSt tb b1 b2 f0 g0, aSt sb a1 a2 f g, aOb (X + 1) (pObj ⟨y0, y1, y2, 0, y4, y5, y6, y7, y8, y9⟩), aOb X (sObj ⟨x0, x1, x2, x3, 0, x5, x6, x7, x8⟩)] [] := ((H7.out.lost _).lost _).drew
              have qb : (((w6.alloc (qO pc ic oc)).alloc (qO pa ia oa)).drew).heap[w6.heap.size]? = some (qO pc ic oc) := blk_old _ (blk0 w6 _)
              have qa : (((w6.alloc (qO pc ic oc)).alloc (qO pa ia oa)).drew).heap[w6.heap.size + 1]? = some (qO pa ia oa) := blk1 w6 _ _
              generalize (((w6.alloc (qO pc ic oc)).alloc (qO pa ia oa)).drew) = w9 at H9 qa qb ⊢
              generalize w6.heap.size + 1 = A at qa hog2 ⊢
              generalize w6.heap.size = B at qb hog1 ⊢
              clear v0 v1 v2 v3 v4 v5 hog H7
              obtain ⟨l0, l1, l2⟩ := qo_cells qa
              obtain ⟨n0, n1, n2⟩ := qo_cells qb
              have HIA := Lib.hid (HBD.out k _ HAB.out.1).1
              have HIC := Lib.hid (HBD.out k' _ HAB.out.2).1
              obtain ⟨ra, hra⟩ : ∃ r, ia % 4 = r := ⟨_, rfl⟩
              obtain ⟨rc, hrc⟩ : ∃ r, ic % 4 = r := ⟨_, rfl⟩
              have HRA := Lib.hid hra
              have HRC := Lib.hid hrc
              clear hra hrc
              have H10 := Lib.hid H9
              have QA := Lib.hid qa
              have QB := Lib.hid qb
              clear H9 qa qb
              go_wp2_with (fail)
              cases pa <;> cases pc
              · by_cases hrr : ra = rc
                · go_quiet (first | (go_at_call 10; with_reducible exact Calls.quiet_of_same (smodq_as ia 4 M14 M41 HIA.out HRA.out _)) | (go_at_call 10; with_reducible exact Calls.quiet_of_same (smodq_as ic 4 M14 M41 HIC.out HRC.out _)))
                  have H11 := Lib.hid (H10.out.drewN nq)
                  clear l0 l1 l2 n0 n1 n2
                  go_wp2_with (fail)
                  go_meet
                  exact ⟨Ls, HLEN, HBD, HA, H11.out⟩
                · go_quiet (first | (go_at_call 10; with_reducible exact Calls.quiet_of_same (smodq_as ia 4 M14 M41 HIA.out HRA.out _)) | (go_at_call 10; with_reducible exact Calls.quiet_of_same (smodq_as ic 4 M14 M41 HIC.out HRC.out _)))
                  go_wp2_with (fail)
                  have HCA := Lib.hid HAB.out.1
                  have HCB := Lib.hid HAB.out.2
                  have H11 : Hp W (w9.drewN nq) [aPo og Ls, aSt tb b1 b2 f0 g0, aSt sb a1 a2 f g, aOb (X + 1) (pObj ⟨y0, y1, y2, 0, y4, y5, y6, y7, y8, y9⟩), aOb X (sObj ⟨x0, x1, x2, x3, 0, x5, x6, x7, x8⟩)] [] := H10.out.drewN nq
                  have qa2 : (w9.drewN nq).heap[A]? = some (qO false ia oa) := by simpa using QA.out
                  have qb2 : (w9.drewN nq).heap[B]? = some (qO false ic oc) := by simpa using QB.out
                  generalize w9.drewN nq = w10 at H11 qa2 qb2 ⊢
                  clear l0 l1 l2 n0 n1 n2
                  obtain ⟨l0, l1, l2⟩ := qo_cells qa2
                  obtain ⟨n0, n1, n2⟩ := qo_cells qb2
                  obtain ⟨⟨v0, v1, v2⟩, v3, v4, v5⟩ := KC.out H11
                  have fz := (H11.po_cells 0 at0 HCA.out).2
                  have z0 := fz (k * 3)
                  have z1 := fz (k * 3 + 1)
                  have z2 := fz (k * 3 + 2)
                  have z3 := fz (k' * 3)
                  have z4 := fz (k' * 3 + 1)
                  have z5 := fz (k' * 3 + 2)
                  have hst := (H11.po_swap2 0 at0 HKK.out HCA.out HCB.out).drew
                  simp only [set0] at hst
                  obtain ⟨Os, hOs⟩ : ∃ l, swp Ls k ⟨false, ia, oa⟩ ⟨false, ic, oc⟩ = l := ⟨_, rfl⟩
                  rw [hOs] at hst
                  have HST := Lib.hid hst
                  have HLEN2 : Hid (Os.length = n) := Lib.hid (by rw [← hOs, swp_length, HLEN.out])
                  have HBD2 : Hid (∀ (c : Nat) (x : PutD), Os[c]? = some x → PutOk x) := Lib.hid (by
                    intro c x hx
                    rw [← hOs] at hx
                    obtain ⟨c', hc'⟩ := swp_mem HCA.out (HKK.out ▸ HCB.out) hx
                    exact HBD.out c' x hc')
                  have HA2 : Hid (run1 Os = (f, g)) := Lib.hid (by rw [← hOs, run1_swp HCA.out (HKK.out ▸ HCB.out) (Or.inr (by rw [HRA.out, HRC.out]; exact hrr))]; exact HA.out)
                  clear hst fz hOs qa2 qb2 H11
                  have hklt : k < k' := by have := HKK.out; omega
                  go_region
                  clear l0 l1 l2 n0 n1 n2 v0 v1 v2 v3 v4 v5 z0 z1 z2 z3 z4 z5
                  go_wp2_with (fail)
                  go_meet
                  exact ⟨Os, HLEN2, HBD2, HA2, HST.out⟩
              · go_quiet (fail)
                go_wp2_with (fail)
                have HCA := Lib.hid HAB.out.1
                have HCB := Lib.hid HAB.out.2
                have H11 : Hp W (w9.drewN nq) [aPo og Ls, aSt tb b1 b2 f0 g0, aSt sb a1 a2 f g, aOb (X + 1) (pObj ⟨y0, y1, y2, 0, y4, y5, y6, y7, y8, y9⟩), aOb X (sObj ⟨x0, x1, x2, x3, 0, x5, x6, x7, x8⟩)] [] := H10.out.drewN nq
                have qa2 : (w9.drewN nq).heap[A]? = some (qO false ia oa) := by simpa using QA.out
                have qb2 : (w9.drewN nq).heap[B]? = some (qO true ic oc) := by simpa using QB.out
                generalize w9.drewN nq = w10 at H11 qa2 qb2 ⊢
                clear l0 l1 l2 n0 n1 n2
                obtain ⟨l0, l1, l2⟩ := qo_cells qa2
                obtain ⟨n0, n1, n2⟩ := qo_cells qb2
                obtain ⟨⟨v0, v1, v2⟩, v3, v4, v5⟩ := KC.out H11
                have fz := (H11.po_cells 0 at0 HCA.out).2
                have z0 := fz (k * 3)
                have z1 := fz (k * 3 + 1)
                have z2 := fz (k * 3 + 2)
                have z3 := fz (k' * 3)
                have z4 := fz (k' * 3 + 1)
                have z5 := fz (k' * 3 + 2)
                have hst := (H11.po_swap2 0 at0 HKK.out HCA.out HCB.out).drew
                simp only [set0] at hst
                obtain ⟨Os, hOs⟩ : ∃ l, swp Ls k ⟨false, ia, oa⟩ ⟨true, ic, oc⟩ = l := ⟨_, rfl⟩
                rw [hOs] at hst
                have HST := Lib.hid hst
                have HLEN2 : Hid (Os.length = n) := Lib.hid (by rw [← hOs, swp_length, HLEN.out])
                have HBD2 : Hid (∀ (c : Nat) (x : PutD), Os[c]? = some x → PutOk x) := Lib.hid (by
                  intro c x hx
                  rw [← hOs] at hx
                  obtain ⟨c', hc'⟩ := swp_mem HCA.out (HKK.out ▸ HCB.out) hx
                  exact HBD.out c' x hc')
                have HA2 : Hid (run1 Os = (f, g)) := Lib.hid (by rw [← hOs, run1_swp HCA.out (HKK.out ▸ HCB.out) (Or.inl (by simp))]; exact HA.out)
                clear hst fz hOs qa2 qb2 H11
                have hklt : k < k' := by have := HKK.out; omega
                go_region
                clear l0 l1 l2 n0 n1 n2 v0 v1 v2 v3 v4 v5 z0 z1 z2 z3 z4 z5
                go_wp2_with (fail)
                go_meet
                exact ⟨Os, HLEN2, HBD2, HA2, HST.out⟩
              · go_quiet (fail)
                go_wp2_with (fail)
                have HCA := Lib.hid HAB.out.1
                have HCB := Lib.hid HAB.out.2
                have H11 : Hp W (w9.drewN nq) [aPo og Ls, aSt tb b1 b2 f0 g0, aSt sb a1 a2 f g, aOb (X + 1) (pObj ⟨y0, y1, y2, 0, y4, y5, y6, y7, y8, y9⟩), aOb X (sObj ⟨x0, x1, x2, x3, 0, x5, x6, x7, x8⟩)] [] := H10.out.drewN nq
                have qa2 : (w9.drewN nq).heap[A]? = some (qO true ia oa) := by simpa using QA.out
                have qb2 : (w9.drewN nq).heap[B]? = some (qO false ic oc) := by simpa using QB.out
                generalize w9.drewN nq = w10 at H11 qa2 qb2 ⊢
                clear l0 l1 l2 n0 n1 n2
                obtain ⟨l0, l1, l2⟩ := qo_cells qa2
                obtain ⟨n0, n1, n2⟩ := qo_cells qb2
                obtain ⟨⟨v0, v1, v2⟩, v3, v4, v5⟩ := KC.out H11
                have fz := (H11.po_cells 0 at0 HCA.out).2
                have z0 := fz (k * 3)
                have z1 := fz (k * 3 + 1)
                have z2 := fz (k * 3 + 2)
                have z3 := fz (k' * 3)
                have z4 := fz (k' * 3 + 1)
                have z5 := fz (k' * 3 + 2)
                have hst := (H11.po_swap2 0 at0 HKK.out HCA.out HCB.out).drew
                simp only [set0] at hst
                obtain ⟨Os, hOs⟩ : ∃ l, swp Ls k ⟨true, ia, oa⟩ ⟨false, ic, oc⟩ = l := ⟨_, rfl⟩
                rw [hOs] at hst
                have HST := Lib.hid hst
                have HLEN2 : Hid (Os.length = n) := Lib.hid (by rw [← hOs, swp_length, HLEN.out])
                have HBD2 : Hid (∀ (c : Nat) (x : PutD), Os[c]? = some x → PutOk x) := Lib.hid (by
                  intro c x hx
                  rw [← hOs] at hx
                  obtain ⟨c', hc'⟩ := swp_mem HCA.out (HKK.out ▸ HCB.out) hx
                  exact HBD.out c' x hc')
                have HA2 : Hid (run1 Os = (f, g)) := Lib.hid (by rw [← hOs, run1_swp HCA.out (HKK.out ▸ HCB.out) (Or.inl (by simp))]; exact HA.out)
                clear hst fz hOs qa2 qb2 H11
                have hklt : k < k' := by have := HKK.out; omega
                go_region
                clear l0 l1 l2 n0 n1 n2 v0 v1 v2 v3 v4 v5 z0 z1 z2 z3 z4 z5
                go_wp2_with (fail)
                go_meet
                exact ⟨Os, HLEN2, HBD2, HA2, HST.out⟩
              · by_cases hrr : ra = rc
                · go_quiet (first | (go_at_call 10; with_reducible exact Calls.quiet_of_same (smodq_as ia 4 M14 M41 HIA.out HRA.out _)) | (go_at_call 10; with_reducible exact Calls.quiet_of_same (smodq_as ic 4 M14 M41 HIC.out HRC.out _)))
                  have H11 := Lib.hid (H10.out.drewN nq)
                  clear l0 l1 l2 n0 n1 n2
                  go_wp2_with (fail)
                  go_meet
                  exact ⟨Ls, HLEN, HBD, HA, H11.out⟩
                · go_quiet (first | (go_at_call 10; with_reducible exact Calls.quiet_of_same (smodq_as ia 4 M14 M41 HIA.out HRA.out _)) | (go_at_call 10; with_reducible exact Calls.quiet_of_same (smodq_as ic 4 M14 M41 HIC.out HRC.out _)))
                  go_wp2_with (fail)
                  have HCA := Lib.hid HAB.out.1
                  have HCB := Lib.hid HAB.out.2
                  have H11 : Hp W (w9.drewN nq) [aPo og Ls, aSt tb b1 b2 f0 g0, aSt sb a1 a2 f g, aOb (X + 1) (pObj ⟨y0, y1, y2, 0, y4, y5, y6, y7, y8, y9⟩), aOb X (sObj ⟨x0, x1, x2, x3, 0, x5, x6, x7, x8⟩)] [] := H10.out.drewN nq
                  have qa2 : (w9.drewN nq).heap[A]? = some (qO true ia oa) := by simpa using QA.out
                  have qb2 : (w9.drewN nq).heap[B]? = some (qO true ic oc) := by simpa using QB.out
                  generalize w9.drewN nq = w10 at H11 qa2 qb2 ⊢
                  clear l0 l1 l2 n0 n1 n2
                  obtain ⟨l0, l1, l2⟩ := qo_cells qa2
                  obtain ⟨n0, n1, n2⟩ := qo_cells qb2
                  obtain ⟨⟨v0, v1, v2⟩, v3, v4, v5⟩ := KC.out H11
                  have fz := (H11.po_cells 0 at0 HCA.out).2
                  have z0 := fz (k * 3)
                  have z1 := fz (k * 3 + 1)
                  have z2 := fz (k * 3 + 2)
                  have z3 := fz (k' * 3)
                  have z4 := fz (k' * 3 + 1)
                  have z5 := fz (k' * 3 + 2)
                  have hst := (H11.po_swap2 0 at0 HKK.out HCA.out HCB.out).drew
                  simp only [set0] at hst
                  obtain ⟨Os, hOs⟩ : ∃ l, swp Ls k ⟨true, ia, oa⟩ ⟨true, ic, oc⟩ = l := ⟨_, rfl⟩
                  rw [hOs] at hst
                  have HST := Lib.hid hst
                  have HLEN2 : Hid (Os.length = n) := Lib.hid (by rw [← hOs, swp_length, HLEN.out])
                  have HBD2 : Hid (∀ (c : Nat) (x : PutD), Os[c]? = some x → PutOk x) := Lib.hid (by
                    intro c x hx
                    rw [← hOs] at hx
                    obtain ⟨c', hc'⟩ := swp_mem HCA.out (HKK.out ▸ HCB.out) hx
                    exact HBD.out c' x hc')
                  have HA2 : Hid (run1 Os = (f, g)) := Lib.hid (by rw [← hOs, run1_swp HCA.out (HKK.out ▸ HCB.out) (Or.inr (by rw [HRA.out, HRC.out]; exact hrr))]; exact HA.out)
                  clear hst fz hOs qa2 qb2 H11
                  have hklt : k < k' := by have := HKK.out; omega
                  go_region
                  clear l0 l1 l2 n0 n1 n2 v0 v1 v2 v3 v4 v5 z0 z1 z2 z3 z4 z5
                  go_wp2_with (fail)
                  go_meet
                  exact ⟨Os, HLEN2, HBD2, HA2, HST.out⟩
  · obtain ⟨rfl, hblt⟩ := HIN.out.at_ (by omega)
    clear hblt
    have h30n : ¬ (n : Int) < 30 := by omega
    have h30c : 30 ≤ cap := by omega
    go_enter Try.func4, Try.ntmps4
    go_wp2_with (first | (go_at_call 8; (with_reducible refine (setsnew_as hbad HF0.out HG0.out).mono ?_); rintro e w1 ⟨sb, a1, a2, rfl, h1⟩; clear hbad) | (go_at_call 8; (with_reducible refine (setsnew_as h1 HF0.out HG0.out).mono ?_); rintro e w1 ⟨tb, b1, b2, rfl, h2⟩; clear h1; have qs := h2.ob 3 at3; have qp := h2.ob 2 at2; obtain ⟨_, _, _, _, c4, _, _, _, _⟩ := s_cells qs; obtain ⟨_, _, _, d3, _, _, _, _, _, _⟩ := p_cells qp; have fs := s_free qs; have fp := p_free qp))
    obtain ⟨m, hm⟩ : ∃ m : Nat, 30 = m := ⟨_, rfl⟩
    rw [hm]
    have hmn : m ≤ n := by omega
    have hm30 : m ≤ 30 := by omega
    have hm1 : 0 < m := by omega
    clear hm h30n h30c
    have h3 := h2.ob_turn 3 at3 ((OneBlk.refl _ _).set 4 (.int .i64 0)) (setCell_blk qs 4 (.int .i64 0))
    simp only [set3] at h3
    have h4 := h3.ob_turn 2 at2 ((OneBlk.refl _ _).set 3 (.int .i64 0)) (setCell_blk (h3.ob 2 at2) 3 (.int .i64 0))
    simp only [set2] at h4
    obtain ⟨X, hX⟩ : ∃ X, W.heap.size = X := ⟨_, rfl⟩
    rw [hX] at h4 ⊢
    have H4 : Hid (Hp W _ [aSt tb b1 b2 f0 g0, aSt sb a1 a2 f0 g0, aOb (X + 1) (pObj ⟨y0, y1, y2, 0, y4, y5, y6, y7, y8, y9⟩), aOb X (sObj ⟨x0, x1, x2, x3, 0, x5, x6, x7, x8⟩)] []) := Lib.hid h4
    clear h2 h3 h4 qs qp fs fp c4 d3
    go_loopw [11] (fun i' wr => ∃ c : Nat, i' = .int .i64 c ∧ c ≤ m ∧ ∃ f g, Hid (run1 ((theL C m).take c) = (f, g)) ∧ Hp W wr [aSt tb b1 b2 f0 g0, aSt sb a1 a2 f g, aOb (X + 1) (pObj ⟨y0, y1, y2, 0, y4, y5, y6, y7, y8, y9⟩), aOb X (sObj ⟨x0, x1, x2, x3, 0, x5, x6, x7, x8⟩)] []) (fun i' _ => m - (intOf i').toNat)
    case atStart => exact ⟨0, rfl, Nat.zero_le _, f0, g0, Lib.hid (by rw [List.take_zero, ← HF0.out, ← HG0.out]; rfl), H4.out⟩
    case round =>
      obtain ⟨c, rfl, hc, f, g, HR, h⟩ := hrel
      by_cases hlt : c < m
      · obtain ⟨-, hblt⟩ := HIN.out.at_ (by omega)
        have k0 := HIN.out.bool (show c < n by omega) 0 rfl
        obtain ⟨k1, q1⟩ := HIN.out.int (show c < n by omega) 1 (k := .i64) rfl
        obtain ⟨k2, q2⟩ := HIN.out.int (show c < n by omega) 2 (k := .i64) rfl
        simp only [List.length_cons, List.length_nil, Nat.zero_add, Nat.reduceAdd, Nat.add_zero] at k0 k1 k2
        have q1 := bounds_i64 q1
        have q2 := bounds_i64 q2
        have hx := theL_at C hlt
        generalize bat C c 0 = pb at *
        generalize zat C c 1 = i at *
        generalize zat C c 2 = o at *
        have KC : Hid (∀ {w' : World} {L' : List AObj}, Hp W w' L' [] → w'.cell? ⟨b, o' + c * 3, none⟩ = some (.bool pb) ∧ w'.cell? ⟨b, o' + c * 3 + 1, none⟩ = some (.int .i64 i) ∧ w'.cell? ⟨b, o' + c * 3 + 2, none⟩ = some (.int .i64 o)) :=
          Lib.hid fun h => ⟨(h.below.cell (p := ⟨b, _, none⟩) hblt).trans k0, (h.below.cell (p := ⟨b, _, none⟩) hblt).trans k1, (h.below.cell (p := ⟨b, _, none⟩) hblt).trans k2⟩
        obtain ⟨v0, v1, v2⟩ := KC.out h
        have HB : Hid ((-9223372036854775808 ≤ i ∧ i < 9223372036854775808) ∧ (-9223372036854775808 ≤ o ∧ o < 9223372036854775808)) := Lib.hid ⟨by omega, by omega⟩
        obtain ⟨f', hf'⟩ : ∃ f', stS pb i o f = f' := ⟨_, rfl⟩
        obtain ⟨g', hg'⟩ : ∃ g', stP pb i o g = g' := ⟨_, rfl⟩
        have HR2 : Hid (run1 ((theL C m).take (c + 1)) = (f', g')) := Lib.hid (by rw [run1_take hx, HR.out, ← hf', ← hg']; rfl)
        have HFG := Lib.hid (And.intro hf' hg')
        clear hf' hg' k0 k1 k2 q1 q2 hx HR
        go_wp2_with (first | (go_at_call 9; (with_reducible refine (lawputo_as h 1 at1 HB.out HFG.out).mono ?_); rintro e w2 ⟨rfl, j0⟩; simp only [set1] at j0; clear h))
        go_roundw
        case rel => exact ⟨c + 1, by go_num, by omega, f', g', HR2, j0⟩
        case measure => simp [intOf]; omega
      · obtain rfl : m = c := by omega
        have HA : Hid (run1 (theL C m) = (f, g)) := Lib.hid (by rw [← HR.out, List.take_of_length_le (by rw [theL_len]; omega)])
        have H5 := Lib.hid h
        clear h HR hlt hc
        rcases Nat.eq_zero_or_pos m with hm0 | hm0
        · omega
        · obtain ⟨-, hblt⟩ := HIN.out.at_ (by omega)
          obtain ⟨ti, ti1, ti2, ti3, ti4⟩ := q_info
          obtain ⟨Ls, hLs⟩ : ∃ l, theL C m = l := ⟨_, rfl⟩
          have HLEN : Hid (Ls.length = m) := Lib.hid (by rw [← hLs, theL_len])
          have hLat : ∀ c x, Ls[c]? = some x → PutOk x ∧ W.cell? ⟨b, o' + c * 3, none⟩ = some (.bool x.pb) ∧ W.cell? ⟨b, o' + c * 3 + 1, none⟩ = some (.int .i64 x.i) ∧ W.cell? ⟨b, o' + c * 3 + 2, none⟩ = some (.int .i64 x.o) := by
            intro c x hx
            have hcm : c < m := by rw [← HLEN.out]; exact (List.getElem?_eq_some_iff.1 hx).1
            rw [← hLs, theL_at C hcm] at hx
            obtain rfl := Option.some.inj hx
            have k0 := HIN.out.bool (show c < n by omega) 0 rfl
            obtain ⟨k1, q1⟩ := HIN.out.int (show c < n by omega) 1 (k := .i64) rfl
            obtain ⟨k2, q2⟩ := HIN.out.int (show c < n by omega) 2 (k := .i64) rfl
            simp only [List.length_cons, List.length_nil, Nat.zero_add, Nat.reduceAdd, Nat.add_zero] at k0 k1 k2
            have q1 := bounds_i64 q1
            have q2 := bounds_i64 q2
            exact ⟨⟨⟨by show _ ≤ zat C c 1; omega, by show zat C c 1 < _; omega⟩, ⟨by show _ ≤ zat C c 2; omega, by show zat C c 2 < _; omega⟩⟩, k0, k1, k2⟩
          have HBD : Hid (∀ c x, Ls[c]? = some x → PutOk x) := Lib.hid fun c x hx => (hLat c x hx).1
          have hnews := po_news (w := wr) (l := Ls) (b := b) (o := o') fun c x hx => by
            obtain ⟨-, k0, k1, k2⟩ := hLat c x hx
            exact ⟨(H5.out.below.cell (p := ⟨b, _, none⟩) hblt).trans k0, (H5.out.below.cell (p := ⟨b, _, none⟩) hblt).trans k1, (H5.out.below.cell (p := ⟨b, _, none⟩) hblt).trans k2⟩
          have HN := Lib.hid hnews
          have HL1 : Hid ((Ls.flatMap qcs).length = m * 3) := Lib.hid (by rw [qcs_len, HLEN.out])
          rw [hLs] at HA
          have H5n : Hid _ := Lib.hid (H5.out.sl_nil 35 3)
          clear hLat hnews H5 hLs
          go_upto_if 52 with (first | (at_builtin; refine wpList_append_hp rfl (.const (.slice none 0 0)) (.tmp 48) 22 rfl 35 ti (.agg #[.bool false, .int .i64 0, .int .i64 0]) 3 24 Try.underlying22 ti1 ti2 ti3 ti4 rfl (by decide) H5n.out 0 at0 rfl ⟨b, o', none⟩ m _ (Ls.flatMap qcs) rfl HL1.out HN.out (qcs_one Ls) (by unfold maxLen; omega) (by omega) ?_; intro v6 w6 h6; simp only [set0, Nat.zero_add, List.nil_append] at h6; obtain ⟨og, ocap, rfl, hoc, h7⟩ := h6.po_of2 0 HLEN.out at0 hm0; simp only [set0] at h7; clear h6; have H7 := Lib.hid h7; clear h7))
          go_cut [13, 14, 15] from 50 to 89 (fun s13 s14 s15 wx => ∃ Os : List PutD, Hid (Os.length = m) ∧ Hid (∀ (c : Nat) (x : PutD), Os[c]? = some x → PutOk x) ∧ Hid (run1 Os = (f, g)) ∧ Hp W wx [aPo og Os, aSt tb b1 b2 f0 g0, aSt sb a1 a2 f g, aOb (X + 1) (pObj ⟨y0, y1, y2, 0, y4, y5, y6, y7, y8, y9⟩), aOb X (sObj ⟨x0, x1, x2, x3, 0, x5, x6, x7, x8⟩)] [])
          case rest =>
            obtain ⟨Os, HLEN2, HBD2, HA2, hO⟩ := hcut
            have HO := Lib.hid hO
            clear hO H7
            go_wp2_with (fail)
            go_loopw [16] (fun i' wr => ∃ c : Nat, i' = .int .i64 c ∧ c ≤ m ∧ ∃ f2 g2, Hid (run1 ((Os).take c) = (f2, g2)) ∧ Hp W wr [aPo og (Os), aSt tb b1 b2 f2 g2, aSt sb a1 a2 f g, aOb (X + 1) (pObj ⟨y0, y1, y2, 0, y4, y5, y6, y7, y8, y9⟩), aOb X (sObj ⟨x0, x1, x2, x3, 0, x5, x6, x7, x8⟩)] []) (fun i' _ => m - (intOf i').toNat)
            case atStart => exact ⟨0, rfl, Nat.zero_le _, f0, g0, Lib.hid (by rw [List.take_zero, ← HF0.out, ← HG0.out]; rfl), HO.out⟩
            case round =>
              obtain ⟨c, rfl, hc, f2, g2, HR, h⟩ := hrel
              by_cases hlt : c < m
              · obtain ⟨⟨pb, i, o⟩, hx⟩ : ∃ x, (Os)[c]? = some x := ⟨_, List.getElem?_eq_getElem (by rw [HLEN2.out]; exact hlt)⟩
                have HB : Hid ((-9223372036854775808 ≤ i ∧ i < 9223372036854775808) ∧ (-9223372036854775808 ≤ o ∧ o < 9223372036854775808)) := Lib.hid (HBD2.out c _ hx)
                have KC : Hid (∀ {w' : World} {L' : List AObj}, Hp W w' (aPo og (Os) :: L') [] → w'.cell? ⟨og, c * 3, none⟩ = some (.bool pb) ∧ w'.cell? ⟨og, c * 3 + 1, none⟩ = some (.int .i64 i) ∧ w'.cell? ⟨og, c * 3 + 2, none⟩ = some (.int .i64 o)) :=
                  Lib.hid fun h => (h.po_cells 0 at0 hx).1
                obtain ⟨v0, v1, v2⟩ := KC.out h
                obtain ⟨f', hf'⟩ : ∃ f', stS pb i o f2 = f' := ⟨_, rfl⟩
                obtain ⟨g', hg'⟩ : ∃ g', stP pb i o g2 = g' := ⟨_, rfl⟩
                have HR2 : Hid (run1 ((Os).take (c + 1)) = (f', g')) := Lib.hid (by rw [run1_take hx, HR.out, ← hf', ← hg']; rfl)
                have hid2 := st1_idem ⟨pb, i, o⟩ (f2, g2)
                have HFG2 : Hid (stS pb i o f' = f' ∧ stP pb i o g' = g') := Lib.hid (by rw [← hf', ← hg']; exact ⟨congrArg Prod.fst hid2, congrArg Prod.snd hid2⟩)
                have HFG := Lib.hid (And.intro hf' hg')
                clear hf' hg' hx HR hid2
                go_wp2_with (first | (go_at_call 9; (with_reducible refine (lawputo_as h 1 at1 HB.out HFG.out).mono ?_); rintro e w2 ⟨rfl, j0⟩; simp only [set1] at j0; obtain ⟨v0, v1, v2⟩ := KC.out j0; clear h) | (go_at_call 9; (with_reducible refine (lawputo_as j0 1 at1 HB.out HFG2.out).mono ?_); rintro e w3 ⟨rfl, j1⟩; simp only [set1] at j1; obtain ⟨r0, r1, r2, r3, r4, r5, r6, r7, r8⟩ := s_cells (j1.ob 4 at4); clear j0) | (go_at_call 15; (with_reducible refine (puts_bad j1 1 at1 ⟨x0, x1, x2, x3, 0, x5, x6, x7, x8⟩ okS_fb).mono ?_); rintro e w4 ⟨rfl, j2⟩; obtain ⟨z0, z1, z2, z3, z4, z5, z6, z7, z8, z9⟩ := p_cells (j2.ob 3 at3); clear j1) | (go_at_call 16; (with_reducible refine (putp_bad j2 1 at1 ⟨y0, y1, y2, 0, y4, y5, y6, y7, y8, y9⟩ okP_refs).mono ?_); rintro e w5 ⟨rfl, j3⟩; clear j2))
                go_roundw
                case rel => exact ⟨c + 1, by go_num, by omega, f', g', HR2, j3⟩
                case measure => simp [intOf]; omega
              · obtain rfl : m = c := by omega
                have hfg : (f2, g2) = (f, g) := by rw [← HR.out, ← HA2.out, List.take_of_length_le (by rw [HLEN2.out]; exact Nat.le_refl _)]
                obtain ⟨rfl, rfl⟩ := Prod.mk.inj hfg
                have H6 := Lib.hid h
                clear h HR hfg hlt hc
                go_wp2_with (fail)
                go_loopw [17] (fun d' wv => ∃ d : Nat, d' = .int .i64 d ∧ d ≤ 4 ∧ Hp W wv [aPo og (Os), aSt tb b1 b2 f2 g2, aSt sb a1 a2 f2 g2, aOb (X + 1) (pObj ⟨y0, y1, y2, 0, y4, y5, y6, y7, y8, y9⟩), aOb X (sObj ⟨x0, x1, x2, x3, 0, x5, x6, x7, x8⟩)] []) (fun d' _ => 4 - (intOf d').toNat)
                case atStart => exact ⟨0, rfl, by omega, H6.out⟩
                case round =>
                  obtain ⟨d, rfl, hd, h⟩ := hrel
                  by_cases hd4 : d < 4
                  · obtain ⟨p, q, e0, hr⟩ : ∃ p q e, getR f2 g2 d = (p, q, e) := ⟨_, _, _, rfl⟩
                    have HG := Lib.hid hr
                    have HR : Hid (decide (getR f2 g2 d = (p, q, e0)) = true) := Lib.hid (decide_eq_true hr)
                    clear hr
                    go_wp2_with (first | (go_at_call 17; (with_reducible refine (get_as h 2 at2 d HG.out).mono ?_); rintro e w4 ⟨rfl, j⟩; clear h; have j0 := (j.lost (pObj p)).lost (sObj q); simp only [pObj, sObj] at j0) | (go_at_call 13; (with_reducible refine (has_any j0 1 at1 d p q e0 HR.out).mono ?_); rintro e w5 ⟨rfl, j1⟩; clear j0))
                    go_roundw
                    case rel => exact ⟨d + 1, by go_num, by omega, j1⟩
                    case measure => simp [intOf]; omega
                  · have hd4f : ¬ (d : Int) < 4 := by omega
                    go_wp2_with (first | (go_at_call 14; (with_reducible refine (awake_any h).mono ?_); rintro e w5 ⟨rfl, j1⟩))
                    exact bodyPost_ret (results_tmp rfl _ _ _) rfl ⟨rfl, j1.below⟩
          case first =>
          have hgt : ¬ (1 : Int) < (m : Int) ∨ (1 : Int) < (m : Int) := by omega
          rcases hgt with hgt | hgt
          · go_wp2_with (fail)
            go_meet
            exact ⟨Ls, HLEN, HBD, HA, H7.out⟩
          · obtain ⟨k, hk⟩ : ∃ k : Nat, at_ % ((m : Int) - 1) = (k : Int) := ⟨(at_ % ((m : Int) - 1)).toNat, by rw [Int.toNat_of_nonneg (Int.emod_nonneg _ (by omega))]⟩
            have hk1 : k + 1 < m := by
              have := Int.emod_lt_of_pos at_ (show (0 : Int) < (m : Int) - 1 by omega)
              omega
            have HK := Lib.hid hk
            clear hk
            obtain ⟨k', hkk⟩ : ∃ k', k' = k + 1 := ⟨_, rfl⟩
            have hk2 : k < m := by omega
            rw [← hkk] at hk1
            obtain ⟨⟨pa, ia, oa⟩, ha⟩ : ∃ x, Ls[k]? = some x := ⟨_, List.getElem?_eq_getElem (by rw [HLEN.out]; omega)⟩
            obtain ⟨⟨pc, ic, oc⟩, hb⟩ : ∃ x, Ls[k']? = some x := ⟨_, List.getElem?_eq_getElem (by rw [HLEN.out]; omega)⟩
            have KC : Hid (∀ {og : Nat} {w' : World} {L' : List AObj}, Hp W w' (aPo og Ls :: L') [] → (w'.cell? ⟨og, k * 3, none⟩ = some (.bool pa) ∧ w'.cell? ⟨og, k * 3 + 1, none⟩ = some (.int .i64 ia) ∧ w'.cell? ⟨og, k * 3 + 2, none⟩ = some (.int .i64 oa)) ∧ w'.cell? ⟨og, k' * 3, none⟩ = some (.bool pc) ∧ w'.cell? ⟨og, k' * 3 + 1, none⟩ = some (.int .i64 ic) ∧ w'.cell? ⟨og, k' * 3 + 2, none⟩ = some (.int .i64 oc)) :=
              Lib.hid fun h => ⟨(h.po_cells 0 at0 ha).1, (h.po_cells 0 at0 hb).1⟩
            have HAB := Lib.hid (And.intro ha hb)
            have hwk : IntKind.i64.wrap ((k : Int) + 1) = (k' : Int) := by rw [IntKind.wrap_i64]; omega
            have HKK := Lib.hid hkk
            clear hkk
            clear ha hb
            go_wp2_with (first | (go_at_call 10; (with_reducible refine (smod_as at_ ((m : Int) - 1) (by omega) (by omega) hat HK.out _).mono ?_); rintro e w7 ⟨rfl, rfl⟩))
            obtain ⟨⟨v0, v1, v2⟩, v3, v4, v5⟩ := KC.out H7.out
            have hog : og < w6.heap.size := lt_of_block (H7.out.po 0 at0).choose_spec.1
            have hog1 : og ≠ w6.heap.size := by omega
            have hog2 : og ≠ w6.heap.size + 1 := by omega
            go_region
            · have H9 : Hp W (((w6.alloc (qO pa ia oa)).alloc (qO pc ic oc)).drew) [aPo og Ls, aSt tb b1 b2 f0 g0, aSt sb a1 a2 f g, aOb (X + 1) (pObj ⟨y0, y1, y2, 0, y4, y5, y6, y7, y8, y9⟩), aOb X (sObj ⟨x0, x1, x2, x3, 0, x5, x6, x7, x8⟩)] [] := ((H7.out.lost _).lost _).drew
              have qa : (((w6.alloc (qO pa ia oa)).alloc (qO pc ic oc)).drew).heap[w6.heap.size]? = some (qO pa ia oa) := blk_old _ (blk0 w6 _)
              have qb : (((w6.alloc (qO pa ia oa)).alloc (qO pc ic oc)).drew).heap[w6.heap.size + 1]? = some (qO pc ic oc) := blk1 w6 _ _
              generalize (((w6.alloc (qO pa ia oa)).alloc (qO pc ic oc)).drew) = w9 at H9 qa qb ⊢
              generalize w6.heap.size + 1 = B at qb hog2 ⊢
              generalize w6.heap.size = A at qa hog1 ⊢
              clear v0 v1 v2 v3 v4 v5 hog H7
              obtain ⟨l0, l1, l2⟩ := qo_cells qa
              obtain ⟨n0, n1, n2⟩ := qo_cells qb
              have HIA := Lib.hid (HBD.out k _ HAB.out.1).1
              have HIC := Lib.hid (HBD.out k' _ HAB.out.2).1
              obtain ⟨ra, hra⟩ : ∃ r, ia % 4 = r := ⟨_, rfl⟩
              obtain ⟨rc, hrc⟩ : ∃ r, ic % 4 = r := ⟨_, rfl⟩
              have HRA := Lib.hid hra
              have HRC := Lib.hid hrc
              clear hra hrc
              have H10 := Lib.hid H9
              have QA := Lib.hid qa
              have QB := Lib.hid qb
              clear H9 qa qb
              go_wp2_with (fail)
              cases pa <;> cases pc
              · by_cases hrr : ra = rc
                · go_quiet (first | (go_at_call 10; with_reducible exact Calls.quiet_of_same (smodq_as ia 4 M14 M41 HIA.out HRA.out _)) | (go_at_call 10; with_reducible exact Calls.quiet_of_same (smodq_as ic 4 M14 M41 HIC.out HRC.out _)))
                  have H11 := Lib.hid (H10.out.drewN nq)
                  clear l0 l1 l2 n0 n1 n2
                  go_wp2_with (fail)
                  go_meet
                  exact ⟨Ls, HLEN, HBD, HA, H11.out⟩
                · go_quiet (first | (go_at_call 10; with_reducible exact Calls.quiet_of_same (smodq_as ia 4 M14 M41 HIA.out HRA.out _)) | (go_at_call 10; with_reducible exact Calls.quiet_of_same (smodq_as ic 4 M14 M41 HIC.out HRC.out _)))
                  go_wp2_with (fail)
                  have HCA := Lib.hid HAB.out.1
                  have HCB := Lib.hid HAB.out.2
                  have H11 : Hp W (w9.drewN nq) [aPo og Ls, aSt tb b1 b2 f0 g0, aSt sb a1 a2 f g, aOb (X + 1) (pObj ⟨y0, y1, y2, 0, y4, y5, y6, y7, y8, y9⟩), aOb X (sObj ⟨x0, x1, x2, x3, 0, x5, x6, x7, x8⟩)] [] := H10.out.drewN nq
                  have qa2 : (w9.drewN nq).heap[A]? = some (qO false ia oa) := by simpa using QA.out
                  have qb2 : (w9.drewN nq).heap[B]? = some (qO false ic oc) := by simpa using QB.out
                  generalize w9.drewN nq = w10 at H11 qa2 qb2 ⊢
                  clear l0 l1 l2 n0 n1 n2
                  obtain ⟨l0, l1, l2⟩ := qo_cells qa2
                  obtain ⟨n0, n1, n2⟩ := qo_cells qb2
                  obtain ⟨⟨v0, v1, v2⟩, v3, v4, v5⟩ := KC.out H11
                  have fz := (H11.po_cells 0 at0 HCA.out).2
                  have z0 := fz (k * 3)
                  have z1 := fz (k * 3 + 1)
                  have z2 := fz (k * 3 + 2)
                  have z3 := fz (k' * 3)
                  have z4 := fz (k' * 3 + 1)
                  have z5 := fz (k' * 3 + 2)
                  have hst := (H11.po_swap2 0 at0 HKK.out HCA.out HCB.out).drew
                  simp only [set0] at hst
                  obtain ⟨Os, hOs⟩ : ∃ l, swp Ls k ⟨false, ia, oa⟩ ⟨false, ic, oc⟩ = l := ⟨_, rfl⟩
                  rw [hOs] at hst
                  have HST := Lib.hid hst
                  have HLEN2 : Hid (Os.length = m) := Lib.hid (by rw [← hOs, swp_length, HLEN.out])
                  have HBD2 : Hid (∀ (c : Nat) (x : PutD), Os[c]? = some x → PutOk x) := Lib.hid (by
                    intro c x hx
                    rw [← hOs] at hx
                    obtain ⟨c', hc'⟩ := swp_mem HCA.out (HKK.out ▸ HCB.out) hx
                    exact HBD.out c' x hc')
                  have HA2 : Hid (run1 Os = (f, g)) := Lib.hid (by rw [← hOs, run1_swp HCA.out (HKK.out ▸ HCB.out) (Or.inr (by rw [HRA.out, HRC.out]; exact hrr))]; exact HA.out)
                  clear hst fz hOs qa2 qb2 H11
                  have hklt : k < k' := by have := HKK.out; omega
                  go_region
                  clear l0 l1 l2 n0 n1 n2 v0 v1 v2 v3 v4 v5 z0 z1 z2 z3 z4 z5
                  go_wp2_with (fail)
                  go_meet
                  exact ⟨Os, HLEN2, HBD2, HA2, HST.out⟩
              · go_quiet (fail)
                go_wp2_with (fail)
                have HCA := Lib.hid HAB.out.1
                have HCB := Lib.hid HAB.out.2
                have H11 : Hp W (w9.drewN nq) [aPo og Ls, aSt tb b1 b2 f0 g0, aSt sb a1 a2 f g, aOb (X + 1) (pObj ⟨y0, y1, y2, 0, y4, y5, y6, y7, y8, y9⟩), aOb X (sObj ⟨x0, x1, x2, x3, 0, x5, x6, x7, x8⟩)] [] := H10.out.drewN nq
                have qa2 : (w9.drewN nq).heap[A]? = some (qO false ia oa) := by simpa using QA.out
                have qb2 : (w9.drewN nq).heap[B]? = some (qO true ic oc) := by simpa using QB.out
                generalize w9.drewN nq = w10 at H11 qa2 qb2 ⊢
                clear l0 l1 l2 n0 n1 n2
                obtain ⟨l0, l1, l2⟩ := qo_cells qa2
                obtain ⟨n0, n1, n2⟩ := qo_cells qb2
                obtain ⟨⟨v0, v1, v2⟩, v3, v4, v5⟩ := KC.out H11
                have fz := (H11.po_cells 0 at0 HCA.out).2
                have z0 := fz (k * 3)
                have z1 := fz (k * 3 + 1)
                have z2 := fz (k * 3 + 2)
                have z3 := fz (k' * 3)
                have z4 := fz (k' * 3 + 1)
                have z5 := fz (k' * 3 + 2)
                have hst := (H11.po_swap2 0 at0 HKK.out HCA.out HCB.out).drew
                simp only [set0] at hst
                obtain ⟨Os, hOs⟩ : ∃ l, swp Ls k ⟨false, ia, oa⟩ ⟨true, ic, oc⟩ = l := ⟨_, rfl⟩
                rw [hOs] at hst
                have HST := Lib.hid hst
                have HLEN2 : Hid (Os.length = m) := Lib.hid (by rw [← hOs, swp_length, HLEN.out])
                have HBD2 : Hid (∀ (c : Nat) (x : PutD), Os[c]? = some x → PutOk x) := Lib.hid (by
                  intro c x hx
                  rw [← hOs] at hx
                  obtain ⟨c', hc'⟩ := swp_mem HCA.out (HKK.out ▸ HCB.out) hx
                  exact HBD.out c' x hc')
                have HA2 : Hid (run1 Os = (f, g)) := Lib.hid (by rw [← hOs, run1_swp HCA.out (HKK.out ▸ HCB.out) (Or.inl (by simp))]; exact HA.out)
                clear hst fz hOs qa2 qb2 H11
                have hklt : k < k' := by have := HKK.out; omega
                go_region
                clear l0 l1 l2 n0 n1 n2 v0 v1 v2 v3 v4 v5 z0 z1 z2 z3 z4 z5
                go_wp2_with (fail)
                go_meet
                exact ⟨Os, HLEN2, HBD2, HA2, HST.out⟩
              · go_quiet (fail)
                go_wp2_with (fail)
                have HCA := Lib.hid HAB.out.1
                have HCB := Lib.hid HAB.out.2
                have H11 : Hp W (w9.drewN nq) [aPo og Ls, aSt tb b1 b2 f0 g0, aSt sb a1 a2 f g, aOb (X + 1) (pObj ⟨y0, y1, y2, 0, y4, y5, y6, y7, y8, y9⟩), aOb X (sObj ⟨x0, x1, x2, x3, 0, x5, x6, x7, x8⟩)] [] := H10.out.drewN nq
                have qa2 : (w9.drewN nq).heap[A]? = some (qO true ia oa) := by simpa using QA.out
                have qb2 : (w9.drewN nq).heap[B]? = some (qO false ic oc) := by simpa using QB.out
                generalize w9.drewN nq = w10 at H11 qa2 qb2 ⊢
                clear l0 l1 l2 n0 n1 n2
                obtain ⟨l0, l1, l2⟩ := qo_cells qa2
                obtain ⟨n0, n1, n2⟩ := qo_cells qb2
                obtain ⟨⟨v0, v1, v2⟩, v3, v4, v5⟩ := KC.out H11
                have fz := (H11.po_cells 0 at0 HCA.out).2
                have z0 := fz (k * 3)
                have z1 := fz (k * 3 + 1)
                have z2 := fz (k * 3 + 2)
                have z3 := fz (k' * 3)
                have z4 := fz (k' * 3 + 1)
                have z5 := fz (k' * 3 + 2)
                have hst := (H11.po_swap2 0 at0 HKK.out HCA.out HCB.out).drew
                simp only [set0] at hst
                obtain ⟨Os, hOs⟩ : ∃ l, swp Ls k ⟨true, ia, oa⟩ ⟨false, ic, oc⟩ = l := ⟨_, rfl⟩
                rw [hOs] at hst
                have HST := Lib.hid hst
                have HLEN2 : Hid (Os.length = m) := Lib.hid (by rw [← hOs, swp_length, HLEN.out])
                have HBD2 : Hid (∀ (c : Nat) (x : PutD), Os[c]? = some x → PutOk x) := Lib.hid (by
                  intro c x hx
                  rw [← hOs] at hx
                  obtain ⟨c', hc'⟩ := swp_mem HCA.out (HKK.out ▸ HCB.out) hx
                  exact HBD.out c' x hc')
                have HA2 : Hid (run1 Os = (f, g)) := Lib.hid (by rw [← hOs, run1_swp HCA.out (HKK.out ▸ HCB.out) (Or.inl (by simp))]; exact HA.out)
                clear hst fz hOs qa2 qb2 H11
                have hklt : k < k' := by have := HKK.out; omega
                go_region
                clear l0 l1 l2 n0 n1 n2 v0 v1 v2 v3 v4 v5 z0 z1 z2 z3 z4 z5
                go_wp2_with (fail)
                go_meet
                exact ⟨Os, HLEN2, HBD2, HA2, HST.out⟩
              · by_cases hrr : ra = rc
                · go_quiet (first | (go_at_call 10; with_reducible exact Calls.quiet_of_same (smodq_as ia 4 M14 M41 HIA.out HRA.out _)) | (go_at_call 10; with_reducible exact Calls.quiet_of_same (smodq_as ic 4 M14 M41 HIC.out HRC.out _)))
                  have H11 := Lib.hid (H10.out.drewN nq)
                  clear l0 l1 l2 n0 n1 n2
                  go_wp2_with (fail)
                  go_meet
                  exact ⟨Ls, HLEN, HBD, HA, H11.out⟩
                · go_quiet (first | (go_at_call 10; with_reducible exact Calls.quiet_of_same (smodq_as ia 4 M14 M41 HIA.out HRA.out _)) | (go_at_call 10; with_reducible exact Calls.quiet_of_same (smodq_as ic 4 M14 M41 HIC.out HRC.out _)))
                  go_wp2_with (fail)
                  have HCA := Lib.hid HAB.out.1
                  have HCB := Lib.hid HAB.out.2
                  have H11 : Hp W (w9.drewN nq) [aPo og Ls, aSt tb b1 b2 f0 g0, aSt sb a1 a2 f g, aOb (X + 1) (pObj ⟨y0, y1, y2, 0, y4, y5, y6, y7, y8, y9⟩), aOb X (sObj ⟨x0, x1, x2, x3, 0, x5, x6, x7, x8⟩)] [] := H10.out.drewN nq
                  have qa2 : (w9.drewN nq).heap[A]? = some (qO true ia oa) := by simpa using QA.out
                  have qb2 : (w9.drewN nq).heap[B]? = some (qO true ic oc) := by simpa using QB.out
                  generalize w9.drewN nq = w10 at H11 qa2 qb2 ⊢
                  clear l0 l1 l2 n0 n1 n2
                  obtain ⟨l0, l1, l2⟩ := qo_cells qa2
                  obtain ⟨n0, n1, n2⟩ := qo_cells qb2
                  obtain ⟨⟨v0, v1, v2⟩, v3, v4, v5⟩ := KC.out H11
                  have fz := (H11.po_cells 0 at0 HCA.out).2
                  have z0 := fz (k * 3)
                  have z1 := fz (k * 3 + 1)
                  have z2 := fz (k * 3 + 2)
                  have z3 := fz (k' * 3)
                  have z4 := fz (k' * 3 + 1)
                  have z5 := fz (k' * 3 + 2)
                  have hst := (H11.po_swap2 0 at0 HKK.out HCA.out HCB.out).drew
                  simp only [set0] at hst
                  obtain ⟨Os, hOs⟩ : ∃ l, swp Ls k ⟨true, ia, oa⟩ ⟨true, ic, oc⟩ = l := ⟨_, rfl⟩
                  rw [hOs] at hst
                  have HST := Lib.hid hst
                  have HLEN2 : Hid (Os.length = m) := Lib.hid (by rw [← hOs, swp_length, HLEN.out])
                  have HBD2 : Hid (∀ (c : Nat) (x : PutD), Os[c]? = some x → PutOk x) := Lib.hid (by
                    intro c x hx
                    rw [← hOs] at hx
                    obtain ⟨c', hc'⟩ := swp_mem HCA.out (HKK.out ▸ HCB.out) hx
                    exact HBD.out c' x hc')
                  have HA2 : Hid (run1 Os = (f, g)) := Lib.hid (by rw [← hOs, run1_swp HCA.out (HKK.out ▸ HCB.out) (Or.inr (by rw [HRA.out, HRC.out]; exact hrr))]; exact HA.out)
                  clear hst fz hOs qa2 qb2 H11
                  have hklt : k < k' := by have := HKK.out; omega
                  go_region
                  clear l0 l1 l2 n0 n1 n2 v0 v1 v2 v3 v4 v5 z0 z1 z2 z3 z4 z5
                  go_wp2_with (fail)
                  go_meet
                  exact ⟨Os, HLEN2, HBD2, HA2, HST.out⟩
            · have H9 : Hp W (((w6.alloc (qO pc ic oc)).alloc (qO pa ia oa)).drew) [aPo og Ls, aSt tb b1 b2 f0 g0, aSt sb a1 a2 f g, aOb (X + 1) (pObj ⟨y0, y1, y2, 0, y4, y5, y6, y7, y8, y9⟩), aOb X (sObj ⟨x0, x1, x2, x3, 0, x5, x6, x7, x8⟩)] [] := ((H7.out.lost _).lost _).drew
              have qb : (((w6.alloc (qO pc ic oc)).alloc (qO pa ia oa)).drew).heap[w6.heap.size]? = some (qO pc ic oc) := blk_old _ (blk0 w6 _)
              have qa : (((w6.alloc (qO pc ic oc)).alloc (qO pa ia oa)).drew).heap[w6.heap.size + 1]? = some (qO pa ia oa) := blk1 w6 _ _
              generalize (((w6.alloc (qO pc ic oc)).alloc (qO pa ia oa)).drew) = w9 at H9 qa qb ⊢
              generalize w6.heap.size + 1 = A at qa hog2 ⊢
              generalize w6.heap.size = B at qb hog1 ⊢
              clear v0 v1 v2 v3 v4 v5 hog H7
              obtain ⟨l0, l1, l2⟩ := qo_cells qa
              obtain ⟨n0, n1, n2⟩ := qo_cells qb
              have HIA := Lib.hid (HBD.out k _ HAB.out.1).1
              have HIC := Lib.hid (HBD.out k' _ HAB.out.2).1
              obtain ⟨ra, hra⟩ : ∃ r, ia % 4 = r := ⟨_, rfl⟩
              obtain ⟨rc, hrc⟩ : ∃ r, ic % 4 = r := ⟨_, rfl⟩
              have HRA := Lib.hid hra
              have HRC := Lib.hid hrc
              clear hra hrc
              have H10 := Lib.hid H9
              have QA := Lib.hid qa
              have QB := Lib.hid qb
              clear H9 qa qb
              go_wp2_with (fail)
              cases pa <;> cases pc
              · by_cases hrr : ra = rc
                · go_quiet (first | (go_at_call 10; with_reducible exact Calls.quiet_of_same (smodq_as ia 4 M14 M41 HIA.out HRA.out _)) | (go_at_call 10; with_reducible exact Calls.quiet_of_same (smodq_as ic 4 M14 M41 HIC.out HRC.out _)))
                  have H11 := Lib.hid (H10.out.drewN nq)
                  clear l0 l1 l2 n0 n1 n2
                  go_wp2_with (fail)
                  go_meet
                  exact ⟨Ls, HLEN, HBD, HA, H11.out⟩
                · go_quiet (first | (go_at_call 10; with_reducible exact Calls.quiet_of_same (smodq_as ia 4 M14 M41 HIA.out HRA.out _)) | (go_at_call 10; with_reducible exact Calls.quiet_of_same (smodq_as ic 4 M14 M41 HIC.out HRC.out _)))
                  go_wp2_with (fail)
                  have HCA := Lib.hid HAB.out.1
                  have HCB := Lib.hid HAB.out.2
                  have H11 : Hp W (w9.drewN nq) [aPo og Ls, aSt tb b1 b2 f0 g0, aSt sb a1 a2 f g, aOb (X + 1) (pObj ⟨y0, y1, y2, 0, y4, y5, y6, y7, y8, y9⟩), aOb X (sObj ⟨x0, x1, x2, x3, 0, x5, x6, x7, x8⟩)] [] := H10.out.drewN nq
                  have qa2 : (w9.drewN nq).heap[A]? = some (qO false ia oa) := by simpa using QA.out
                  have qb2 : (w9.drewN nq).heap[B]? = some (qO false ic oc) := by simpa using QB.out
                  generalize w9.drewN nq = w10 at H11 qa2 qb2 ⊢
                  clear l0 l1 l2 n0 n1 n2
                  obtain ⟨l0, l1, l2⟩ := qo_cells qa2
                  obtain ⟨n0, n1, n2⟩ := qo_cells qb2
                  obtain ⟨⟨v0, v1, v2⟩, v3, v4, v5⟩ := KC.out H11
                  have fz := (H11.po_cells 0 at0 HCA.out).2
                  have z0 := fz (k * 3)
                  have z1 := fz (k * 3 + 1)
                  have z2 := fz (k * 3 + 2)
                  have z3 := fz (k' * 3)
                  have z4 := fz (k' * 3 + 1)
                  have z5 := fz (k' * 3 + 2)
                  have hst := (H11.po_swap2 0 at0 HKK.out HCA.out HCB.out).drew
                  simp only [set0] at hst
                  obtain ⟨Os, hOs⟩ : ∃ l, swp Ls k ⟨false, ia, oa⟩ ⟨false, ic, oc⟩ = l := ⟨_, rfl⟩
                  rw [hOs] at hst
                  have HST := Lib.hid hst
                  have HLEN2 : Hid (Os.length = m) := Lib.hid (by rw [← hOs, swp_length, HLEN.out])
                  have HBD2 : Hid (∀ (c : Nat) (x : PutD), Os[c]? = some x → PutOk x) := Lib.hid (by
                    intro c x hx
                    rw [← hOs] at hx
                    obtain ⟨c', hc'⟩ := swp_mem HCA.out (HKK.out ▸ HCB.out) hx
                    exact HBD.out c' x hc')
                  have HA2 : Hid (run1 Os = (f, g)) := Lib.hid (by rw [← hOs, run1_swp HCA.out (HKK.out ▸ HCB.out) (Or.inr (by rw [HRA.out, HRC.out]; exact hrr))]; exact HA.out)
                  clear hst fz hOs qa2 qb2 H11
                  have hklt : k < k' := by have := HKK.out; omega
                  go_region
                  clear l0 l1 l2 n0 n1 n2 v0 v1 v2 v3 v4 v5 z0 z1 z2 z3 z4 z5
                  go_wp2_with (fail)
                  go_meet
                  exact ⟨Os, HLEN2, HBD2, HA2, HST.out⟩
              · go_quiet (fail)
                go_wp2_with (fail)
                have HCA := Lib.hid HAB.out.1
                have HCB := Lib.hid HAB.out.2
                have H11 : Hp W (w9.drewN nq) [aPo og Ls, aSt tb b1 b2 f0 g0, aSt sb a1 a2 f g, aOb (X + 1) (pObj ⟨y0, y1, y2, 0, y4, y5, y6, y7, y8, y9⟩), aOb X (sObj ⟨x0, x1, x2, x3, 0, x5, x6, x7, x8⟩)] [] := H10.out.drewN nq
                have qa2 : (w9.drewN nq).heap[A]? = some (qO false ia oa) := by simpa using QA.out
                have qb2 : (w9.drewN nq).heap[B]? = some (qO true ic oc) := by simpa using QB.out
                generalize w9.drewN nq = w10 at H11 qa2 qb2 ⊢
                clear l0 l1 l2 n0 n1 n2
                obtain ⟨l0, l1, l2⟩ := qo_cells qa2
                obtain ⟨n0, n1, n2⟩ := qo_cells qb2
                obtain ⟨⟨v0, v1, v2⟩, v3, v4, v5⟩ := KC.out H11
                have fz := (H11.po_cells 0 at0 HCA.out).2
                have z0 := fz (k * 3)
                have z1 := fz (k * 3 + 1)
                have z2 := fz (k * 3 + 2)
                have z3 := fz (k' * 3)
                have z4 := fz (k' * 3 + 1)
                have z5 := fz (k' * 3 + 2)
                have hst := (H11.po_swap2 0 at0 HKK.out HCA.out HCB.out).drew
                simp only [set0] at hst
                obtain ⟨Os, hOs⟩ : ∃ l, swp Ls k ⟨false, ia, oa⟩ ⟨true, ic, oc⟩ = l := ⟨_, rfl⟩
                rw [hOs] at hst
                have HST := Lib.hid hst
                have HLEN2 : Hid (Os.length = m) := Lib.hid (by rw [← hOs, swp_length, HLEN.out])
                have HBD2 : Hid (∀ (c : Nat) (x : PutD), Os[c]? = some x → PutOk x) := Lib.hid (by
                  intro c x hx
                  rw [← hOs] at hx
                  obtain ⟨c', hc'⟩ := swp_mem HCA.out (HKK.out ▸ HCB.out) hx
                  exact HBD.out c' x hc')
                have HA2 : Hid (run1 Os = (f, g)) := Lib.hid (by rw [← hOs, run1_swp HCA.out (HKK.out ▸ HCB.out) (Or.inl (by simp))]; exact HA.out)
                clear hst fz hOs qa2 qb2 H11
                have hklt : k < k' := by have := HKK.out; omega
                go_region
                clear l0 l1 l2 n0 n1 n2 v0 v1 v2 v3 v4 v5 z0 z1 z2 z3 z4 z5
                go_wp2_with (fail)
                go_meet
                exact ⟨Os, HLEN2, HBD2, HA2, HST.out⟩
              · go_quiet (fail)
                go_wp2_with (fail)
                have HCA := Lib.hid HAB.out.1
                have HCB := Lib.hid HAB.out.2
                have H11 : Hp W (w9.drewN nq) [aPo og Ls, aSt tb b1 b2 f0 g0, aSt sb a1 a2 f g, aOb (X + 1) (pObj ⟨y0, y1, y2, 0, y4, y5, y6, y7, y8, y9⟩), aOb X (sObj ⟨x0, x1, x2, x3, 0, x5, x6, x7, x8⟩)] [] := H10.out.drewN nq
                have qa2 : (w9.drewN nq).heap[A]? = some (qO true ia oa) := by simpa using QA.out
                have qb2 : (w9.drewN nq).heap[B]? = some (qO false ic oc) := by simpa using QB.out
                generalize w9.drewN nq = w10 at H11 qa2 qb2 ⊢
                clear l0 l1 l2 n0 n1 n2
                obtain ⟨l0, l1, l2⟩ := qo_cells qa2
                obtain ⟨n0, n1, n2⟩ := qo_cells qb2
                obtain ⟨⟨v0, v1, v2⟩, v3, v4, v5⟩ := KC.out H11
                have fz := (H11.po_cells 0 at0 HCA.out).2
                have z0 := fz (k * 3)
                have z1 := fz (k * 3 + 1)
                have z2 := fz (k * 3 + 2)
                have z3 := fz (k' * 3)
                have z4 := fz (k' * 3 + 1)
                have z5 := fz (k' * 3 + 2)
                have hst := (H11.po_swap2 0 at0 HKK.out HCA.out HCB.out).drew
                simp only [set0] at hst
                obtain ⟨Os, hOs⟩ : ∃ l, swp Ls k ⟨true, ia, oa⟩ ⟨false, ic, oc⟩ = l := ⟨_, rfl⟩
                rw [hOs] at hst
                have HST := Lib.hid hst
                have HLEN2 : Hid (Os.length = m) := Lib.hid (by rw [← hOs, swp_length, HLEN.out])
                have HBD2 : Hid (∀ (c : Nat) (x : PutD), Os[c]? = some x → PutOk x) := Lib.hid (by
                  intro c x hx
                  rw [← hOs] at hx
                  obtain ⟨c', hc'⟩ := swp_mem HCA.out (HKK.out ▸ HCB.out) hx
                  exact HBD.out c' x hc')
                have HA2 : Hid (run1 Os = (f, g)) := Lib.hid (by rw [← hOs, run1_swp HCA.out (HKK.out ▸ HCB.out) (Or.inl (by simp))]; exact HA.out)
                clear hst fz hOs qa2 qb2 H11
                have hklt : k < k' := by have := HKK.out; omega
                go_region
                clear l0 l1 l2 n0 n1 n2 v0 v1 v2 v3 v4 v5 z0 z1 z2 z3 z4 z5
                go_wp2_with (fail)
                go_meet
                exact ⟨Os, HLEN2, HBD2, HA2, HST.out⟩
              · by_cases hrr : ra = rc
                · go_quiet (first | (go_at_call 10; with_reducible exact Calls.quiet_of_same (smodq_as ia 4 M14 M41 HIA.out HRA.out _)) | (go_at_call 10; with_reducible exact Calls.quiet_of_same (smodq_as ic 4 M14 M41 HIC.out HRC.out _)))
                  have H11 := Lib.hid (H10.out.drewN nq)
                  clear l0 l1 l2 n0 n1 n2
                  go_wp2_with (fail)
                  go_meet
                  exact ⟨Ls, HLEN, HBD, HA, H11.out⟩
                · go_quiet (first | (go_at_call 10; with_reducible exact Calls.quiet_of_same (smodq_as ia 4 M14 M41 HIA.out HRA.out _)) | (go_at_call 10; with_reducible exact Calls.quiet_of_same (smodq_as ic 4 M14 M41 HIC.out HRC.out _)))
                  go_wp2_with (fail)
                  have HCA := Lib.hid HAB.out.1
                  have HCB := Lib.hid HAB.out.2
                  have H11 : Hp W (w9.drewN nq) [aPo og Ls, aSt tb b1 b2 f0 g0, aSt sb a1 a2 f g, aOb (X + 1) (pObj ⟨y0, y1, y2, 0, y4, y5, y6, y7, y8, y9⟩), aOb X (sObj ⟨x0, x1, x2, x3, 0, x5, x6, x7, x8⟩)] [] := H10.out.drewN nq
                  have qa2 : (w9.drewN nq).heap[A]? = some (qO true ia oa) := by simpa using QA.out
                  have qb2 : (w9.drewN nq).heap[B]? = some (qO true ic oc) := by simpa using QB.out
                  generalize w9.drewN nq = w10 at H11 qa2 qb2 ⊢
                  clear l0 l1 l2 n0 n1 n2
                  obtain ⟨l0, l1, l2⟩ := qo_cells qa2
                  obtain ⟨n0, n1, n2⟩ := qo_cells qb2
                  obtain ⟨⟨v0, v1, v2⟩, v3, v4, v5⟩ := KC.out H11
                  have fz := (H11.po_cells 0 at0 HCA.out).2
                  have z0 := fz (k * 3)
                  have z1 := fz (k * 3 + 1)
                  have z2 := fz (k * 3 + 2)
                  have z3 := fz (k' * 3)
                  have z4 := fz (k' * 3 + 1)
                  have z5 := fz (k' * 3 + 2)
                  have hst := (H11.po_swap2 0 at0 HKK.out HCA.out HCB.out).drew
                  simp only [set0] at hst
                  obtain ⟨Os, hOs⟩ : ∃ l, swp Ls k ⟨true, ia, oa⟩ ⟨true, ic, oc⟩ = l := ⟨_, rfl⟩
                  rw [hOs] at hst
                  have HST := Lib.hid hst
                  have HLEN2 : Hid (Os.length = m) := Lib.hid (by rw [← hOs, swp_length, HLEN.out])
                  have HBD2 : Hid (∀ (c : Nat) (x : PutD), Os[c]? = some x → PutOk x) := Lib.hid (by
                    intro c x hx
                    rw [← hOs] at hx
                    obtain ⟨c', hc'⟩ := swp_mem HCA.out (HKK.out ▸ HCB.out) hx
                    exact HBD.out c' x hc')
                  have HA2 : Hid (run1 Os = (f, g)) := Lib.hid (by rw [← hOs, run1_swp HCA.out (HKK.out ▸ HCB.out) (Or.inr (by rw [HRA.out, HRC.out]; exact hrr))]; exact HA.out)
                  clear hst fz hOs qa2 qb2 H11
                  have hklt : k < k' := by have := HKK.out; omega
                  go_region
                  clear l0 l1 l2 n0 n1 n2 v0 v1 v2 v3 v4 v5 z0 z1 z2 z3 z4 z5
                  go_wp2_with (fail)
                  go_meet
                  exact ⟨Os, HLEN2, HBD2, HA2, HST.out⟩


end Go.Proofs.Ytakpafmhdgnlmaa
