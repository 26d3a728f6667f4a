/- EqualBins, of, rest, alive. -/
import Derived.Test.YtchoiimmcgkimaaDoorVt
import Derived.Deep.RegionLaw
import Derived.StillTailTactics
namespace Go.Proofs.YtchoiimmcgkimaaDoor
open Go.RowKit Go.Shelf
set_option linter.unusedVariables false
set_option maxRecDepth 100000
set_option linter.unusedSimpArgs false

theorem bpart_plain {T : TypeId} {w : World} (ha : (isAgg T).run Tryd.prog w = .ok false w) {cs : Array Value} {i : Nat} {v : Value} (hv : cs[i]? = some v) : (part T cs i).run Tryd.prog w = .ok v w := by
  simp [part, ha, hv]
set_option maxHeartbeats 1000000 in
theorem bin_eq (a b c d : Int) (w : World) : (Op.equalIn 10000 31 (.agg #[.int .i64 a, .int .u8 b]) (.agg #[.int .i64 c, .int .u8 d])).run Tryd.prog w = .ok (decide ((a, b) = (c, d))) w := by
  rw [show (10000 : Nat) = 9999 + 1 from rfl]
  unfold Op.equalIn
  simp only [Sem.run_bind, run_underlying Tryd.underlying31, Result.andThen_ok]
  have ai : ∀ w, (isAgg 3).run Tryd.prog w = .ok false w := fun w => by simp [isAgg, run_underlying Tryd.underlying3]
  have au : ∀ w, (isAgg 5).run Tryd.prog w = .ok false w := fun w => by simp [isAgg, run_underlying Tryd.underlying5]
  have ei : ∀ (a b : Int) w, (Op.equalIn 9999 3 (.int .i64 a) (.int .i64 b)).run Tryd.prog w = .ok (a == b) w := fun a b w => run_equalIn_int w 9998 3 .i64 .i64 a b Tryd.underlying3
  have eu : ∀ (a b : Int) w, (Op.equalIn 9999 5 (.int .u8 a) (.int .u8 b)).run Tryd.prog w = .ok (a == b) w := fun a b w => run_equalIn_int w 9998 5 .u8 .u8 a b Tryd.underlying5
  have e : decide ((a, b) = (c, d)) = (a == c && b == d) := by rw [Bool.eq_iff_iff, decide_eq_true_iff]; simp
  rw [e]
  clear e
  simp
  rw [bpart_plain (ai _) (v := .int .i64 a) rfl, Result.andThen_ok, bpart_plain (ai _) (v := .int .i64 c) rfl, Result.andThen_ok, ei, Result.andThen_ok]
  cases (a == c)
  · simp
  simp only [Bool.true_and, if_false, Bool.true_eq_false, reduceCtorEq]
  rw [bpart_plain (au _) (v := .int .u8 b) rfl, Result.andThen_ok, bpart_plain (au _) (v := .int .u8 d) rfl, Result.andThen_ok, eu, Result.andThen_ok]
  cases (b == d)
  · simp
  · simp

/-- A slice value that reads as bins. -/
structure BnIn (w : World) (sp : Option Addr) (n g o : Nat) (bs : List (Int × Int)) : Prop where
  len : n = bs.length
  le : n ≤ 100000
  at_ : 0 < n → sp = some ⟨g, o, none⟩
  cell : ∀ i b, bs[i]? = some b → w.cell? ⟨g, o + i * 2, none⟩ = some (.int .i64 b.1) ∧ w.cell? ⟨g, o + i * 2 + 1, none⟩ = some (.int .u8 b.2)
theorem BnIn.cells {w w' : World} {sp : Option Addr} {n g o : Nat} {bs : List (Int × Int)} (h : BnIn w sp n g o bs) (hc : ∀ k, w'.cell? ⟨g, k, none⟩ = w.cell? ⟨g, k, none⟩) : BnIn w' sp n g o bs :=
  ⟨h.len, h.le, h.at_, fun i b hb => by rw [hc, hc]; exact h.cell i b hb⟩
theorem BnIn.get {w : World} {sp : Option Addr} {n g o : Nat} {bs : List (Int × Int)} (h : BnIn w sp n g o bs) {i : Nat} (hi : i < n) :
    w.cell? ⟨g, o + i * 2, none⟩ = some (.int .i64 (bs.getD i (0, 0)).1) ∧ w.cell? ⟨g, o + i * 2 + 1, none⟩ = some (.int .u8 (bs.getD i (0, 0)).2) := by
  have hi' : i < bs.length := by rw [← h.len]; exact hi
  have := h.cell i (bs.getD i (0, 0)) (by rw [List.getD_eq_getElem?_getD, List.getElem?_eq_getElem hi']; rfl)
  exact this

section
variable {W w : World} {L : List AObj} {F : List (Nat × Obj)}
theorem Hp.bnIn (h : Hp W w L F) (k : Nat) {sp : Option Addr} {cap : Nat} {bs : List (Int × Int)} {n : Nat} (hk : L[k]? = some (aSl 31 2 (.slice sp n cap) bs.length (bcs bs))) (hn : bs.length ≤ 100000) : ∃ g, BnIn w sp n g 0 bs := by
  obtain ⟨h1, h2⟩ := h.sl k hk
  rcases h2 with ⟨hv, h0⟩ | ⟨g, cap', cur, hv, hg, hh', h4, h5, h6, r⟩
  · injection hv with a b c
    have hb : bs = [] := List.eq_nil_of_length_eq_zero h0
    subst hb
    exact ⟨0, ⟨by rw [b]; rfl, by omega, fun hh => by omega, fun i b hb => by simp at hb⟩⟩
  · injection hv with a b c
    subst a
    refine ⟨g, ⟨b, by omega, fun _ => rfl, fun i x hx => ?_⟩⟩
    obtain ⟨q1, q2⟩ := bcs_at bs i x hx
    have hk2 : L[k]? = some (aSl 31 2 (.slice (some ⟨g, 0, none⟩) bs.length cap) bs.length (bcs bs)) := by rw [hk, b]
    rw [Nat.zero_add]
    exact ⟨h.sl_at k hk2 q1, h.sl_at k hk2 q2⟩

/-- Whether two lists of bins agree at the first i places. -/
theorem take_ne {a b : List (Int × Int)} (hl : a.length = b.length) {i : Nat} (h1 : i < a.length) (h2 : a.getD i (0, 0) ≠ b.getD i (0, 0)) : a ≠ b := fun e => h2 (by rw [e])
theorem take_eq {a b : List (Int × Int)} (hl : a.length = b.length) (h : ∀ i, i < a.length → a.getD i (0, 0) = b.getD i (0, 0)) : a = b := by
  apply List.ext_getElem hl
  intro i h1 h2
  have := h i h1
  simpa [List.getElem?_eq_getElem h1, List.getElem?_eq_getElem h2] using this

set_option maxHeartbeats 2000000 in
theorem equal_any {sp sq : Option Addr} {n m c d g1 o1 g2 o2 : Nat} {a b : List (Int × Int)} (ha : BnIn w sp n g1 o1 a) (hb : BnIn w sq m g2 o2 b) :
    Calls Tryd.prog 7 #[.slice sp n c, .slice sq m d] w fun e w' => e = .returned (.bool (decide (a = b))) ∧ ∃ x, w' = w.drewN x := by
  have n1 := ha.le
  have m1 := hb.le
  by_cases hnm : n = m
  · obtain ⟨r, hr⟩ : ∃ r, r = decide (a = b) := ⟨_, rfl⟩
    rw [← hr]
    have hlab : a.length = b.length := by rw [← ha.len, ← hb.len]; exact hnm
    subst hnm
    have HR := Lib.hid hr
    have HL := Lib.hid hlab
    have HA := Lib.hid ha
    have HB := Lib.hid hb
    clear hr hlab ha hb
    go_enter Tryd.func7, Tryd.ntmps7
    go_wp2_with (fail)
    go_loopw [5] (fun i wr => ∃ (k x : Nat), k ≤ n ∧ i = .int .i64 k ∧ wr = w.drewN x ∧ Hid (∀ j, j < k → a.getD j (0, 0) = b.getD j (0, 0))) (fun i _ => n - (intOf i).toNat)
    case atStart => exact ⟨0, 0, Nat.zero_le _, rfl, rfl, Lib.hid (fun j hj => by omega)⟩
    case round =>
      obtain ⟨k, x, hk, rfl, rfl, HQ⟩ := hrel
      by_cases hlt : k < n
      · obtain rfl := HA.out.at_ (by omega)
        obtain rfl := HB.out.at_ (by omega)
        obtain ⟨c1, c2⟩ := HA.out.get hlt
        obtain ⟨d1, d2⟩ := HB.out.get hlt
        obtain ⟨p1, p2⟩ : ∃ p1 p2, p1 = a.getD k (0, 0) ∧ p2 = b.getD k (0, 0) := ⟨_, _, rfl, rfl⟩
        obtain ⟨p2, hp1, hp2⟩ := p2
        rw [← hp1] at c1 c2
        rw [← hp2] at d1 d2
        have hq := fun w => bin_eq p1.1 p1.2 p2.1 p2.2 w
        have HP := Lib.hid (And.intro hp1 hp2)
        clear hp1 hp2
        have hlti : (k : Int) < (n : Int) := by omega
        cases hd : decide ((p1.1, p1.2) = (p2.1, p2.2)) with
        | true =>
          rw [hd] at hq
          have HD := Lib.hid hd
          clear hd
          go_wp2_with (fail)
          go_quiet (fail)
          go_wp2_with (fail)
          go_roundw
          case rel => exact ⟨k + 1, x + nq, by omega, by go_num, rfl, Lib.hid (fun j hj => by
            by_cases hjk : j < k
            · exact HQ.out j hjk
            · obtain rfl : j = k := by omega
              rw [← HP.out.1, ← HP.out.2]
              exact of_decide_eq_true HD.out)⟩
          case measure => simp [intOf]; omega
        | false =>
          rw [hd] at hq
          have HD := Lib.hid hd
          clear hd
          go_wp2_with (fail)
          go_quiet (fail)
          go_wp2_with (fail)
          refine bodyPost_ret (results_tmp rfl _ _ _) rfl ⟨?_, x + nq, by simp only [World.drewN, Nat.add_assoc]⟩
          rw [HR.out, decide_eq_false (take_ne HL.out (i := k) (by rw [← HA.out.len]; exact hlt) (fun e => by
            rw [← HP.out.1, ← HP.out.2] at e
            exact of_decide_eq_false HD.out e))]
          rfl
      · obtain rfl : k = n := by omega
        go_wp2_with (fail)
        refine bodyPost_ret (results_tmp rfl _ _ _) rfl ⟨?_, x, rfl⟩
        rw [HR.out, decide_eq_true (take_eq HL.out (fun j hj => HQ.out j (by rw [HA.out.len]; exact hj)))]
        rfl
  · have hr : decide (a = b) = false := decide_eq_false (fun e => hnm (by rw [ha.len, hb.len, e]))
    rw [hr]
    clear hr ha hb
    go_enter Tryd.func7, Tryd.ntmps7
    go_wp2_with (fail)
    exact bodyPost_ret (results_tmp rfl _ _ _) rfl ⟨rfl, 0, rfl⟩
theorem equal_hp (h : Hp W w L F) {sp sq : Option Addr} {n m c d g1 o1 g2 o2 : Nat} {a b : List (Int × Int)} (ha : BnIn w sp n g1 o1 a) (hb : BnIn w sq m g2 o2 b) :
    Calls Tryd.prog 7 #[.slice sp n c, .slice sq m d] w fun e w' => e = .returned (.bool (decide (a = b))) ∧ Hp W w' L F ∧ ∀ p, w'.cell? p = w.cell? p := by
  refine (equal_any ha hb).mono ?_
  rintro e w' ⟨rfl, x, rfl⟩
  exact ⟨rfl, h.drewN x, fun p => rfl⟩

/-- rest: the remainder that is not negative. -/
theorem tmod_rest (n m : Int) : (n.tmod m + m) % m = n % m := by
  have h := Int.mul_tdiv_add_tmod n m
  have e : n.tmod m + m = n + m * (1 - n.tdiv m) := by rw [Int.mul_sub, Int.mul_one]; omega
  rw [e, Int.add_mul_emod_self_left]
/-- of: contexts and bits in turn. -/
def ofB : List Int → List (Int × Int)
  | a :: b :: r => (a, b % 256) :: ofB r
  | _ => []
theorem ofB_take : ∀ (l : List Int) (k : Nat), 2 * k + 1 < l.length → ofB (l.take (2 * k + 2)) = ofB (l.take (2 * k)) ++ [(l.getD (2 * k) 0, l.getD (2 * k + 1) 0 % 256)]
  | [], k, h => by simp at h
  | [_], k, h => by simp at h
  | a :: b :: r, 0, h => by simp [ofB]
  | a :: b :: r, k + 1, h => by
    have := ofB_take r k (by simp at h; omega)
    rw [show 2 * (k + 1) + 2 = (2 * k + 2) + 1 + 1 by omega, show 2 * (k + 1) = 2 * k + 1 + 1 by omega]
    simp only [List.take_succ_cons, ofB, List.cons_append]
    rw [this]
    simp
theorem ofB_len : ∀ (l : List Int), (ofB l).length = l.length / 2
  | [] => rfl
  | [_] => by simp [ofB]
  | a :: b :: r => by simp only [ofB, List.length_cons, ofB_len r]; omega

theorem ofB_even : ∀ (l : List Int), ofB (l.take (2 * (l.length / 2))) = ofB l
  | [] => rfl
  | [_] => by simp [ofB]
  | a :: b :: r => by
    have := ofB_even r
    rw [show 2 * ((a :: b :: r).length / 2) = 2 * (r.length / 2) + 1 + 1 by simp only [List.length_cons]; omega]
    simp only [List.take_succ_cons, ofB]
    rw [this]
@[reducible] def ctxO (l : List Int) : Obj := .cells (l.map (Value.int .i64)).toArray 3 (0, 0)
theorem Hp.ctx {g : Nat} {l : List Int} (h : Hp W w L ((g, ctxO l) :: F)) (h1 : 0 < l.length) (h2 : l.length ≤ 10) : CtxIn w g l := by
  have hb := h.blk (List.mem_cons_self ..)
  refine ⟨fun j hj => ?_, lt_of_block hb, h1, h2⟩
  simp only at hb
  simp only [World.cell?, hb]
  simp [List.getElem?_eq_getElem hj]
end

end Go.Proofs.YtchoiimmcgkimaaDoor
