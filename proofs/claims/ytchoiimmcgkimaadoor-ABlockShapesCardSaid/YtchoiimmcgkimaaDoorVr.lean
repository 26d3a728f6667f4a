/- Contexts of a row; the iterators over counted bins and digits. -/
import Derived.Test.YtchoiimmcgkimaaDoorVz
import Derived.Test.YtchoiimmcgkimaaDoorVs
import Derived.Test.YtchoiimmcgkimaaDoorArith
import Derived.RangeFuncNested
import Derived.RangeFuncBound
import Derived.RangeFuncCalls
import Derived.RangeFuncLeaves
import Derived.Shelf.Abstract
import Derived.Shelf.RegionOpen
import Derived.OwnWalkIn
import Derived.TacticsInMore
import Derived.LoopNIn
import Derived.LoopIn
import Derived.Lib.Hide
import Derived.Maps.AppendAt
namespace Go.Proofs.YtchoiimmcgkimaaDoor
open Go.RowKit Go.Shelf
set_option linter.unusedVariables false
set_option maxRecDepth 100000
set_option linter.unusedSimpArgs false
attribute [local go_sem] Oper.semAt_some

/-- Block bl holds a row of contexts. -/
structure RowIn (w : World) (bl g c : Nat) (l : List Int) : Prop where
  box : w.cell? ⟨bl, 0, none⟩ = some (.slice (some ⟨g, 0, none⟩) l.length c)
  cell : ∀ j, j < l.length → w.cell? ⟨g, j, none⟩ = some (.int .i64 (l.getD j 0))
  pos : 0 < l.length
  le : l.length ≤ 10

set_option maxHeartbeats 1000000 in
theorem row1_any {w : World} {bl g c : Nat} {l : List Int} (h : RowIn w bl g c l) (i : Nat) (hi : i ≤ 5000) :
    Calls Tryd.prog 30 #[.int .i64 i, .pointer (some ⟨bl, 0, none⟩)] w fun e w' => e = .returned (.int .i64 (rowAt l i)) ∧ w = w' := by
  obtain ⟨h1, h2, h3, h4⟩ := h
  have h5 := h2 (min i (l.length - 1)) (by omega)
  have e1 : rowAt l i = l.getD (min i (l.length - 1)) 0 := rfl
  rw [← e1] at h5
  generalize rowAt l i = r at *
  clear e1 h2
  generalize l.length = m at *
  by_cases hm : i ≤ m - 1
  · rw [Nat.min_eq_left (by omega)] at h5
    go_enter Tryd.func30, Tryd.ntmps30
    go_wp2
    go_ret
    exact ⟨rfl, rfl⟩
  · rw [Nat.min_eq_right (by omega)] at h5
    go_enter Tryd.func30, Tryd.ntmps30
    go_wp2
    go_ret
    exact ⟨rfl, rfl⟩

/-- row: the function of a row of contexts. -/
theorem row_any (sp : Option Addr) (n c : Nat) (w : World) :
    Calls Tryd.prog 24 #[.slice sp n c] w fun e w' => e = .returned (.func (.func 30) #[] #[.pointer (some ⟨w.heap.size, 0, none⟩)]) ∧ w.alloc (.cells #[.slice sp n c] 22) = w' := by
  go_enter Tryd.func24, Tryd.ntmps24
  go_wp2
  go_ret
  exact ⟨rfl, rfl⟩
theorem counted_any (v m : Int) (f : Value) (w : World) (b1 : Nat) (hf : f = .func (.func 30) #[] #[.pointer (some ⟨b1, 0, none⟩)]) :
    Calls Tryd.prog 23 #[.int .i64 v, .int .i64 m, f] w fun e w' => e = .returned (.func (.func 29) #[] #[.pointer (some ⟨w.heap.size, 0, none⟩), .pointer (some ⟨w.heap.size + 2, 0, none⟩), .pointer (some ⟨w.heap.size + 1, 0, none⟩)]) ∧ ((w.alloc (.cells #[.int .i64 v] 3)).alloc (.cells #[.int .i64 m] 3)).alloc (.cells #[f] 46) = w' := by
  subst hf
  go_enter Tryd.func23, Tryd.ntmps23
  go_wp2
  go_ret
  exact ⟨rfl, rfl⟩
theorem digits_any (v : Nat) (n : Int) (w : World) :
    Calls Tryd.prog 26 #[.int .u64 v, .int .i64 n] w fun e w' => e = .returned (.func (.func 31) #[] #[.pointer (some ⟨w.heap.size + 1, 0, none⟩), .pointer (some ⟨w.heap.size, 0, none⟩)]) ∧ (w.alloc (.cells #[.int .u64 v] 54)).alloc (.cells #[.int .i64 n] 3) = w' := by
  go_enter Tryd.func26, Tryd.ntmps26
  go_wp2
  go_ret
  exact ⟨rfl, rfl⟩

/-- Blocks below n₀ other than r lie as they lay. -/
def KpE (n₀ : Nat) (r : Option Nat) (A B : World) : Prop := A.heap.size ≤ B.heap.size ∧ ∀ k, k < n₀ → some k ≠ r → B.heap[k]? = A.heap[k]?
theorem KpE.trans {n₀ : Nat} {r : Option Nat} {A B C : World} (h : KpE n₀ r A B) (k : KpE n₀ r B C) : KpE n₀ r A C :=
  ⟨Nat.le_trans h.1 k.1, fun i hi hr => (k.2 i hi hr).trans (h.2 i hi hr)⟩
theorem KpE.put {n₀ : Nat} {r : Option Nat} (W : World) (l : Nat) (o' : Obj) (hl : n₀ ≤ l) : KpE n₀ r W (W.putObj l o') :=
  ⟨(grownBy_putObj' W l o').size, fun k hk _ => World.putObj_heap_other (by omega)⟩
theorem KpE.of_below {n₀ : Nat} {r : Option Nat} {A B : World} (h : Below A.heap.size A B) (hn : n₀ ≤ A.heap.size) : KpE n₀ r A B :=
  ⟨h.size, fun k hk _ => h.block k (by omega)⟩
theorem KpE.of_grown {n₀ : Nat} {r : Option Nat} {A B : World} (h : A.grownBy B r) (hn : n₀ ≤ A.heap.size) : KpE n₀ r A B :=
  ⟨h.size, fun k hk hr => h.block k (by omega) hr⟩
theorem KpE.cell {n₀ : Nat} {r : Option Nat} {A B : World} (h : KpE n₀ r A B) {k j : Nat} (hk : k < n₀) (hr : some k ≠ r) : B.cell? ⟨k, j, none⟩ = A.cell? ⟨k, j, none⟩ :=
  World.cell?_of_block (h.2 k hk hr)

theorem RowIn.kept {n₀ : Nat} {r : Option Nat} {A B : World} {bl g c : Nat} {l : List Int} (h : RowIn A bl g c l) (k : KpE n₀ r A B) (h1 : bl < n₀ ∧ some bl ≠ r) (h2 : g < n₀ ∧ some g ≠ r) : RowIn B bl g c l :=
  ⟨(k.cell h1.1 h1.2).trans h.box, fun j hj => (k.cell h2.1 h2.2).trans (h.cell j hj), h.pos, h.le⟩

/-- What counted's function has captured. -/
structure CntIn (n₀ : Nat) (r : Option Nat) (w : World) (bv ba bm bl g c v : Nat) (m : Int) (l : List Int) : Prop where
  cv : w.cell? ⟨bv, 0, none⟩ = some (.int .i64 v)
  ca : w.cell? ⟨ba, 0, none⟩ = some (.func (.func 30) #[] #[.pointer (some ⟨bl, 0, none⟩)])
  cm : w.cell? ⟨bm, 0, none⟩ = some (.int .i64 m)
  row : RowIn w bl g c l
  lv : bv < n₀ ∧ some bv ≠ r
  la : ba < n₀ ∧ some ba ≠ r
  lm : bm < n₀ ∧ some bm ≠ r
  ll : bl < n₀ ∧ some bl ≠ r
  lg : g < n₀ ∧ some g ≠ r
theorem CntIn.kept {n₀ : Nat} {r : Option Nat} {A B : World} {bv ba bm bl g c v : Nat} {m : Int} {l : List Int} (h : CntIn n₀ r A bv ba bm bl g c v m l) (k : KpE n₀ r A B) : CntIn n₀ r B bv ba bm bl g c v m l :=
  ⟨(k.cell h.lv.1 h.lv.2).trans h.cv, (k.cell h.la.1 h.la.2).trans h.ca, (k.cell h.lm.1 h.lm.2).trans h.cm, h.row.kept k h.ll h.lg, h.lv, h.la, h.lm, h.ll, h.lg⟩

def cntP (l : List Int) (k : Nat) : List (Int × Int) := (List.range k).map (fun i => (rowAt l i, 1))
theorem cntP_succ (l : List Int) (k : Nat) : cntP l (k + 1) = cntP l k ++ [(rowAt l k, 1)] := by simp [cntP, List.range_succ]
theorem cntP_length (l : List Int) (k : Nat) : (cntP l k).length = k := by simp [cntP]
theorem cntB_eq (l : List Int) (v : Nat) (fin : Bool) : cntB l v fin = cntP l v ++ if fin then [(rowAt l v, 0)] else [] := rfl

set_option maxHeartbeats 2000000 in
theorem counted1_in (n : Nat) (hn : 1 ≤ n) (lp n₀ : Nat) (r : Option Nat) (bv ba bm bl g c v : Nat) (m : Int) (l : List Int) (hv : v ≤ 2000) (J Jx : List (Int × Int) → World → Prop)
    (hY : ∀ pre x W, J pre W → pre.length < (cntB l v (decide ((v : Int) ≠ m))).length → YieldAt Fence.wide (n - 1) Tryd.prog lp #[bvl x] W fun e W' =>
      (e = .returned (.bool true) ∧ J (pre ++ [x]) W' ∧ KpE n₀ r W W') ∨ (e = .returned (.bool false) ∧ Jx (pre ++ [x]) W'))
    (W : World) (hC : CntIn n₀ r W bv ba bm bl g c v m l) (h0 : J [] W) :
    CallsIn Fence.wide n Tryd.prog 29 #[.func (.yield lp) #[] #[], .pointer (some ⟨bv, 0, none⟩), .pointer (some ⟨ba, 0, none⟩), .pointer (some ⟨bm, 0, none⟩)] W fun e W' => (∃ v, e = .returned v) ∧
      ((∃ ys, ys = cntB l v (decide ((v : Int) ≠ m)) ∧ J ys W') ∨ (∃ pre : List (Int × Int), True ∧ Jx pre W')) := by
  rw [cntB_length] at hY
  have HY := Lib.hid hY
  clear hY
  obtain ⟨c1, c2, c3, c4⟩ := And.intro hC.cv (And.intro hC.ca (And.intro hC.cm hC.row))
  refine callsIn_of_wp Tryd.func29 rfl trivial ?_ rfl
  simp only [Tryd.ntmps29, List.size_toArray, List.length_cons, List.length_nil, Nat.reduceAdd, Nat.reduceSub, Array.replicate_succ, Array.replicate_zero, List.push_toArray, List.append_toArray, List.nil_append, List.cons_append]
  gi_wp2
  gi_loopw [7] (fun i wr => ∃ k : Nat, k ≤ v ∧ i = .int .i64 k ∧ J (cntP l k) wr ∧ CntIn n₀ r wr bv ba bm bl g c v m l)
    (fun i _ => v - (intOf i).toNat)
  case atStart => exact ⟨0, Nat.zero_le _, rfl, h0, hC⟩
  case round =>
    obtain ⟨k, hk, rfl, hJs, hx⟩ := hrel
    obtain ⟨d1, d2, d3, d4⟩ := And.intro hx.cv (And.intro hx.ca (And.intro hx.cm hx.row))
    clear c1 c2 c3 c4
    by_cases hlt : k < v
    · obtain ⟨fn, tmps, assign, body, hy, hR⟩ := HY.out _ (rowAt l k, 1) wr hJs (by rw [cntP_length]; omega)
      dsimp only [bvl] at hy
      gi_wp2_with (refine ⟨trivial, ?_⟩; gi_at_call 30; refine (callsIn_wide.2 (row1_any d4 k (by omega))).mono ?_; rintro e w1 ⟨rfl, rfl⟩)
      refine hR.mono ?_
      rintro e W3 (⟨rfl, hJ3, hk3⟩ | ⟨rfl, hJx3⟩)
      · gi_wp2
        go_roundw
        case rel => exact ⟨k + 1, by omega, by go_num, by rw [cntP_succ]; exact hJ3, hx.kept hk3⟩
        case measure => simp [intOf]; omega
      · gi_wp2
        refine bodyPost_ret (results_none rfl _ _ _) rfl ?_
        exact ⟨⟨_, rfl⟩, .inr ⟨_, trivial, hJx3⟩⟩
    · obtain rfl : k = v := by omega
      by_cases hm : (k : Int) = m
      · subst hm
        gi_wp2
        go_end0
        exact ⟨⟨_, rfl⟩, .inl ⟨_, by simp [cntB_eq], hJs⟩⟩
      · have hmb : decide ((k : Int) ≠ m) = true := by simpa using hm
        have hmn : ((k : Int) != m) = true := by simpa using hm
        obtain ⟨fn, tmps, assign, body, hy, hR⟩ := HY.out _ (rowAt l k, 0) wr hJs (by rw [cntP_length, hmb]; simp)
        dsimp only [bvl] at hy
        have HM := Lib.hid hmb
        clear hmb
        gi_wp2_with (refine ⟨trivial, ?_⟩; gi_at_call 30; refine (callsIn_wide.2 (row1_any d4 k (by omega))).mono ?_; rintro e w1 ⟨rfl, rfl⟩)
        refine hR.mono ?_
        rintro e W3 (⟨rfl, hJ3, hk3⟩ | ⟨rfl, hJx3⟩)
        · gi_wp2
          go_end0
          exact ⟨⟨_, rfl⟩, .inl ⟨_, by rw [cntB_eq, HM.out]; rfl, hJ3⟩⟩
        · gi_wp2
          go_end0
          exact ⟨⟨_, rfl⟩, .inr ⟨_, trivial, hJx3⟩⟩
theorem counted1_stops (n : Nat) (hn : 1 ≤ n) (n₀ : Nat) (r : Option Nat) (bv ba bm bl g c v : Nat) (m : Int) (l : List Int) (hv : v ≤ 2000) (w : World) (hn0 : n₀ ≤ w.heap.size) (hC : CntIn n₀ r w bv ba bm bl g c v m l) :
    SeqStopsK Fence.wide n Tryd.prog 29 #[.pointer (some ⟨bv, 0, none⟩), .pointer (some ⟨ba, 0, none⟩), .pointer (some ⟨bm, 0, none⟩)] (fun x : Int × Int => #[bvl x]) (KpE n₀ r) (fun ys => ys = cntB l v (decide ((v : Int) ≠ m))) (fun _ => True) (cntB l v (decide ((v : Int) ≠ m))).length w :=
  fun lp J Jx W hW _ _ hY h0 => counted1_in n hn lp n₀ r bv ba bm bl g c v m l hv J Jx hY W (hC.kept (KpE.of_below hW hn0)) h0


/-- What digits' function has captured. -/
structure DigIn (n₀ : Nat) (r : Option Nat) (w : World) (bv bn v n : Nat) : Prop where
  cv : w.cell? ⟨bv, 0, none⟩ = some (.int .u64 v)
  cn : w.cell? ⟨bn, 0, none⟩ = some (.int .i64 n)
  lv : bv < n₀ ∧ some bv ≠ r
  ln : bn < n₀ ∧ some bn ≠ r
theorem DigIn.kept {n₀ : Nat} {r : Option Nat} {A B : World} {bv bn v n : Nat} (h : DigIn n₀ r A bv bn v n) (k : KpE n₀ r A B) : DigIn n₀ r B bv bn v n :=
  ⟨(k.cell h.lv.1 h.lv.2).trans h.cv, (k.cell h.ln.1 h.ln.2).trans h.cn, h.lv, h.ln⟩
theorem dig_bit {v k : Nat} (hv : v < 18446744073709551616) : bits .and .u64 ((v : Int) / 2 ^ k) 1 % 256 = ((v / 2 ^ k % 2 : Nat) : Int) := by
  have e : ((v : Int) / 2 ^ k) = ((v / 2 ^ k : Nat) : Int) := by simp
  rw [e, u64_and_one (Nat.lt_of_le_of_lt (Nat.div_le_self _ _) hv)]
  omega

set_option maxHeartbeats 2000000 in
theorem digits1_in (m : Nat) (hm : 1 ≤ m) (lp n₀ : Nat) (r : Option Nat) (bv bn v n : Nat) (hn : n ≤ 70) (hn64 : n ≤ 64) (hv : v < 18446744073709551616) (J Jx : List (Int × Int) → World → Prop)
    (hY : ∀ pre x W, J pre W → pre.length < (digB v n).length → YieldAt Fence.wide (m - 1) Tryd.prog lp #[bvl x] W fun e W' =>
      (e = .returned (.bool true) ∧ J (pre ++ [x]) W' ∧ KpE n₀ r W W') ∨ (e = .returned (.bool false) ∧ Jx (pre ++ [x]) W'))
    (W : World) (hC : DigIn n₀ r W bv bn v n) (h0 : J [] W) :
    CallsIn Fence.wide m Tryd.prog 31 #[.func (.yield lp) #[] #[], .pointer (some ⟨bn, 0, none⟩), .pointer (some ⟨bv, 0, none⟩)] W fun e W' => (∃ v, e = .returned v) ∧
      ((∃ ys, ys = digB v n ∧ J ys W') ∨ (∃ pre : List (Int × Int), True ∧ Jx pre W')) := by
  rw [digB_length] at hY
  have HY := Lib.hid hY
  have HV := Lib.hid hv
  clear hY hv
  obtain ⟨c1, c2⟩ := And.intro hC.cv hC.cn
  refine callsIn_of_wp Tryd.func31 rfl trivial ?_ rfl
  simp only [Tryd.ntmps31, List.size_toArray, List.length_cons, List.length_nil, Nat.reduceAdd, Nat.reduceSub, Array.replicate_succ, Array.replicate_zero, List.push_toArray, List.append_toArray, List.nil_append, List.cons_append]
  gi_wp2
  gi_loopw [4] (fun i wr => ∃ (k : Nat) (pre : List (Int × Int)), k ≤ n ∧ pre.length + k = n ∧ (i = .int .i64 ((k : Int) - 1)) ∧ Hid (digB v n = pre ++ digB v k) ∧ J pre wr ∧ DigIn n₀ r wr bv bn v n)
    (fun i _ => (intOf i + 1).toNat)
  case atStart => exact ⟨n, [], Nat.le_refl _, by simp, rfl, Lib.hid rfl, h0, hC⟩
  case round =>
    obtain ⟨k, pre, hk, hpl, rfl, HD, hJs, hx⟩ := hrel
    obtain ⟨d1, d2⟩ := And.intro hx.cv hx.cn
    clear c1 c2
    cases k with
    | zero =>
      have e : (((0 : Nat) : Int) - 1) = -1 := rfl
      rw [e]
      gi_wp2
      go_end0
      exact ⟨⟨_, rfl⟩, .inl ⟨pre, by rw [HD.out]; simp [digB], hJs⟩⟩
    | succ k =>
      have e : (((k + 1 : Nat) : Int) - 1) = (k : Int) := by omega
      rw [e]
      clear e
      obtain ⟨fn, tmps, assign, body, hy, hR⟩ := HY.out _ (-1, ((v / 2 ^ k % 2 : Nat) : Int)) wr hJs (by omega)
      dsimp only [bvl] at hy
      rw [← dig_bit HV.out] at hy
      gi_wp2
      refine hR.mono ?_
      rintro e W3 (⟨rfl, hJ3, hk3⟩ | ⟨rfl, hJx3⟩)
      · gi_wp2
        go_roundw
        case rel => exact ⟨k, pre ++ [(-1, ((v / 2 ^ k % 2 : Nat) : Int))], Nat.le_of_succ_le hk, (by rw [List.length_append, List.length_singleton]; omega), rfl, Lib.hid (by rw [HD.out]; simp [digB]), hJ3, hx.kept hk3⟩
        case measure => simp [intOf]
      · gi_wp2
        refine bodyPost_ret (results_none rfl _ _ _) rfl ?_
        exact ⟨⟨_, rfl⟩, .inr ⟨_, trivial, hJx3⟩⟩
theorem digits1_stops (m : Nat) (hm : 1 ≤ m) (n₀ : Nat) (r : Option Nat) (bv bn v n : Nat) (hn : n ≤ 64) (hv : v < 18446744073709551616) (w : World) (hn0 : n₀ ≤ w.heap.size) (hC : DigIn n₀ r w bv bn v n) :
    SeqStopsK Fence.wide m Tryd.prog 31 #[.pointer (some ⟨bn, 0, none⟩), .pointer (some ⟨bv, 0, none⟩)] (fun x : Int × Int => #[bvl x]) (KpE n₀ r) (fun ys => ys = digB v n) (fun _ => True) (digB v n).length w :=
  fun lp J Jx W hW _ _ hY h0 => digits1_in m hm lp n₀ r bv bn v n (by omega) hn hv J Jx hY W (hC.kept (KpE.of_below hW hn0)) h0

end Go.Proofs.YtchoiimmcgkimaaDoor
