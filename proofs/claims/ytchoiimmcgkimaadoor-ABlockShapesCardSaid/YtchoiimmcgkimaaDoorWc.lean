/- collect: bins of an iterator, appended. -/
import Derived.Test.YtchoiimmcgkimaaDoorVr
namespace Go.Proofs.YtchoiimmcgkimaaDoor
open Go.RowKit Go.Shelf
set_option linter.unusedVariables false
set_option maxRecDepth 100000
set_option linter.unusedSimpArgs false
attribute [local go_sem] Oper.semAt_some

theorem bin_info : ∃ i : TypeInfo, Tryd.prog.info? 31 = some i ∧ i.zero = some (bvl (0, 0)) ∧ i.size = 2 ∧ i.bytes = 16 := by
  obtain ⟨i, h, h0, h1, h2⟩ := info_parts (show (Tryd.prog.info? 31).map (fun i => (i.zero, i.size, i.bytes)) = some (some (bvl (0, 0)), 2, 16) by kernel_rfl)
  exact ⟨i, h, h0, h1, h2⟩

/-- A slice that owns bins; behind others' eyes its row alone has turned. -/
structure ColI (w W : World) (B : Nat) (v v' : Value) (n : Nat) (xs : List (Int × Int)) (pre : List (Int × Int)) : Prop where
  box : Boxed W B 26 v'
  own : W.ownsRow 0 31 2 v' (n + pre.length) (bcs (xs ++ pre))
  blk : v'.ownBlock = v.ownBlock ∨ ∀ c, v'.ownBlock = some c → w.heap.size ≤ c
  grown : w.grownBy W v.ownBlock

theorem grown_trans {a b c : World} {r s : Option Nat} (h : a.grownBy b r) (k : b.grownBy c s) (hs : ∀ x, s = some x → some x = r ∨ a.heap.size ≤ x) : a.grownBy c r :=
  ⟨k.os.trans h.os, k.tape.trans h.tape, k.output.trans h.output, Nat.le_trans h.size k.size, fun i hi hr =>
    (k.block i (Nat.lt_of_lt_of_le hi h.size) (fun e => by
      rcases hs i e.symm with h1 | h1
      · exact hr h1
      · omega)).trans (h.block i hi hr)⟩

theorem ownsRow_none {w : World} {base : Nat} {e : TypeId} {size : Nat} {v : Value} {n : Nat} {xs : List Value} (h : w.ownsRow base e size v n xs) {r : Nat} {o : Obj} (hr : w.heap[r]? = some o) (ho : o.isCells = false) : v.ownBlock = none ∨ v.ownBlock ≠ some r := by
  rcases h.2 with ⟨rfl, _⟩ | ⟨g, cap, cur, rfl, _, hgb, _⟩
  · exact .inl rfl
  · refine .inr fun e' => ?_
    obtain rfl : g = r := by simpa [Value.ownBlock] using e'
    rw [hgb] at hr; cases hr; cases ho

theorem ColI.ownFrom {w : World} {B : Nat} {v : Value} {n : Nat} {xs : List (Int × Int)} (D : Nat) (hD : w.heap.size ≤ D) : OwnFrom D (fun (pre : List (Int × Int)) W => ∃ v', ColI w W B v v' n xs pre) := by
  rintro pre W W' row ⟨v', h⟩ hg hr
  refine ⟨v', h.box.kept hg (fun e => ?_), h.own.kept hg ?_, h.blk, grown_trans h.grown hg (fun x hx => .inr ?_)⟩
  · obtain ⟨_, o, ho, hc⟩ := hr B e.symm
    rw [show W.heap[B]? = _ from h.box] at ho; cases ho; cases hc
  · cases row with
    | none => cases v'.ownBlock <;> simp
    | some r =>
      obtain ⟨_, o, ho, hc⟩ := hr r rfl
      exact ownsRow_none h.own ho hc
  · exact Nat.le_trans hD (hr x hx).1

theorem wpListIn_append_own_at {F : Fence} {n : Nat} {P : Program} (w : World) {ops : Array Oper} {rest : List Oper} {o : Oper} {a : Act} {Q : Exit → Act → World → Prop}
    (hg : o.guard = none) (s x : Operand) (t : TypeId) (hop : o.op = Op.call { callee := Callee.builtin Builtin.append, args := #[s, x], argTypes := #[t, t] })
    (base : Nat) (e : TypeId) (i : TypeInfo) (z : Value) (size bytes : Nat) (h1 : P.underlying t = some (.slice e)) (h2 : P.info? e = some i) (h3 : i.zero = some z) (h4 : i.size = size) (h5 : i.bytes = bytes) (h6 : z.cells.size = size) (h7 : 0 < size)
    (v : Value) (k : Nat) (xs : List Value) (hs : a.eval s = v) (hown : w.ownsRow base e size v k xs) (ad : Addr) (m c : Nat) (news : List Value) (hx : a.eval x = .slice (some ad) m c) (hn : news.length = m * size)
    (hc : ∀ j u, news[j]? = some u → w.cell? (ad.add j) = some u) (h1c : ∀ u ∈ news, u.oneCell' = true) (b1 : k + m ≤ maxLen) (b2 : (k + m) * bytes ≤ 140737488355328) (b3 : base ≤ w.heap.size)
    (hK : ∀ v' w', w'.ownsRow base e size v' (k + m) (xs ++ news) → w.grownBy w' v.ownBlock → (v'.ownBlock = v.ownBlock ∨ v'.ownBlock = some w.heap.size) → wpListIn F n P ops Q rest (a.put o.dst v') w') :
    wpListIn F n P ops Q (o :: rest) a w := by
  refine wpListIn_plain hg fun K hK' => ?_
  obtain ⟨v', w', hrun, r1, r2, _, r3⟩ := run_append_own_at (P := P) (w := w) base t o.type e i z size bytes h1 h2 h3 h4 h5 h6 h7 v k xs hown ad m c news hn hc h1c b1 b2 b3
  unfold Oper.wpIn
  refine ⟨?_, ?_⟩
  · simp [Oper.about, hop, resolve, Target.leads, Sem.run_pure]
  · rw [Oper.semAt_plain F _ _ (by rw [hop]; intro c hc'; cases hc')]
    simp [execOp, hop, resolve, invoke, builtin, hs, hx, hrun, Result.andThen]
    exact hK' _ _ (hK v' w' r1 r2 r3)
theorem KpE.of_grown2 {n₀ : Nat} {r s : Option Nat} {A B : World} (h : A.grownBy B s) (hs : ∀ x, s = some x → some x = r ∨ n₀ ≤ x) (hn : n₀ ≤ A.heap.size) : KpE n₀ r A B :=
  ⟨h.size, fun k hk hr => h.block k (by omega) (fun e => by
    rcases hs k e.symm with h1 | h1
    · exact hr h1
    · omega)⟩
theorem ColI.alloc {w W : World} {B : Nat} {v v' : Value} {n : Nat} {xs pre : List (Int × Int)} (h : ColI w W B v v' n xs pre) (o : Obj) : ColI w (W.alloc o) B v v' n xs pre :=
  ⟨h.box.alloc o, h.own.alloc o, h.blk, grown_trans h.grown (World.grownBy_alloc W o none) (fun x hx => by cases hx)⟩
theorem ColI.row {w W : World} {B : Nat} {v v' : Value} {n : Nat} {xs pre : List (Int × Int)} (h : ColI w W B v v' n xs pre) : ∀ x, v'.ownBlock = some x → some x = v.ownBlock ∨ w.heap.size ≤ x := by
  intro x hx
  rcases h.blk with h1 | h1
  · left; rw [← hx]; exact h1
  · exact .inr (h1 x hx)
theorem ColI.more {w W w1 : World} {B : Nat} {v v' v2 : Value} {n : Nat} {xs pre : List (Int × Int)} (h : ColI w W B v v' n xs pre) {tmp : Obj} (hB : w.heap.size ≤ B) (x : Int × Int)
    (hown : w1.ownsRow 0 31 2 v2 (n + pre.length + 1) (bcs (xs ++ pre) ++ [.int .i64 x.1, .int .u8 x.2])) (hg : (W.alloc tmp).grownBy w1 v'.ownBlock) (hb : v2.ownBlock = v'.ownBlock ∨ v2.ownBlock = some (W.alloc tmp).heap.size) :
    ColI w (w1.setCell ⟨B, 0, none⟩ v2) B v v2 n xs (pre ++ [x]) ∧ KpE w.heap.size v.ownBlock W (w1.setCell ⟨B, 0, none⟩ v2) ∧ KeepsOthers W (w1.setCell ⟨B, 0, none⟩ v2) ∧ Boxed w1 B 26 v' := by
  obtain ⟨a1, a2, a3, a4, _⟩ := h.box.appended (by decide) h.own (Nat.zero_le _) (Nat.zero_le _) hown hg
  have hs := h.grown.size
  refine ⟨⟨a2, ?_, ?_, ?_⟩, ?_, a4, a1⟩
  · have e : bcs (xs ++ pre) ++ [.int .i64 x.1, .int .u8 x.2] = bcs (xs ++ (pre ++ [x])) := by
      rw [← List.append_assoc, bcs_append (xs ++ pre)]; rfl
    rw [← e, List.length_append]
    exact a3
  · rcases hb with hb | hb
    · rw [hb]; exact h.blk
    · right
      intro c hc
      rw [hb] at hc
      simp at hc
      omega
  · refine grown_trans (grown_trans (grown_trans h.grown (World.grownBy_alloc W tmp none) (fun x hx => by cases hx)) hg h.row) (grownBy_setCell' w1 B v2) (fun x hx => by cases hx; exact .inr hB)
  · exact (KpE.of_grown2 (World.grownBy_alloc W tmp none) (fun x hx => by cases hx) hs).trans ((KpE.of_grown2 hg h.row (by simp; omega)).trans (KpE.of_grown2 (grownBy_setCell' w1 B v2) (fun x hx => by cases hx; exact .inr hB) (by have := hg.size; simp at this; omega)))

theorem bin_new (w : World) (a b : Value) (t : TypeId) : ∀ j u, [a, b][j]? = some u → (w.alloc (.cells #[a, b] t)).cell? ((⟨w.heap.size, 0, none⟩ : Addr).add j) = some u := by
  intro j u hu
  have e : ((⟨w.heap.size, 0, none⟩ : Addr).add j) = ⟨w.heap.size, j, none⟩ := by unfold Addr.add; split <;> simp_all
  have hn : (w.alloc (.cells #[a, b] t)).heap[w.heap.size]? = some (.cells #[a, b] t (0, 0)) := World.alloc_heap_new _ _
  rw [e]
  simp only [World.cell?, hn]
  simpa using hu
theorem ownsRow_form {w : World} {base : Nat} {e : TypeId} {size : Nat} {v : Value} {n : Nat} {xs : List Value} (h : w.ownsRow base e size v n xs) : ∃ sp cap, v = .slice sp n cap := by
  rcases h.2 with ⟨rfl, rfl⟩ | ⟨g, cap, cur, rfl, _⟩
  · exact ⟨none, 0, rfl⟩
  · exact ⟨_, cap, rfl⟩

set_option maxHeartbeats 4000000 in
theorem collect_any {w : World} {v : Value} {n : Nat} {xs l : List (Int × Int)} {gf : Nat} {lb : Array Value} {Sp : List (Int × Int) → Prop} (hgf : ∀ args w, (callFunc gf args).run Tryd.prog w = .ok (.enter gf args) w)
    (hown : w.ownsRow 0 31 2 v n (bcs xs)) (hn : n + l.length ≤ 100000)
    (hs : ∀ m, 1 ≤ m → SeqStopsK Fence.wide m Tryd.prog gf lb (fun x : Int × Int => #[bvl x]) (KpE w.heap.size v.ownBlock) (fun ys => ys = l) Sp l.length w) :
    Calls Tryd.prog 22 #[v, .func (.func gf) #[] lb] w fun e w' => ∃ v', e = .returned v' ∧ w'.ownsRow 0 31 2 v' (n + l.length) (bcs (xs ++ l)) ∧ (v'.ownBlock = v.ownBlock ∨ ∀ c, v'.ownBlock = some c → w.heap.size ≤ c) ∧ w.grownBy w' v.ownBlock := by
  obtain ⟨i0, hi, hz0, hz1, hz2⟩ := bin_info
  obtain ⟨sp, cap, rfl⟩ := ownsRow_form hown
  have HO := Lib.hid hown
  have HS := Lib.hid hs
  have HG := Lib.hid hgf
  have hlt := hown.lt
  clear hown hs hgf
  refine (callsIn_wide (n := 10)).1 ?_
  refine callsIn_of_wp_marks Tryd.func22 rfl trivial ?_ rfl
  simp only [Tryd.ntmps22, List.size_toArray, List.length_cons, List.length_nil, Nat.reduceAdd, Nat.reduceSub, Array.replicate_succ, Array.replicate_zero, List.push_toArray, List.append_toArray, List.nil_append, List.cons_append]
  gi_wp2
  have bO := Boxed.new w 26 (.slice sp n cap)
  have hB0 : w.grownBy (w.alloc (.cells #[.slice sp n cap] 26)) (Value.slice sp n cap).ownBlock := World.grownBy_alloc w _ _
  have hC0 : ColI w (w.alloc (.cells #[.slice sp n cap] 26)) w.heap.size (.slice sp n cap) (.slice sp n cap) n xs [] :=
    ⟨bO, by simpa using HO.out.alloc _, .inl rfl, hB0⟩
  refine wpIn_rangeFunc_ownH rfl (by omega) (gf := gf) (lb := lb) rfl trivial HG.out
    (HS.out 9 (by omega)) (fun h k => h.trans k) (fun W l' o o' hl h1 h2 h3 => KpE.put W l' o' (by simp at hl; omega)) ((Below.refl _ _).alloc (Nat.le_refl _) _) (fun _ => rfl)
    (fun pre W => ∃ v', ColI w W w.heap.size (.slice sp n cap) v' n xs pre)
    (fun _ _ _ => False)
    (ColI.ownFrom _ (by simp))
    (fun _ _ _ _ _ hs _ _ => hs)
    ⟨_, hC0⟩
    (fun x a' W => ∃ Bx, w.heap.size + 1 ≤ Bx ∧ W.heap[Bx]? = some (.cells #[.int .i64 x.1, .int .u8 x.2] 31 (0, 0)) ∧ a' = { tmps := #[.slice sp n cap, .func (.func gf) #[] lb, .pointer (some ⟨w.heap.size, 0, none⟩), undef, .slice none 0 0, .pointer (some ⟨Bx, 0, none⟩), .func (.func gf) #[] lb, bvl x, undef, undef, undef, undef, undef], defers := [] })
    (by
      rintro x a' s W W' row ⟨Bx, h1, h2, h3⟩ hg hr
      refine ⟨Bx, h1, ?_, h3⟩
      refine (hg.block Bx (Array.getElem?_eq_some_iff.1 h2).1 (fun e => ?_)).trans h2
      obtain ⟨_, o, ho, hc⟩ := hr Bx e.symm
      rw [h2] at ho; cases ho; cases hc) ?assign ?body ?done ?stop
  case assign =>
    rintro lp pre x W K ⟨v', hv⟩ hK
    unfold bvl
    gi_wp2
    exact hK _ _ ((KeepsOthers.alloc _ _).from _) (KpE.of_grown2 (World.grownBy_alloc W _ none) (fun x hx => by cases hx) hv.grown.size) ⟨v', hv.alloc _⟩ ⟨W.heap.size, hv.box.lt, World.alloc_heap_new _ _, rfl⟩
  case body =>
    rintro lp pre x a' W hlp hrr ⟨v', hv⟩ ⟨Bx, hBx, bX, rfl⟩ hlen
    obtain ⟨sp', cap', rfl⟩ := ownsRow_form hv.own
    have hc := hv.box.cell
    have x0 : W.cell? ⟨Bx, 0, none⟩ = some (.int .i64 x.1) := by simp [World.cell?, bX]
    have x1 : W.cell? ⟨Bx, 1, none⟩ = some (.int .u8 x.2) := by simp [World.cell?, bX]
    have HV := Lib.hid hv
    have HL := Lib.hid (show n + pre.length + 1 ≤ 100000 by omega)
    clear hv hlen bX
    unfold bvl
    gi_wp2_with (gi_at_builtin; refine wpListIn_append_own_at _ rfl _ _ 26 rfl 0 31 i0 (bvl (0, 0)) 2 16 Tryd.underlying26 hi hz0 hz1 hz2 rfl (by decide) _ _ _ rfl (HV.out.own.alloc _) ⟨W.heap.size, 0, none⟩ 1 1 [.int .i64 x.1, .int .u8 x.2] rfl rfl ?c1 ?c2 ?c3 ?c4 (Nat.zero_le _) ?_)
    case c1 => exact bin_new _ _ _ _
    case c2 => intro u hu; simp at hu; rcases hu with rfl | rfl <;> rfl
    case c3 => have := HL.out; unfold maxLen; omega
    case c4 => have := HL.out; omega
    intro v2 w1 hown hg hb
    obtain ⟨sp2, cap2, rfl⟩ := ownsRow_form hown
    obtain ⟨m1, m2, m3, m4⟩ := HV.out.more (Nat.le_refl _) x hown hg (by rw [World.size_alloc]; exact hb)
    have e1 := m4.cell
    have e2 := m4.frozen
    gi_wp2
    exact ⟨m3.from _, m2, _, m1⟩
  case done =>
    rintro D ys W hD rfl ⟨v', hv⟩ hK
    obtain ⟨sp', cap', rfl⟩ := ownsRow_form hv.own
    have hc := hv.box.cell
    gi_wp2
    refine ⟨by simp, .inl ⟨_, _, rfl, run_takeDeferred hK, ?_⟩⟩
    refine ⟨_, results_tmp rfl _ _ _, ?_⟩
    refine ⟨.slice sp' (n + ys.length) cap', rfl, ownsRow_putObj hv.own _ hK rfl, hv.blk, grown_trans hv.grown (grownBy_putObj' W D _) (fun x hx => by cases hx; simp at hD; exact .inr (by omega))⟩
  case stop =>
    rintro D c pre W _ _ h _
    exact h.elim

end Go.Proofs.YtchoiimmcgkimaaDoor
