/- The walk of SetsMatches. -/
import Derived.Test.YtakpafmhdgnlmaaSj
import Derived.Test.YtakpafmhdgnlmaaFl
import Derived.Deep.RegionHeld3
import Derived.Deep.MidRow
import Derived.Deep.WholeRow
namespace Go.Proofs.Ytakpafmhdgnlmaa
open Go.RowKit
set_option linter.unusedVariables false
set_option maxRecDepth 100000
set_option linter.unusedSimpArgs false

@[reducible] def actObj (wh : Int) (x : SpsD) (y : PpsD) (id : Int) : Obj := .cells #[.int .u8 wh, .int .u8 x.pr, .int .u8 x.fl, .int .u8 x.le, .int .i64 x.id, .int .i64 x.fb, .int .i64 x.pb, .int .i64 x.refs, .int .i64 x.w, .int .i64 x.h, .int .i64 y.id, .int .i64 y.sps, .bool y.cab, .int .i64 y.refs, .int .i64 y.refs1, .int .i64 y.qp, .int .i64 y.qs, .int .i64 y.ch, .bool y.deb, .bool y.intra, .int .i64 id] 51 (0, 0)
theorem act_cells {w : World} {b : Nat} {wh id : Int} {x : SpsD} {y : PpsD} (h : w.heap[b]? = some (actObj wh x y id)) : w.cell? ⟨b, 0, none⟩ = some (.int .u8 wh) ∧ w.cell? ⟨b, 1, none⟩ = some (.int .u8 x.pr) ∧ w.cell? ⟨b, 2, none⟩ = some (.int .u8 x.fl) ∧ w.cell? ⟨b, 3, none⟩ = some (.int .u8 x.le) ∧ w.cell? ⟨b, 4, none⟩ = some (.int .i64 x.id) ∧ w.cell? ⟨b, 5, none⟩ = some (.int .i64 x.fb) ∧ w.cell? ⟨b, 6, none⟩ = some (.int .i64 x.pb) ∧ w.cell? ⟨b, 7, none⟩ = some (.int .i64 x.refs) ∧ w.cell? ⟨b, 8, none⟩ = some (.int .i64 x.w) ∧ w.cell? ⟨b, 9, none⟩ = some (.int .i64 x.h) ∧ w.cell? ⟨b, 10, none⟩ = some (.int .i64 y.id) ∧ w.cell? ⟨b, 11, none⟩ = some (.int .i64 y.sps) ∧ w.cell? ⟨b, 12, none⟩ = some (.bool y.cab) ∧ w.cell? ⟨b, 13, none⟩ = some (.int .i64 y.refs) ∧ w.cell? ⟨b, 14, none⟩ = some (.int .i64 y.refs1) ∧ w.cell? ⟨b, 15, none⟩ = some (.int .i64 y.qp) ∧ w.cell? ⟨b, 16, none⟩ = some (.int .i64 y.qs) ∧ w.cell? ⟨b, 17, none⟩ = some (.int .i64 y.ch) ∧ w.cell? ⟨b, 18, none⟩ = some (.bool y.deb) ∧ w.cell? ⟨b, 19, none⟩ = some (.bool y.intra) ∧ w.cell? ⟨b, 20, none⟩ = some (.int .i64 id) := by
  simp [World.cell?, h, actObj]
theorem act_range {w : World} {b o : Nat} {wh id : Int} {x : SpsD} {y : PpsD} (h0 : w.cell? ⟨b, o, none⟩ = some (.int .u8 wh)) (h1 : w.cell? ⟨b, o + 1, none⟩ = some (.int .u8 x.pr)) (h2 : w.cell? ⟨b, o + 2, none⟩ = some (.int .u8 x.fl)) (h3 : w.cell? ⟨b, o + 3, none⟩ = some (.int .u8 x.le)) (h4 : w.cell? ⟨b, o + 4, none⟩ = some (.int .i64 x.id)) (h5 : w.cell? ⟨b, o + 5, none⟩ = some (.int .i64 x.fb)) (h6 : w.cell? ⟨b, o + 6, none⟩ = some (.int .i64 x.pb)) (h7 : w.cell? ⟨b, o + 7, none⟩ = some (.int .i64 x.refs)) (h8 : w.cell? ⟨b, o + 8, none⟩ = some (.int .i64 x.w)) (h9 : w.cell? ⟨b, o + 9, none⟩ = some (.int .i64 x.h)) (h10 : w.cell? ⟨b, o + 10, none⟩ = some (.int .i64 y.id)) (h11 : w.cell? ⟨b, o + 11, none⟩ = some (.int .i64 y.sps)) (h12 : w.cell? ⟨b, o + 12, none⟩ = some (.bool y.cab)) (h13 : w.cell? ⟨b, o + 13, none⟩ = some (.int .i64 y.refs)) (h14 : w.cell? ⟨b, o + 14, none⟩ = some (.int .i64 y.refs1)) (h15 : w.cell? ⟨b, o + 15, none⟩ = some (.int .i64 y.qp)) (h16 : w.cell? ⟨b, o + 16, none⟩ = some (.int .i64 y.qs)) (h17 : w.cell? ⟨b, o + 17, none⟩ = some (.int .i64 y.ch)) (h18 : w.cell? ⟨b, o + 18, none⟩ = some (.bool y.deb)) (h19 : w.cell? ⟨b, o + 19, none⟩ = some (.bool y.intra)) (h20 : w.cell? ⟨b, o + 20, none⟩ = some (.int .i64 id)) : w.rangeAt b o [.int .u8 wh, .int .u8 x.pr, .int .u8 x.fl, .int .u8 x.le, .int .i64 x.id, .int .i64 x.fb, .int .i64 x.pb, .int .i64 x.refs, .int .i64 x.w, .int .i64 x.h, .int .i64 y.id, .int .i64 y.sps, .bool y.cab, .int .i64 y.refs, .int .i64 y.refs1, .int .i64 y.qp, .int .i64 y.qs, .int .i64 y.ch, .bool y.deb, .bool y.intra, .int .i64 id] := fun j v hv => match j, hv with
  | 0, hv => by
    simp at hv
    subst hv
    exact h0
  | 1, hv => by
    simp at hv
    subst hv
    exact h1
  | 2, hv => by
    simp at hv
    subst hv
    exact h2
  | 3, hv => by
    simp at hv
    subst hv
    exact h3
  | 4, hv => by
    simp at hv
    subst hv
    exact h4
  | 5, hv => by
    simp at hv
    subst hv
    exact h5
  | 6, hv => by
    simp at hv
    subst hv
    exact h6
  | 7, hv => by
    simp at hv
    subst hv
    exact h7
  | 8, hv => by
    simp at hv
    subst hv
    exact h8
  | 9, hv => by
    simp at hv
    subst hv
    exact h9
  | 10, hv => by
    simp at hv
    subst hv
    exact h10
  | 11, hv => by
    simp at hv
    subst hv
    exact h11
  | 12, hv => by
    simp at hv
    subst hv
    exact h12
  | 13, hv => by
    simp at hv
    subst hv
    exact h13
  | 14, hv => by
    simp at hv
    subst hv
    exact h14
  | 15, hv => by
    simp at hv
    subst hv
    exact h15
  | 16, hv => by
    simp at hv
    subst hv
    exact h16
  | 17, hv => by
    simp at hv
    subst hv
    exact h17
  | 18, hv => by
    simp at hv
    subst hv
    exact h18
  | 19, hv => by
    simp at hv
    subst hv
    exact h19
  | 20, hv => by
    simp at hv
    subst hv
    exact h20
  | j + 21, hv => by simp at hv
theorem act_one (wh id : Int) (x : SpsD) (y : PpsD) : (#[.int .u8 wh, .int .u8 x.pr, .int .u8 x.fl, .int .u8 x.le, .int .i64 x.id, .int .i64 x.fb, .int .i64 x.pb, .int .i64 x.refs, .int .i64 x.w, .int .i64 x.h, .int .i64 y.id, .int .i64 y.sps, .bool y.cab, .int .i64 y.refs, .int .i64 y.refs1, .int .i64 y.qp, .int .i64 y.qs, .int .i64 y.ch, .bool y.deb, .bool y.intra, .int .i64 id] : Array Value).all (·.oneCell') = true := by
  rw [Array.all_eq_true_iff_forall_mem]
  intro v hv
  simp only [List.mem_toArray, List.mem_cons, List.not_mem_nil, or_false] at hv
  rcases hv with rfl | rfl | rfl | rfl | rfl | rfl | rfl | rfl | rfl | rfl | rfl | rfl | rfl | rfl | rfl | rfl | rfl | rfl | rfl | rfl | rfl <;> rfl
theorem act_info : (Try.prog.info? 51).map (·.size) = some 21 := by kernel_rfl
theorem wpList_store_new {P : Program} {ops : Array Oper} {rest : List Oper} {op : Oper} {a : Act} {Q : Exit → Act → World → Prop} (hgd : op.guard = none) (ty : TypeId) (x y : Operand) (ho : op.op = .store ty x y)
    {w : World} {c c' : Array Value} (hx : a.eval x = .pointer (some ⟨w.heap.size, 0, none⟩)) (hy : a.eval y = .agg c')
    (hi : (P.info? ty).map (·.size) = some c'.size) (hs : c.size = c'.size) (h1 : c'.all (·.oneCell') = true)
    (h : wpList P ops Q rest (a.put op.dst undef) (w.alloc (.cells c' ty (0, 0)))) : wpList P ops Q (op :: rest) a (w.alloc (.cells c ty (0, 0))) :=
  wpList_plain hgd fun _ hK => by
    unfold Oper.wp execOp
    simp only [ho, hx, hy, Sem.run_bind, Sem.run_pure, Result.andThen_ok, run_storeAt_new w ty c c' hi hs h1]
    exact hK _ _ h
theorem rputs_as {W w : World} {L : List AObj} {F : List (Nat × Obj)} {b : Nat} {vs vp : Value} {l : List SpsD} (h : Hp W w L F) (k j : Nat) (hkj : k ≠ j) (hk : L[k]? = some (aOb b (rsObj vs vp))) (hj : L[j]? = some (aSl 29 9 vs l.length (l.flatMap scs))) {x : SpsD} (hx : l.length ≤ 1000 ∧ okS x = true) :
    Calls Try.prog 19 #[.pointer (some ⟨b, 0, none⟩), sv x] w fun e w' => e = .returned (.int .i64 0) ∧ ∃ v', Hp W w' ((L.set j (aSl 29 9 v' (l ++ [x]).length ((l ++ [x]).flatMap scs))).set k (aOb b (rsObj v' vp))) F := by
  have := rputs_ok h k j hkj hk hj hx.1 x hx.2
  rw [List.length_append, List.flatMap_append]
  simpa using this
theorem rputp_as {W w : World} {L : List AObj} {F : List (Nat × Obj)} {b : Nat} {vs vp : Value} {l : List PpsD} (h : Hp W w L F) (k j : Nat) (hkj : k ≠ j) (hk : L[k]? = some (aOb b (rsObj vs vp))) (hj : L[j]? = some (aSl 26 10 vp l.length (l.flatMap pcs))) {x : PpsD} (hx : l.length ≤ 1000 ∧ okP x = true) :
    Calls Try.prog 20 #[.pointer (some ⟨b, 0, none⟩), pv x] w fun e w' => e = .returned (.int .i64 0) ∧ ∃ v', Hp W w' ((L.set j (aSl 26 10 v' (l ++ [x]).length ((l ++ [x]).flatMap pcs))).set k (aOb b (rsObj vs v'))) F := by
  have := rputp_ok h k j hkj hk hj hx.1 x hx.2
  rw [List.length_append, List.flatMap_append]
  simpa using this

/-- The fourth object comes first. -/
theorem Hp.rot3 {W w : World} {F : List (Nat × Obj)} {a b c d : AObj} (h : Hp W w [a, b, c, d] F) : Hp W w [d, a, b, c] F := by
  obtain ⟨bl, o, ho, hF, hn, hL⟩ := h
  refine ⟨bl, fun c => match o c with | none => none | some 0 => some 1 | some 1 => some 2 | some 2 => some 3 | some 3 => some 0 | some (i + 4) => some (i + 4), fun c hc => ?_, fun p hp => ?_, hn, fun i z hz => ?_⟩
  · refine ho c (fun e => hc ?_)
    simp only [e]
  · obtain ⟨h1, h2, h3⟩ := hF p hp
    exact ⟨h1, by simp only [h2], h3⟩
  · match i, hz with
    | 0, hz => simp at hz; subst hz; exact d.loc (fun _ _ => rfl) (fun c hc => by simp only [hc]) (hL 3 d rfl)
    | 1, hz => simp at hz; subst hz; exact a.loc (fun _ _ => rfl) (fun c hc => by simp only [hc]) (hL 0 a rfl)
    | 2, hz => simp at hz; subst hz; exact b.loc (fun _ _ => rfl) (fun c hc => by simp only [hc]) (hL 1 b rfl)
    | 3, hz => simp at hz; subst hz; exact c.loc (fun _ _ => rfl) (fun c hc => by simp only [hc]) (hL 2 c rfl)

set_option maxHeartbeats 8000000 in
theorem smatches_walk {W : World} {sp : Option Addr} {n cap b o' : Nat} {C : Nat → List Value} (hin : RowsIn Try.prog W [.int .u8, .int .u8, .int .u8, .int .u8, .int .i64, .int .i64, .int .i64, .int .i64, .int .i64, .int .i64, .int .i64, .int .i64, .bool, .int .i64, .int .i64, .int .i64, .int .i64, .int .i64, .bool, .bool, .int .i64] sp n b o' C) (hn63 : n ≤ 9223372036854775807) :
    Calls Try.prog 5 #[.slice sp n cap] W fun e w' => e = .returned (.bool true) ∧ Below W.heap.size W w' := by
  have hS := Hp.start W
  have HIN := Lib.hid hin
  clear hin
  obtain ⟨f0, hf0⟩ : ∃ f, F0 = f := ⟨_, rfl⟩
  obtain ⟨g0, hg0⟩ : ∃ f, G0 = f := ⟨_, rfl⟩
  have HF0 := Lib.hid hf0
  have HG0 := Lib.hid hg0
  clear hf0 hg0
  go_enter Try.func5, Try.ntmps5
  go_wp2_with (first | (go_at_call 8; (with_reducible refine (setsnew_as (Hp.start W) HF0.out HG0.out).mono ?_); rintro e w1 ⟨sb, m1, m2, rfl, h1⟩) | (go_at_call 18; (with_reducible refine (rnew_any h1).mono ?_); rintro e w2 ⟨rb, rfl, h2⟩; clear h1))
  have h3 : Hp W w2 [aSt sb m1 m2 (lastBy SpsD.id []) (lastBy PpsD.id []), aOb rb (rsObj (.slice none 0 0) (.slice none 0 0)), aSl 29 9 (.slice none 0 0) 0 [], aSl 26 10 (.slice none 0 0) 0 []] [] := by
    have e1 : lastBy SpsD.id [] = f0 := by rw [← HF0.out]; rfl
    have e2 : lastBy PpsD.id [] = g0 := by rw [← HG0.out]; rfl
    rw [e1, e2]
    exact h2.rot3
  have H0 := Lib.hid h3
  clear h2 h3 hS
  go_loopw [5, 3] (fun i' s' wr => ∃ (c sb m1 m2 : Nat) (vs vp : Value) (ls : List SpsD) (lp : List PpsD), i' = .int .i64 c ∧ s' = .pointer (some ⟨sb, 0, none⟩) ∧ (c ≤ n ∧ c ≤ 60) ∧ (ls.length ≤ c ∧ lp.length ≤ c) ∧ Hp W wr [aSt sb m1 m2 (lastBy SpsD.id ls) (lastBy PpsD.id lp), aOb rb (rsObj vs vp), aSl 29 9 vs ls.length (ls.flatMap scs), aSl 26 10 vp lp.length (lp.flatMap pcs)] []) (fun i' _ _ => n - (intOf i').toNat)
  case atStart => exact ⟨0, sb, m1, m2, _, _, [], [], rfl, rfl, ⟨Nat.zero_le _, Nat.zero_le _⟩, ⟨Nat.le_refl _, Nat.le_refl _⟩, H0.out⟩
  case round =>
    clear H0
    obtain ⟨c, sb, m1, m2, vs, vp, ls, lp, rfl, rfl, ⟨hc1, hc2⟩, hlen, h⟩ := hrel
    by_cases hlt : c < n ∧ c < 60
    · obtain ⟨hlt, h60⟩ := hlt
      obtain ⟨rfl, hblt⟩ := HIN.out.at_ (by omega)
      obtain ⟨k0, z0⟩ := HIN.out.int hlt 0 (k := .u8) rfl
      obtain ⟨k1, z1⟩ := HIN.out.int hlt 1 (k := .u8) rfl
      obtain ⟨k2, z2⟩ := HIN.out.int hlt 2 (k := .u8) rfl
      obtain ⟨k3, z3⟩ := HIN.out.int hlt 3 (k := .u8) rfl
      obtain ⟨k4, z4⟩ := HIN.out.int hlt 4 (k := .i64) rfl
      obtain ⟨k5, z5⟩ := HIN.out.int hlt 5 (k := .i64) rfl
      obtain ⟨k6, z6⟩ := HIN.out.int hlt 6 (k := .i64) rfl
      obtain ⟨k7, z7⟩ := HIN.out.int hlt 7 (k := .i64) rfl
      obtain ⟨k8, z8⟩ := HIN.out.int hlt 8 (k := .i64) rfl
      obtain ⟨k9, z9⟩ := HIN.out.int hlt 9 (k := .i64) rfl
      obtain ⟨k10, z10⟩ := HIN.out.int hlt 10 (k := .i64) rfl
      obtain ⟨k11, z11⟩ := HIN.out.int hlt 11 (k := .i64) rfl
      have k12 := HIN.out.bool hlt 12 rfl
      obtain ⟨k13, z13⟩ := HIN.out.int hlt 13 (k := .i64) rfl
      obtain ⟨k14, z14⟩ := HIN.out.int hlt 14 (k := .i64) rfl
      obtain ⟨k15, z15⟩ := HIN.out.int hlt 15 (k := .i64) rfl
      obtain ⟨k16, z16⟩ := HIN.out.int hlt 16 (k := .i64) rfl
      obtain ⟨k17, z17⟩ := HIN.out.int hlt 17 (k := .i64) rfl
      have k18 := HIN.out.bool hlt 18 rfl
      have k19 := HIN.out.bool hlt 19 rfl
      obtain ⟨k20, z20⟩ := HIN.out.int hlt 20 (k := .i64) rfl
      simp only [List.length_cons, List.length_nil, Nat.zero_add, Nat.reduceAdd, Nat.add_zero] at k0 k1 k2 k3 k4 k5 k6 k7 k8 k9 k10 k11 k12 k13 k14 k15 k16 k17 k18 k19 k20
      have z0 := bounds_u8 z0
      clear z1 z2 z3 z4 z5 z6 z7 z8 z9 z10 z11 z13 z14 z15 z16 z17 z20
      obtain ⟨wh, hwh⟩ : ∃ q : Nat, zat C c 0 = (q : Int) := ⟨(zat C c 0).toNat, by omega⟩
      rw [hwh] at k0 z0
      clear hwh
      obtain ⟨x, hx⟩ : ∃ x : SpsD, x = ⟨zat C c 1, zat C c 2, zat C c 3, zat C c 4, zat C c 5, zat C c 6, zat C c 7, zat C c 8, zat C c 9⟩ := ⟨_, rfl⟩
      obtain ⟨y, hy⟩ : ∃ y : PpsD, y = ⟨zat C c 10, zat C c 11, bat C c 12, zat C c 13, zat C c 14, zat C c 15, zat C c 16, zat C c 17, bat C c 18, bat C c 19⟩ := ⟨_, rfl⟩
      obtain ⟨id, hid⟩ : ∃ i, i = zat C c 20 := ⟨_, rfl⟩
      rw [show zat C c 1 = x.pr by rw [hx]] at k1
      rw [show zat C c 2 = x.fl by rw [hx]] at k2
      rw [show zat C c 3 = x.le by rw [hx]] at k3
      rw [show zat C c 4 = x.id by rw [hx]] at k4
      rw [show zat C c 5 = x.fb by rw [hx]] at k5
      rw [show zat C c 6 = x.pb by rw [hx]] at k6
      rw [show zat C c 7 = x.refs by rw [hx]] at k7
      rw [show zat C c 8 = x.w by rw [hx]] at k8
      rw [show zat C c 9 = x.h by rw [hx]] at k9
      rw [show zat C c 10 = y.id by rw [hy]] at k10
      rw [show zat C c 11 = y.sps by rw [hy]] at k11
      rw [show bat C c 12 = y.cab by rw [hy]] at k12
      rw [show zat C c 13 = y.refs by rw [hy]] at k13
      rw [show zat C c 14 = y.refs1 by rw [hy]] at k14
      rw [show zat C c 15 = y.qp by rw [hy]] at k15
      rw [show zat C c 16 = y.qs by rw [hy]] at k16
      rw [show zat C c 17 = y.ch by rw [hy]] at k17
      rw [show bat C c 18 = y.deb by rw [hy]] at k18
      rw [show bat C c 19 = y.intra by rw [hy]] at k19
      rw [← hid] at k20
      clear hx hy hid
      replace k0 := HIN.out.old hlt k0 h.below
      replace k1 := HIN.out.old hlt k1 h.below
      replace k2 := HIN.out.old hlt k2 h.below
      replace k3 := HIN.out.old hlt k3 h.below
      replace k4 := HIN.out.old hlt k4 h.below
      replace k5 := HIN.out.old hlt k5 h.below
      replace k6 := HIN.out.old hlt k6 h.below
      replace k7 := HIN.out.old hlt k7 h.below
      replace k8 := HIN.out.old hlt k8 h.below
      replace k9 := HIN.out.old hlt k9 h.below
      replace k10 := HIN.out.old hlt k10 h.below
      replace k11 := HIN.out.old hlt k11 h.below
      replace k12 := HIN.out.old hlt k12 h.below
      replace k13 := HIN.out.old hlt k13 h.below
      replace k14 := HIN.out.old hlt k14 h.below
      replace k15 := HIN.out.old hlt k15 h.below
      replace k16 := HIN.out.old hlt k16 h.below
      replace k17 := HIN.out.old hlt k17 h.below
      replace k18 := HIN.out.old hlt k18 h.below
      replace k19 := HIN.out.old hlt k19 h.below
      replace k20 := HIN.out.old hlt k20 h.below
      have hb := h.alloc (actObj wh x y id)
      have HB := Lib.hid hb
      have HLEN := Lib.hid hlen
      have HRG := Lib.hid (act_range k0 k1 k2 k3 k4 k5 k6 k7 k8 k9 k10 k11 k12 k13 k14 k15 k16 k17 k18 k19 k20)
      clear hb h k0 k1 k2 k3 k4 k5 k6 k7 k8 k9 k10 k11 k12 k13 k14 k15 k16 k17 k18 k19 k20
      have e60 : (c : Int) < 60 := by omega
      have HLN : Hid (ls.length ≤ 1000 ∧ lp.length ≤ 1000) := Lib.hid (by omega)
      have KX : Hid (∀ {w' : World} {L' : List AObj}, Hp W w' L' [(wr.heap.size, actObj wh x y id)] → w'.cell? ⟨wr.heap.size, 1, none⟩ = some (.int .u8 x.pr) ∧ w'.cell? ⟨wr.heap.size, 2, none⟩ = some (.int .u8 x.fl) ∧ w'.cell? ⟨wr.heap.size, 3, none⟩ = some (.int .u8 x.le) ∧ w'.cell? ⟨wr.heap.size, 4, none⟩ = some (.int .i64 x.id) ∧ w'.cell? ⟨wr.heap.size, 5, none⟩ = some (.int .i64 x.fb) ∧ w'.cell? ⟨wr.heap.size, 6, none⟩ = some (.int .i64 x.pb) ∧ w'.cell? ⟨wr.heap.size, 7, none⟩ = some (.int .i64 x.refs) ∧ w'.cell? ⟨wr.heap.size, 8, none⟩ = some (.int .i64 x.w) ∧ w'.cell? ⟨wr.heap.size, 9, none⟩ = some (.int .i64 x.h)) := Lib.hid fun h => by
        obtain ⟨c0, c1, c2, c3, c4, c5, c6, c7, c8, c9, c10, c11, c12, c13, c14, c15, c16, c17, c18, c19, c20⟩ := act_cells (h.blk (List.mem_cons_self ..))
        exact ⟨c1, c2, c3, c4, c5, c6, c7, c8, c9⟩
      have KY : Hid (∀ {w' : World} {L' : List AObj}, Hp W w' L' [(wr.heap.size, actObj wh x y id)] → w'.cell? ⟨wr.heap.size, 10, none⟩ = some (.int .i64 y.id) ∧ w'.cell? ⟨wr.heap.size, 11, none⟩ = some (.int .i64 y.sps) ∧ w'.cell? ⟨wr.heap.size, 12, none⟩ = some (.bool y.cab) ∧ w'.cell? ⟨wr.heap.size, 13, none⟩ = some (.int .i64 y.refs) ∧ w'.cell? ⟨wr.heap.size, 14, none⟩ = some (.int .i64 y.refs1) ∧ w'.cell? ⟨wr.heap.size, 15, none⟩ = some (.int .i64 y.qp) ∧ w'.cell? ⟨wr.heap.size, 16, none⟩ = some (.int .i64 y.qs) ∧ w'.cell? ⟨wr.heap.size, 17, none⟩ = some (.int .i64 y.ch) ∧ w'.cell? ⟨wr.heap.size, 18, none⟩ = some (.bool y.deb) ∧ w'.cell? ⟨wr.heap.size, 19, none⟩ = some (.bool y.intra)) := Lib.hid fun h => by
        obtain ⟨c0, c1, c2, c3, c4, c5, c6, c7, c8, c9, c10, c11, c12, c13, c14, c15, c16, c17, c18, c19, c20⟩ := act_cells (h.blk (List.mem_cons_self ..))
        exact ⟨c10, c11, c12, c13, c14, c15, c16, c17, c18, c19⟩
      have hw : wh % 4 = 0 ∨ wh % 4 = 1 ∨ wh % 4 = 2 ∨ wh % 4 = 3 := by omega
      rcases hw with hw | hw | hw | hw
      · have hdum := True.intro
        have t0 : (((wh : Int) % 4) == 0) = true := by simp; omega
        by_cases hok : okS x = true
        · have hdum := True.intro
          have HP : Hid (okS x = true ∧ upd (lastBy SpsD.id ls) x.id x = lastBy SpsD.id (ls ++ [x])) := Lib.hid ⟨hok, lastBy_upd _ _ _⟩
          have HQ : Hid (ls.length ≤ 1000 ∧ okS x = true) := Lib.hid ⟨HLN.out.1, hok⟩
          clear hok
          go_wp2_with (first | (refine wpList_load_mid rfl 51 (.tmp 24) rfl b (o' + c * 21) rfl _ _ HRG.out Try.underlying51 rfl act_info ?_) | (refine wpList_store_new rfl 51 (.tmp 6) (.tmp 25) rfl rfl rfl act_info rfl (act_one _ _ _ _) ?_))
          go_region_held3 (fun w' => w'.cell? ⟨wr.heap.size, 1, none⟩ = some (.int .u8 x.pr) ∧ w'.cell? ⟨wr.heap.size, 2, none⟩ = some (.int .u8 x.fl) ∧ w'.cell? ⟨wr.heap.size, 3, none⟩ = some (.int .u8 x.le) ∧ w'.cell? ⟨wr.heap.size, 4, none⟩ = some (.int .i64 x.id) ∧ w'.cell? ⟨wr.heap.size, 5, none⟩ = some (.int .i64 x.fb) ∧ w'.cell? ⟨wr.heap.size, 6, none⟩ = some (.int .i64 x.pb) ∧ w'.cell? ⟨wr.heap.size, 7, none⟩ = some (.int .i64 x.refs) ∧ w'.cell? ⟨wr.heap.size, 8, none⟩ = some (.int .i64 x.w) ∧ w'.cell? ⟨wr.heap.size, 9, none⟩ = some (.int .i64 x.h)) (first | exact KX.out (by assumption) | go_keep) (first | (go_at_call 15; (with_reducible refine (puts_as HB.out.drew 0 at0 HP.out).mono ?_); rintro e w3 ⟨rfl, g1⟩; simp only [set0] at g1) | (go_at_call 19; (with_reducible refine (rputs_as g1 1 2 (by decide) at1 at2 HQ.out).mono ?_); rintro e w4 ⟨rfl, v', g2⟩; simp only [set1, set2] at g2))
          have HLN2 : Hid ((ls ++ [x]).length ≤ 1000 ∧ lp.length ≤ 1000) := Lib.hid (by rw [List.length_append]; have := HLEN.out; simp; omega)
          have hpid := (KY.out g2).1
          have g2H := Lib.hid g2
          clear g2
          go_wp2_with (first | (go_at_call 21; (with_reducible refine (gets_any g2H.out 0 1 2 3 ⟨at0, at1, at2, at3⟩ HLN2.out _).mono ?_); rintro e w7 ⟨rfl, q1⟩) | (go_at_call 21; (with_reducible refine (gets_any q1 0 1 2 3 ⟨at0, at1, at2, at3⟩ HLN2.out _).mono ?_); rintro e w8 ⟨rfl, q2⟩; clear q1))
          go_roundw
          case rel => exact ⟨c + 1, sb, m1, m2, v', vp, (ls ++ [x]), lp, by go_num, rfl, ⟨by omega, by omega⟩, ⟨by rw [List.length_append]; have := HLEN.out.1; simp; omega, by have := HLEN.out; omega⟩, q2.drop⟩
          case measure => simp [intOf]; omega
        · have hdum := True.intro
          have HP : Hid (okS x = false) := Lib.hid (by simpa using hok)
          clear hok
          go_wp2_with (first | (refine wpList_load_mid rfl 51 (.tmp 24) rfl b (o' + c * 21) rfl _ _ HRG.out Try.underlying51 rfl act_info ?_) | (refine wpList_store_new rfl 51 (.tmp 6) (.tmp 25) rfl rfl rfl act_info rfl (act_one _ _ _ _) ?_))
          go_region_held3 (fun w' => w'.cell? ⟨wr.heap.size, 1, none⟩ = some (.int .u8 x.pr) ∧ w'.cell? ⟨wr.heap.size, 2, none⟩ = some (.int .u8 x.fl) ∧ w'.cell? ⟨wr.heap.size, 3, none⟩ = some (.int .u8 x.le) ∧ w'.cell? ⟨wr.heap.size, 4, none⟩ = some (.int .i64 x.id) ∧ w'.cell? ⟨wr.heap.size, 5, none⟩ = some (.int .i64 x.fb) ∧ w'.cell? ⟨wr.heap.size, 6, none⟩ = some (.int .i64 x.pb) ∧ w'.cell? ⟨wr.heap.size, 7, none⟩ = some (.int .i64 x.refs) ∧ w'.cell? ⟨wr.heap.size, 8, none⟩ = some (.int .i64 x.w) ∧ w'.cell? ⟨wr.heap.size, 9, none⟩ = some (.int .i64 x.h)) (first | exact KX.out (by assumption) | go_keep) (first | (go_at_call 15; (with_reducible refine (puts_bad HB.out.drew 0 at0 x HP.out).mono ?_); rintro e w3 ⟨rfl, g1⟩) | (go_at_call 19; (with_reducible refine (rputs_bad g1 1 at1 x HP.out).mono ?_); rintro e w4 ⟨rfl, g2⟩))
          have hpid := (KY.out g2).1
          have g2H := Lib.hid g2
          clear g2
          go_wp2_with (first | (go_at_call 21; (with_reducible refine (gets_any g2H.out 0 1 2 3 ⟨at0, at1, at2, at3⟩ HLN.out _).mono ?_); rintro e w7 ⟨rfl, q1⟩) | (go_at_call 21; (with_reducible refine (gets_any q1 0 1 2 3 ⟨at0, at1, at2, at3⟩ HLN.out _).mono ?_); rintro e w8 ⟨rfl, q2⟩; clear q1))
          go_roundw
          case rel => exact ⟨c + 1, sb, m1, m2, vs, vp, ls, lp, by go_num, rfl, ⟨by omega, by omega⟩, ⟨by have := HLEN.out; omega, by have := HLEN.out; omega⟩, q2.drop⟩
          case measure => simp [intOf]; omega
      · have hdum := True.intro
        have t0 : (((wh : Int) % 4) == 0) = false := by simp; omega
        have t1 : (((wh : Int) % 4) == 1) = true := by simp; omega
        by_cases hok : okP y = true
        · have hdum := True.intro
          have HP : Hid (okP y = true ∧ upd (lastBy PpsD.id lp) y.id y = lastBy PpsD.id (lp ++ [y])) := Lib.hid ⟨hok, lastBy_upd _ _ _⟩
          have HQ : Hid (lp.length ≤ 1000 ∧ okP y = true) := Lib.hid ⟨HLN.out.2, hok⟩
          clear hok
          go_wp2_with (first | (refine wpList_load_mid rfl 51 (.tmp 24) rfl b (o' + c * 21) rfl _ _ HRG.out Try.underlying51 rfl act_info ?_) | (refine wpList_store_new rfl 51 (.tmp 6) (.tmp 25) rfl rfl rfl act_info rfl (act_one _ _ _ _) ?_))
          go_region_held3 (fun w' => w'.cell? ⟨wr.heap.size, 10, none⟩ = some (.int .i64 y.id) ∧ w'.cell? ⟨wr.heap.size, 11, none⟩ = some (.int .i64 y.sps) ∧ w'.cell? ⟨wr.heap.size, 12, none⟩ = some (.bool y.cab) ∧ w'.cell? ⟨wr.heap.size, 13, none⟩ = some (.int .i64 y.refs) ∧ w'.cell? ⟨wr.heap.size, 14, none⟩ = some (.int .i64 y.refs1) ∧ w'.cell? ⟨wr.heap.size, 15, none⟩ = some (.int .i64 y.qp) ∧ w'.cell? ⟨wr.heap.size, 16, none⟩ = some (.int .i64 y.qs) ∧ w'.cell? ⟨wr.heap.size, 17, none⟩ = some (.int .i64 y.ch) ∧ w'.cell? ⟨wr.heap.size, 18, none⟩ = some (.bool y.deb) ∧ w'.cell? ⟨wr.heap.size, 19, none⟩ = some (.bool y.intra)) (first | exact KY.out (by assumption) | go_keep) (first | (go_at_call 16; (with_reducible refine (putp_as HB.out.drew 0 at0 HP.out).mono ?_); rintro e w3 ⟨rfl, g1⟩; simp only [set0] at g1) | (go_at_call 20; (with_reducible refine (rputp_as g1 1 3 (by decide) at1 at3 HQ.out).mono ?_); rintro e w4 ⟨rfl, v', g2⟩; simp only [set1, set3] at g2))
          have HLN2 : Hid (ls.length ≤ 1000 ∧ (lp ++ [y]).length ≤ 1000) := Lib.hid (by rw [List.length_append]; have := HLEN.out; simp; omega)
          have hpid := (KY.out g2).1
          have g2H := Lib.hid g2
          clear g2
          go_wp2_with (first | (go_at_call 21; (with_reducible refine (gets_any g2H.out 0 1 2 3 ⟨at0, at1, at2, at3⟩ HLN2.out _).mono ?_); rintro e w7 ⟨rfl, q1⟩) | (go_at_call 21; (with_reducible refine (gets_any q1 0 1 2 3 ⟨at0, at1, at2, at3⟩ HLN2.out _).mono ?_); rintro e w8 ⟨rfl, q2⟩; clear q1))
          go_roundw
          case rel => exact ⟨c + 1, sb, m1, m2, vs, v', ls, (lp ++ [y]), by go_num, rfl, ⟨by omega, by omega⟩, ⟨by have := HLEN.out; omega, by rw [List.length_append]; have := HLEN.out.2; simp; omega⟩, q2.drop⟩
          case measure => simp [intOf]; omega
        · have hdum := True.intro
          have HP : Hid (okP y = false) := Lib.hid (by simpa using hok)
          clear hok
          go_wp2_with (first | (refine wpList_load_mid rfl 51 (.tmp 24) rfl b (o' + c * 21) rfl _ _ HRG.out Try.underlying51 rfl act_info ?_) | (refine wpList_store_new rfl 51 (.tmp 6) (.tmp 25) rfl rfl rfl act_info rfl (act_one _ _ _ _) ?_))
          go_region_held3 (fun w' => w'.cell? ⟨wr.heap.size, 10, none⟩ = some (.int .i64 y.id) ∧ w'.cell? ⟨wr.heap.size, 11, none⟩ = some (.int .i64 y.sps) ∧ w'.cell? ⟨wr.heap.size, 12, none⟩ = some (.bool y.cab) ∧ w'.cell? ⟨wr.heap.size, 13, none⟩ = some (.int .i64 y.refs) ∧ w'.cell? ⟨wr.heap.size, 14, none⟩ = some (.int .i64 y.refs1) ∧ w'.cell? ⟨wr.heap.size, 15, none⟩ = some (.int .i64 y.qp) ∧ w'.cell? ⟨wr.heap.size, 16, none⟩ = some (.int .i64 y.qs) ∧ w'.cell? ⟨wr.heap.size, 17, none⟩ = some (.int .i64 y.ch) ∧ w'.cell? ⟨wr.heap.size, 18, none⟩ = some (.bool y.deb) ∧ w'.cell? ⟨wr.heap.size, 19, none⟩ = some (.bool y.intra)) (first | exact KY.out (by assumption) | go_keep) (first | (go_at_call 16; (with_reducible refine (putp_bad HB.out.drew 0 at0 y HP.out).mono ?_); rintro e w3 ⟨rfl, g1⟩) | (go_at_call 20; (with_reducible refine (rputp_bad g1 1 at1 y HP.out).mono ?_); rintro e w4 ⟨rfl, g2⟩))
          have hpid := (KY.out g2).1
          have g2H := Lib.hid g2
          clear g2
          go_wp2_with (first | (go_at_call 21; (with_reducible refine (gets_any g2H.out 0 1 2 3 ⟨at0, at1, at2, at3⟩ HLN.out _).mono ?_); rintro e w7 ⟨rfl, q1⟩) | (go_at_call 21; (with_reducible refine (gets_any q1 0 1 2 3 ⟨at0, at1, at2, at3⟩ HLN.out _).mono ?_); rintro e w8 ⟨rfl, q2⟩; clear q1))
          go_roundw
          case rel => exact ⟨c + 1, sb, m1, m2, vs, vp, ls, lp, by go_num, rfl, ⟨by omega, by omega⟩, ⟨by have := HLEN.out; omega, by have := HLEN.out; omega⟩, q2.drop⟩
          case measure => simp [intOf]; omega
      · have hdum := True.intro
        have t0 : (((wh : Int) % 4) == 0) = false := by simp; omega
        have t1 : (((wh : Int) % 4) == 1) = false := by simp; omega
        have t2 : (((wh : Int) % 4) == 2) = true := by simp; omega
        go_wp2_with (first | (refine wpList_load_mid rfl 51 (.tmp 24) rfl b (o' + c * 21) rfl _ _ HRG.out Try.underlying51 rfl act_info ?_) | (refine wpList_store_new rfl 51 (.tmp 6) (.tmp 25) rfl rfl rfl act_info rfl (act_one _ _ _ _) ?_) | (go_at_call 21; (with_reducible refine (gets_any HB.out 0 1 2 3 ⟨at0, at1, at2, at3⟩ HLN.out _).mono ?_); rintro e w3 ⟨rfl, g1⟩; have hpid := (KY.out g1).1) | (go_at_call 21; (with_reducible refine (gets_any g1 0 1 2 3 ⟨at0, at1, at2, at3⟩ HLN.out _).mono ?_); rintro e w7 ⟨rfl, q1⟩; clear g1) | (go_at_call 21; (with_reducible refine (gets_any q1 0 1 2 3 ⟨at0, at1, at2, at3⟩ HLN.out _).mono ?_); rintro e w8 ⟨rfl, q2⟩; clear q1))
        go_roundw
        case rel => exact ⟨c + 1, sb, m1, m2, vs, vp, ls, lp, by go_num, rfl, ⟨by omega, by omega⟩, ⟨by have := HLEN.out; omega, by have := HLEN.out; omega⟩, q2.drop⟩
        case measure => simp [intOf]; omega
      · have hdum := True.intro
        have t0 : (((wh : Int) % 4) == 0) = false := by simp; omega
        have t1 : (((wh : Int) % 4) == 1) = false := by simp; omega
        have t2 : (((wh : Int) % 4) == 2) = false := by simp; omega
        have PS : Hid (okS plS = true) := Lib.hid (by decide)
        have PP : Hid (okP plP = true) := Lib.hid (by decide)
        go_wp2_with (first | (refine wpList_load_mid rfl 51 (.tmp 24) rfl b (o' + c * 21) rfl _ _ HRG.out Try.underlying51 rfl act_info ?_) | (refine wpList_store_new rfl 51 (.tmp 6) (.tmp 25) rfl rfl rfl act_info rfl (act_one _ _ _ _) ?_) | (go_at_call 22; (with_reducible refine (scopy_any HB.out 0 at0).mono ?_); rintro e w3 ⟨tb, x1, x2, rfl, g1⟩) | (go_at_call 23; (with_reducible refine (plain_s _).mono ?_); rintro e w4 ⟨rfl, hbl⟩; have g2 := g1.same hbl; clear g1 hbl) | (go_at_call 15; (with_reducible refine (puts_ok g2 1 at1 plS PS.out).mono ?_); rintro e w5 ⟨rfl, g3⟩; simp only [set1] at g3; clear g2) | (go_at_call 24; (with_reducible refine (plain_p _).mono ?_); rintro e w4 ⟨rfl, hbl⟩; have g4 := g3.same hbl; clear g3 hbl) | (go_at_call 16; (with_reducible refine (putp_ok g4 1 at1 plP PP.out).mono ?_); rintro e w5 ⟨rfl, g5⟩; simp only [set1] at g5; clear g4; have g6 := g5.second; clear g5; have hpid := (KY.out g6).1) | (go_at_call 21; (with_reducible refine (gets_any g6 0 1 2 3 ⟨at0, at1, at2, at3⟩ HLN.out _).mono ?_); rintro e w7 ⟨rfl, q1⟩; clear g6) | (go_at_call 21; (with_reducible refine (gets_any q1 0 1 2 3 ⟨at0, at1, at2, at3⟩ HLN.out _).mono ?_); rintro e w8 ⟨rfl, q2⟩; clear q1))
        go_roundw
        case rel => exact ⟨c + 1, tb, x1, x2, vs, vp, ls, lp, by go_num, rfl, ⟨by omega, by omega⟩, ⟨by have := HLEN.out; omega, by have := HLEN.out; omega⟩, q2.drop⟩
        case measure => simp [intOf]; omega
    · have H := Lib.hid h
      clear h
      by_cases hcn : c < n
      · have h60 : ¬ (c : Int) < 60 := by omega
        go_wp2_with (first | (go_at_call 14; (with_reducible refine (awake_any H.out).mono ?_); rintro e w5 ⟨rfl, g1⟩))
        exact bodyPost_ret (results_tmp rfl _ _ _) rfl ⟨rfl, g1.below⟩
      · have hcn' : ¬ (c : Int) < (n : Int) := by omega
        go_wp2_with (first | (go_at_call 14; (with_reducible refine (awake_any H.out).mono ?_); rintro e w5 ⟨rfl, g1⟩))
        exact bodyPost_ret (results_tmp rfl _ _ _) rfl ⟨rfl, g1.below⟩

end Go.Proofs.Ytakpafmhdgnlmaa
