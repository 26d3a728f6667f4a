/- The program's store: put. -/
import Derived.Test.YtakpafmhdgnlmaaSt
import Derived.StillTailTactics
import Derived.Deep.RegionHeld3
namespace Go.Proofs.Ytakpafmhdgnlmaa
open Go.RowKit
set_option linter.unusedVariables false
set_option maxRecDepth 100000
set_option linter.unusedSimpArgs false

@[reducible] def sObj (x : SpsD) : Obj := .cells #[.int .u8 x.pr, .int .u8 x.fl, .int .u8 x.le, .int .i64 x.id, .int .i64 x.fb, .int .i64 x.pb, .int .i64 x.refs, .int .i64 x.w, .int .i64 x.h] 29 (0, 0)
theorem s_cells {w : World} {b : Nat} {x : SpsD} (h : w.heap[b]? = some (sObj x)) : w.cell? ⟨b, 0, none⟩ = some (.int .u8 x.pr) ∧ w.cell? ⟨b, 1, none⟩ = some (.int .u8 x.fl) ∧ w.cell? ⟨b, 2, none⟩ = some (.int .u8 x.le) ∧ w.cell? ⟨b, 3, none⟩ = some (.int .i64 x.id) ∧ w.cell? ⟨b, 4, none⟩ = some (.int .i64 x.fb) ∧ w.cell? ⟨b, 5, none⟩ = some (.int .i64 x.pb) ∧ w.cell? ⟨b, 6, none⟩ = some (.int .i64 x.refs) ∧ w.cell? ⟨b, 7, none⟩ = some (.int .i64 x.w) ∧ w.cell? ⟨b, 8, none⟩ = some (.int .i64 x.h) := by
  simp [World.cell?, h, sObj]

theorem kput_s {W w : World} {L : List AObj} {F : List (Nat × Obj)} {b m1 m2 : Nat} {f : Int → Option SpsD} {g : Int → Option PpsD} (h : Hp W w L F) (k : Nat) (hk : L[k]? = some (aSt b m1 m2 f g)) (id : Int) (x : SpsD) :
    Calls Try.prog 26 #[.pointer (some ⟨b, 0, none⟩), .int .i64 id, sv x] w fun e w' => e = .returned (.tuple #[]) ∧ Hp W w' (L.set k (aSt b m1 m2 (upd f id x) g)) F := by
  have hb := h.alloc (sObj x)
  obtain ⟨⟨c0, c1⟩, -, -⟩ := hb.st k hk
  obtain ⟨w2, e2, h2⟩ := hb.drew.put_s k hk id x
  obtain ⟨s0, s1, s2, s3, s4, s5, s6, s7, s8⟩ := s_cells (hb.blk (List.mem_cons_self ..))
  have H2 := Lib.hid h2
  unfold sObj at c0 c1 s0 s1 s2 s3 s4 s5 s6 s7 s8 e2
  clear h hb h2
  go_enter Try.func26, Try.ntmps26
  go_wp2_with (fail)
  generalize w.alloc (.cells #[.int .u8 x.pr, .int .u8 x.fl, .int .u8 x.le, .int .i64 x.id, .int .i64 x.fb, .int .i64 x.pb, .int .i64 x.refs, .int .i64 x.w, .int .i64 x.h] 29 (0, 0)) = w1 at c0 c1 s0 s1 s2 s3 s4 s5 s6 s7 s8 e2 ⊢
  go_still_tail 6, (by kernel_rfl)
  change wpList _ _ _ _ _ w1.drew
  go_wp2_with (fail)
  exact bodyPost_end (results_none rfl _ _ _) rfl ⟨rfl, H2.out.drop⟩

theorem puts_ok {W w : World} {L : List AObj} {F : List (Nat × Obj)} {b m1 m2 : Nat} {f : Int → Option SpsD} {g : Int → Option PpsD} (h : Hp W w L F) (k : Nat) (hk : L[k]? = some (aSt b m1 m2 f g)) (x : SpsD) (hx : okS x = true) :
    Calls Try.prog 15 #[.pointer (some ⟨b, 0, none⟩), sv x] w fun e w' => e = .returned (.int .i64 0) ∧ Hp W w' (L.set k (aSt b m1 m2 (upd f x.id x) g)) F := by
  have hb := h.alloc (sObj x)
  obtain ⟨s0, s1, s2, s3, s4, s5, s6, s7, s8⟩ := s_cells (hb.blk (List.mem_cons_self ..))
  have hc : ∀ w, Calls Try.prog 25 #[sv x] w fun e w' => e = .returned (.int .i64 0) ∧ Below w.heap.size w w' := fun w => by have := scheck_any x w; rwa [hx] at this
  have HB := Lib.hid hb
  have HC := Lib.hid hc
  have HK := Lib.hid hk
  unfold sObj at s0 s1 s2 s3 s4 s5 s6 s7 s8
  clear h hb hx hc hk
  go_enter Try.func15, Try.ntmps15
  go_wp2_with (first | (go_at_call 25; (with_reducible refine (HC.out _).mono ?_); rintro e w1 ⟨rfl, hbl⟩; have h1 := HB.out.same hbl))
  obtain ⟨t0, t1, t2, t3, t4, t5, t6, t7, t8⟩ := s_cells (h1.blk (List.mem_cons_self ..))
  have H1 := Lib.hid h1
  clear h1
  go_region_held3 (fun w' => w'.cell? ⟨w.heap.size, 0, none⟩ = some (.int .u8 x.pr) ∧ w'.cell? ⟨w.heap.size, 1, none⟩ = some (.int .u8 x.fl) ∧ w'.cell? ⟨w.heap.size, 2, none⟩ = some (.int .u8 x.le) ∧ w'.cell? ⟨w.heap.size, 3, none⟩ = some (.int .i64 x.id) ∧ w'.cell? ⟨w.heap.size, 4, none⟩ = some (.int .i64 x.fb) ∧ w'.cell? ⟨w.heap.size, 5, none⟩ = some (.int .i64 x.pb) ∧ w'.cell? ⟨w.heap.size, 6, none⟩ = some (.int .i64 x.refs) ∧ w'.cell? ⟨w.heap.size, 7, none⟩ = some (.int .i64 x.w) ∧ w'.cell? ⟨w.heap.size, 8, none⟩ = some (.int .i64 x.h)) (first | exact s_cells (Hp.blk (by assumption) (List.mem_cons_self ..)) | go_keep) (first | (go_at_call 26; (with_reducible refine (kput_s H1.out.drew k HK.out x.id x).mono ?_); rintro e w2 ⟨rfl, h2⟩))
  go_wp2_with (fail)
  exact bodyPost_ret (results_tmp rfl _ _ _) rfl ⟨rfl, h2.drop⟩

theorem puts_bad {W w : World} {L : List AObj} {F : List (Nat × Obj)} {b m1 m2 : Nat} {f : Int → Option SpsD} {g : Int → Option PpsD} (h : Hp W w L F) (k : Nat) (hk : L[k]? = some (aSt b m1 m2 f g)) (x : SpsD) (hx : okS x = false) :
    Calls Try.prog 15 #[.pointer (some ⟨b, 0, none⟩), sv x] w fun e w' => e = .returned (.int .i64 3) ∧ Hp W w' L F := by
  have hb := h.alloc (sObj x)
  obtain ⟨s0, s1, s2, s3, s4, s5, s6, s7, s8⟩ := s_cells (hb.blk (List.mem_cons_self ..))
  have hc : ∀ w, Calls Try.prog 25 #[sv x] w fun e w' => e = .returned (.int .i64 3) ∧ Below w.heap.size w w' := fun w => by have := scheck_any x w; rwa [hx] at this
  have HB := Lib.hid hb
  have HC := Lib.hid hc
  have HK := Lib.hid hk
  unfold sObj at s0 s1 s2 s3 s4 s5 s6 s7 s8
  clear h hb hx hc hk
  go_enter Try.func15, Try.ntmps15
  go_wp2_with (first | (go_at_call 25; (with_reducible refine (HC.out _).mono ?_); rintro e w1 ⟨rfl, hbl⟩; have h1 := HB.out.same hbl))
  exact bodyPost_ret (results_tmp rfl _ _ _) rfl ⟨rfl, h1.drop⟩
@[reducible] def pObj (x : PpsD) : Obj := .cells #[.int .i64 x.id, .int .i64 x.sps, .bool x.cab, .int .i64 x.refs, .int .i64 x.refs1, .int .i64 x.qp, .int .i64 x.qs, .int .i64 x.ch, .bool x.deb, .bool x.intra] 26 (0, 0)
theorem p_cells {w : World} {b : Nat} {x : PpsD} (h : w.heap[b]? = some (pObj x)) : w.cell? ⟨b, 0, none⟩ = some (.int .i64 x.id) ∧ w.cell? ⟨b, 1, none⟩ = some (.int .i64 x.sps) ∧ w.cell? ⟨b, 2, none⟩ = some (.bool x.cab) ∧ w.cell? ⟨b, 3, none⟩ = some (.int .i64 x.refs) ∧ w.cell? ⟨b, 4, none⟩ = some (.int .i64 x.refs1) ∧ w.cell? ⟨b, 5, none⟩ = some (.int .i64 x.qp) ∧ w.cell? ⟨b, 6, none⟩ = some (.int .i64 x.qs) ∧ w.cell? ⟨b, 7, none⟩ = some (.int .i64 x.ch) ∧ w.cell? ⟨b, 8, none⟩ = some (.bool x.deb) ∧ w.cell? ⟨b, 9, none⟩ = some (.bool x.intra) := by
  simp [World.cell?, h, pObj]

theorem kput_p {W w : World} {L : List AObj} {F : List (Nat × Obj)} {b m1 m2 : Nat} {f : Int → Option SpsD} {g : Int → Option PpsD} (h : Hp W w L F) (k : Nat) (hk : L[k]? = some (aSt b m1 m2 f g)) (id : Int) (x : PpsD) :
    Calls Try.prog 28 #[.pointer (some ⟨b, 1, none⟩), .int .i64 id, pv x] w fun e w' => e = .returned (.tuple #[]) ∧ Hp W w' (L.set k (aSt b m1 m2 f (upd g id x))) F := by
  have hb := h.alloc (pObj x)
  obtain ⟨⟨c0, c1⟩, -, -⟩ := hb.st k hk
  obtain ⟨w2, e2, h2⟩ := hb.drew.put_p k hk id x
  obtain ⟨s0, s1, s2, s3, s4, s5, s6, s7, s8, s9⟩ := p_cells (hb.blk (List.mem_cons_self ..))
  have H2 := Lib.hid h2
  unfold pObj at c0 c1 s0 s1 s2 s3 s4 s5 s6 s7 s8 s9 e2
  clear h hb h2
  go_enter Try.func28, Try.ntmps28
  go_wp2_with (fail)
  generalize w.alloc (.cells #[.int .i64 x.id, .int .i64 x.sps, .bool x.cab, .int .i64 x.refs, .int .i64 x.refs1, .int .i64 x.qp, .int .i64 x.qs, .int .i64 x.ch, .bool x.deb, .bool x.intra] 26 (0, 0)) = w1 at c0 c1 s0 s1 s2 s3 s4 s5 s6 s7 s8 s9 e2 ⊢
  go_still_tail 6, (by kernel_rfl)
  change wpList _ _ _ _ _ w1.drew
  go_wp2_with (fail)
  exact bodyPost_end (results_none rfl _ _ _) rfl ⟨rfl, H2.out.drop⟩

theorem putp_ok {W w : World} {L : List AObj} {F : List (Nat × Obj)} {b m1 m2 : Nat} {f : Int → Option SpsD} {g : Int → Option PpsD} (h : Hp W w L F) (k : Nat) (hk : L[k]? = some (aSt b m1 m2 f g)) (x : PpsD) (hx : okP x = true) :
    Calls Try.prog 16 #[.pointer (some ⟨b, 0, none⟩), pv x] w fun e w' => e = .returned (.int .i64 0) ∧ Hp W w' (L.set k (aSt b m1 m2 f (upd g x.id x))) F := by
  have hb := h.alloc (pObj x)
  obtain ⟨s0, s1, s2, s3, s4, s5, s6, s7, s8, s9⟩ := p_cells (hb.blk (List.mem_cons_self ..))
  have hc : ∀ w, Calls Try.prog 27 #[pv x] w fun e w' => e = .returned (.int .i64 0) ∧ Below w.heap.size w w' := fun w => by have := pcheck_any x w; rwa [hx] at this
  have HB := Lib.hid hb
  have HC := Lib.hid hc
  have HK := Lib.hid hk
  unfold pObj at s0 s1 s2 s3 s4 s5 s6 s7 s8 s9
  clear h hb hx hc hk
  go_enter Try.func16, Try.ntmps16
  go_wp2_with (first | (go_at_call 27; (with_reducible refine (HC.out _).mono ?_); rintro e w1 ⟨rfl, hbl⟩; have h1 := HB.out.same hbl))
  obtain ⟨t0, t1, t2, t3, t4, t5, t6, t7, t8, t9⟩ := p_cells (h1.blk (List.mem_cons_self ..))
  have H1 := Lib.hid h1
  clear h1
  go_region_held3 (fun w' => w'.cell? ⟨w.heap.size, 0, none⟩ = some (.int .i64 x.id) ∧ w'.cell? ⟨w.heap.size, 1, none⟩ = some (.int .i64 x.sps) ∧ w'.cell? ⟨w.heap.size, 2, none⟩ = some (.bool x.cab) ∧ w'.cell? ⟨w.heap.size, 3, none⟩ = some (.int .i64 x.refs) ∧ w'.cell? ⟨w.heap.size, 4, none⟩ = some (.int .i64 x.refs1) ∧ w'.cell? ⟨w.heap.size, 5, none⟩ = some (.int .i64 x.qp) ∧ w'.cell? ⟨w.heap.size, 6, none⟩ = some (.int .i64 x.qs) ∧ w'.cell? ⟨w.heap.size, 7, none⟩ = some (.int .i64 x.ch) ∧ w'.cell? ⟨w.heap.size, 8, none⟩ = some (.bool x.deb) ∧ w'.cell? ⟨w.heap.size, 9, none⟩ = some (.bool x.intra)) (first | exact p_cells (Hp.blk (by assumption) (List.mem_cons_self ..)) | go_keep) (first | (go_at_call 28; (with_reducible refine (kput_p H1.out.drew k HK.out x.id x).mono ?_); rintro e w2 ⟨rfl, h2⟩))
  go_wp2_with (fail)
  exact bodyPost_ret (results_tmp rfl _ _ _) rfl ⟨rfl, h2.drop⟩

theorem putp_bad {W w : World} {L : List AObj} {F : List (Nat × Obj)} {b m1 m2 : Nat} {f : Int → Option SpsD} {g : Int → Option PpsD} (h : Hp W w L F) (k : Nat) (hk : L[k]? = some (aSt b m1 m2 f g)) (x : PpsD) (hx : okP x = false) :
    Calls Try.prog 16 #[.pointer (some ⟨b, 0, none⟩), pv x] w fun e w' => e = .returned (.int .i64 3) ∧ Hp W w' L F := by
  have hb := h.alloc (pObj x)
  obtain ⟨s0, s1, s2, s3, s4, s5, s6, s7, s8, s9⟩ := p_cells (hb.blk (List.mem_cons_self ..))
  have hc : ∀ w, Calls Try.prog 27 #[pv x] w fun e w' => e = .returned (.int .i64 3) ∧ Below w.heap.size w w' := fun w => by have := pcheck_any x w; rwa [hx] at this
  have HB := Lib.hid hb
  have HC := Lib.hid hc
  have HK := Lib.hid hk
  unfold pObj at s0 s1 s2 s3 s4 s5 s6 s7 s8 s9
  clear h hb hx hc hk
  go_enter Try.func16, Try.ntmps16
  go_wp2_with (first | (go_at_call 27; (with_reducible refine (HC.out _).mono ?_); rintro e w1 ⟨rfl, hbl⟩; have h1 := HB.out.same hbl))
  exact bodyPost_ret (results_tmp rfl _ _ _) rfl ⟨rfl, h1.drop⟩

end Go.Proofs.Ytakpafmhdgnlmaa
