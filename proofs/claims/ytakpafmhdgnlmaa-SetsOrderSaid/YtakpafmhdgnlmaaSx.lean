/- The law's own functions: put, has. -/
import Derived.Test.YtakpafmhdgnlmaaSw
namespace Go.Proofs.Ytakpafmhdgnlmaa
open Go.RowKit
set_option linter.unusedVariables false
set_option maxRecDepth 100000
set_option linter.unusedSimpArgs false

theorem sps_as {id refs : Int} {x : SpsD} (hx : sW id refs = x) (w : World) : Calls Try.prog 12 #[.int .i64 id, .int .i64 refs] w fun e w' => e = .returned (sv x) ∧ Below w.heap.size w w' := by
  subst hx; exact sps_any id refs w
theorem pps_as {id sps : Int} {x : PpsD} (hx : pW id sps = x) (w : World) : Calls Try.prog 11 #[.int .i64 id, .int .i64 sps] w fun e w' => e = .returned (pv x) ∧ Below w.heap.size w w' := by
  subst hx; exact pps_any id sps w

def stS (pb : Bool) (i o : Int) (f : Int → Option SpsD) : Int → Option SpsD := if pb then f else upd f (i % 4) (sW (i % 4) (o % 17))
def stP (pb : Bool) (i o : Int) (g : Int → Option PpsD) : Int → Option PpsD := if pb then upd g (i % 4) (pW (i % 4) (o % 4)) else g
def qObj (pb : Bool) (i o : Int) : Obj := .cells #[.bool pb, .int .i64 i, .int .i64 o] 35 (0, 0)

set_option maxHeartbeats 1000000 in
theorem lawput_any {W w : World} {L : List AObj} {F : List (Nat × Obj)} {b m1 m2 : Nat} {f : Int → Option SpsD} {g : Int → Option PpsD} (h : Hp W w L F) (k : Nat) (hk : L[k]? = some (aSt b m1 m2 f g)) (pb : Bool) (i o : Int) (hi : -9223372036854775808 ≤ i ∧ i < 9223372036854775808) (ho : -9223372036854775808 ≤ o ∧ o < 9223372036854775808) :
    Calls Try.prog 9 #[.pointer (some ⟨b, 0, none⟩), .agg #[.bool pb, .int .i64 i, .int .i64 o]] w fun e w' => e = .returned (.int .i64 0) ∧ Hp W w' (L.set k (aSt b m1 m2 (stS pb i o f) (stP pb i o g))) F := by
  have hb := h.alloc (qObj pb i o)
  obtain ⟨c0, c1, c2, -, -, -⟩ := cells_three (hb.blk (List.mem_cons_self ..))
  have HB := Lib.hid hb
  have HK := Lib.hid hk
  have HI := Lib.hid hi
  have HO := Lib.hid ho
  obtain ⟨y1, hy1⟩ : ∃ y, i % 4 = y := ⟨_, rfl⟩
  have hy : 0 ≤ y1 ∧ y1 ≤ 31 := by omega
  have Y1 := Lib.hid hy1
  have keep : ∀ {w' : World} {L' : List AObj}, Hp W w' L' ((w.heap.size, qObj pb i o) :: F) → w'.cell? ⟨w.heap.size, 1, none⟩ = some (.int .i64 i) ∧ w'.cell? ⟨w.heap.size, 2, none⟩ = some (.int .i64 o) := by
    intro w' L' h'
    obtain ⟨-, k1, k2, -, -, -⟩ := cells_three (h'.blk (List.mem_cons_self ..))
    exact ⟨k1, k2⟩
  have KEEP : Hid (∀ {w' : World} {L' : List AObj}, Hp W w' L' ((w.heap.size, qObj pb i o) :: F) → w'.cell? ⟨w.heap.size, 1, none⟩ = some (.int .i64 i) ∧ w'.cell? ⟨w.heap.size, 2, none⟩ = some (.int .i64 o)) := Lib.hid keep
  unfold qObj at c0 c1 c2
  clear h hk hb keep hi ho
  cases pb with
  | true =>
    have e1 : stS true i o f = f := rfl
    have e2 : stP true i o g = upd g y1 (pW y1 (o % 4)) := by unfold stP; rw [if_pos rfl, hy1]
    rw [e1, e2]
    obtain ⟨y2, hy2⟩ : ∃ y, o % 4 = y := ⟨_, rfl⟩
    have hz : 0 ≤ y2 ∧ y2 ≤ 31 := by omega
    rw [hy2]
    have Y2 := Lib.hid hy2
    have HOK := Lib.hid (okP_W hy hz)
    obtain ⟨x, hx⟩ : ∃ x, pW y1 y2 = x := ⟨_, rfl⟩
    have hxi : x.id = y1 := by rw [← hx]
    rw [hx] at HOK ⊢
    have HX := Lib.hid hx
    have HXI := Lib.hid hxi
    clear hx hxi hy1 hy2 e1 e2 hy hz
    go_enter Try.func9, Try.ntmps9
    go_wp2_with (fail)
    go_region_held3 (fun w' => w'.cell? ⟨w.heap.size, 1, none⟩ = some (.int .i64 i) ∧ w'.cell? ⟨w.heap.size, 2, none⟩ = some (.int .i64 o)) (first | exact KEEP.out (by assumption) | go_keep) (first | (go_at_call 10; (with_reducible refine (smod_as i 4 (by decide) (by decide) HI.out Y1.out _).mono ?_); rintro e w1 ⟨rfl, rfl⟩) | (go_at_call 10; (with_reducible refine (smod_as o 4 (by decide) (by decide) HO.out Y2.out _).mono ?_); rintro e w1 ⟨rfl, rfl⟩) | (go_at_call 11; (with_reducible refine (pps_as HX.out _).mono ?_); rintro e w1 ⟨rfl, hbl⟩; have h1 := HB.out.drew.same hbl) | (go_at_call 16; (with_reducible refine (putp_ok h1 k HK.out x HOK.out).mono ?_); rintro e w2 ⟨rfl, h2⟩; rw [HXI.out] at h2))
    go_wp2_with (fail)
    exact bodyPost_ret (results_tmp rfl _ _ _) rfl ⟨rfl, h2.drop⟩
  | false =>
    have e1 : stP false i o g = g := rfl
    have e2 : stS false i o f = upd f y1 (sW y1 (o % 17)) := by unfold stS; rw [if_neg (by decide), hy1]
    rw [e1, e2]
    obtain ⟨y2, hy2⟩ : ∃ y, o % 17 = y := ⟨_, rfl⟩
    have hz : 0 ≤ y2 ∧ y2 ≤ 16 := by omega
    rw [hy2]
    have Y2 := Lib.hid hy2
    have HOK := Lib.hid (okS_W hy hz)
    obtain ⟨x, hx⟩ : ∃ x, sW y1 y2 = x := ⟨_, rfl⟩
    have hxi : x.id = y1 := by rw [← hx]
    rw [hx] at HOK ⊢
    have HX := Lib.hid hx
    have HXI := Lib.hid hxi
    clear hx hxi hy1 hy2 e1 e2 hy hz
    go_enter Try.func9, Try.ntmps9
    go_wp2_with (fail)
    go_region_held3 (fun w' => w'.cell? ⟨w.heap.size, 1, none⟩ = some (.int .i64 i) ∧ w'.cell? ⟨w.heap.size, 2, none⟩ = some (.int .i64 o)) (first | exact KEEP.out (by assumption) | go_keep) (first | (go_at_call 10; (with_reducible refine (smod_as i 4 (by decide) (by decide) HI.out Y1.out _).mono ?_); rintro e w1 ⟨rfl, rfl⟩) | (go_at_call 10; (with_reducible refine (smod_as o 17 (by decide) (by decide) HO.out Y2.out _).mono ?_); rintro e w1 ⟨rfl, rfl⟩) | (go_at_call 12; (with_reducible refine (sps_as HX.out _).mono ?_); rintro e w1 ⟨rfl, hbl⟩; have h1 := HB.out.drew.same hbl) | (go_at_call 15; (with_reducible refine (puts_ok h1 k HK.out x HOK.out).mono ?_); rintro e w2 ⟨rfl, h2⟩; rw [HXI.out] at h2))
    go_wp2_with (fail)
    exact bodyPost_ret (results_tmp rfl _ _ _) rfl ⟨rfl, h2.drop⟩

theorem get_as {W w : World} {L : List AObj} {F : List (Nat × Obj)} {b m1 m2 : Nat} {f : Int → Option SpsD} {g : Int → Option PpsD} (h : Hp W w L F) (k : Nat) (hk : L[k]? = some (aSt b m1 m2 f g)) (id : Int) {p : PpsD} {q : SpsD} {e0 : Int} (hr : getR f g id = (p, q, e0)) :
    Calls Try.prog 17 #[.pointer (some ⟨b, 0, none⟩), .int .i64 id] w fun e w' => e = .returned (.tuple #[pv p, sv q, .int .i64 e0]) ∧ Hp W w' L F := by
  have := get_any h k hk id
  rw [hr] at this
  exact this

set_option maxHeartbeats 1000000 in
theorem has_any {W w : World} {L : List AObj} {F : List (Nat × Obj)} {b m1 m2 : Nat} {f : Int → Option SpsD} {g : Int → Option PpsD} (h : Hp W w L F) (k : Nat) (hk : L[k]? = some (aSt b m1 m2 f g)) (id : Int) (p : PpsD) (q : SpsD) (want : Int) {res : Bool} (hres : decide (getR f g id = (p, q, want)) = res) :
    Calls Try.prog 13 #[.pointer (some ⟨b, 0, none⟩), .int .i64 id, pv p, sv q, .int .i64 want] w fun e w' => e = .returned (.bool res) ∧ Hp W w' L F := by
  obtain ⟨a, c, e0, hr⟩ : ∃ a c e0, getR f g id = (a, c, e0) := ⟨_, _, _, rfl⟩
  have hR : (decide (a = p) && (decide (c = q) && decide (e0 = want))) = res := by
    rw [← hres, hr, Bool.eq_iff_iff]; simp only [Prod.mk.injEq, Bool.and_eq_true, decide_eq_true_eq]
  have hb := (h.alloc (pObj p)).alloc (sObj q)
  have hsz : (w.alloc (pObj p)).heap.size = w.heap.size + 1 := by simp
  rw [hsz] at hb
  have HR := Lib.hid hr
  have HB := Lib.hid hb
  have HK := Lib.hid hk
  obtain ⟨r1, hr1⟩ : ∃ r, decide (a = p) = r := ⟨_, rfl⟩
  obtain ⟨r2, hr2⟩ : ∃ r, decide (c = q) = r := ⟨_, rfl⟩
  obtain ⟨r3, hr3⟩ : ∃ r, decide (e0 = want) = r := ⟨_, rfl⟩
  have E1 : ∀ w, (Op.equalIn 10000 26 (pv a) (pv p)).run Try.prog w = .ok r1 w := fun w => by rw [← hr1]; exact pps_eq a p w
  have E2 : ∀ w, (Op.equalIn 10000 29 (sv c) (sv q)).run Try.prog w = .ok r2 w := fun w => by rw [← hr2]; exact sps_eq c q w
  have E3 : (e0 == want) = r3 := by rw [← hr3]; rfl
  rw [hr1, hr2, hr3] at hR
  subst hR
  clear h hb hres hr hk hr1 hr2 hr3 hsz
  cases r1 with
  | false =>
    go_enter Try.func13, Try.ntmps13
    go_wp2_with (first | (go_at_call 17; (with_reducible refine (get_as HB.out k HK.out id HR.out).mono ?_); rintro e w1 ⟨rfl, h1⟩; have h2 := (h1.lost (pObj a)).lost (sObj c); obtain ⟨p0, p1, p2, p3, p4, p5, p6, p7, p8, p9⟩ := p_cells (h2.blk (List.mem_cons_of_mem _ (List.mem_cons_self ..))); obtain ⟨q0, q1, q2, q3, q4, q5, q6, q7, q8⟩ := s_cells (h2.blk (List.mem_cons_self ..)); simp only [pObj, sObj] at p0 p1 p2 p3 p4 p5 p6 p7 p8 p9 q0 q1 q2 q3 q4 q5 q6 q7 q8; clear h2))
    exact bodyPost_ret (results_tmp rfl _ _ _) rfl ⟨rfl, ((h1.drop.drop).lost _).lost _⟩
  | true =>
    cases r2 with
    | false =>
      go_enter Try.func13, Try.ntmps13
      go_wp2_with (first | (go_at_call 17; (with_reducible refine (get_as HB.out k HK.out id HR.out).mono ?_); rintro e w1 ⟨rfl, h1⟩; have h2 := (h1.lost (pObj a)).lost (sObj c); obtain ⟨p0, p1, p2, p3, p4, p5, p6, p7, p8, p9⟩ := p_cells (h2.blk (List.mem_cons_of_mem _ (List.mem_cons_self ..))); obtain ⟨q0, q1, q2, q3, q4, q5, q6, q7, q8⟩ := s_cells (h2.blk (List.mem_cons_self ..)); simp only [pObj, sObj] at p0 p1 p2 p3 p4 p5 p6 p7 p8 p9 q0 q1 q2 q3 q4 q5 q6 q7 q8; clear h2))
      exact bodyPost_ret (results_tmp rfl _ _ _) rfl ⟨rfl, ((h1.drop.drop).lost _).lost _⟩
    | true =>
      go_enter Try.func13, Try.ntmps13
      go_wp2_with (first | (go_at_call 17; (with_reducible refine (get_as HB.out k HK.out id HR.out).mono ?_); rintro e w1 ⟨rfl, h1⟩; have h2 := (h1.lost (pObj a)).lost (sObj c); obtain ⟨p0, p1, p2, p3, p4, p5, p6, p7, p8, p9⟩ := p_cells (h2.blk (List.mem_cons_of_mem _ (List.mem_cons_self ..))); obtain ⟨q0, q1, q2, q3, q4, q5, q6, q7, q8⟩ := s_cells (h2.blk (List.mem_cons_self ..)); simp only [pObj, sObj] at p0 p1 p2 p3 p4 p5 p6 p7 p8 p9 q0 q1 q2 q3 q4 q5 q6 q7 q8; clear h2))
      exact bodyPost_ret (results_tmp rfl _ _ _) rfl ⟨rfl, ((h1.drop.drop).lost _).lost _⟩

end Go.Proofs.Ytakpafmhdgnlmaa
