/- gets: both stores return the same. -/
import Derived.Test.YtakpafmhdgnlmaaSi
namespace Go.Proofs.Ytakpafmhdgnlmaa
open Go.RowKit
set_option linter.unusedVariables false
set_option maxRecDepth 100000
set_option linter.unusedSimpArgs false

theorem Hp.second {W w : World} {L : List AObj} {F : List (Nat × Obj)} {x y : AObj} (h : Hp W w (x :: y :: L) F) : Hp W w (x :: L) F := by
  obtain ⟨b, o, ho, hF, hn, hL⟩ := h
  refine ⟨b, fun c => match o c with | none => none | some 0 => some 0 | some 1 => none | some (i + 2) => some (i + 1), fun c hc => ?_, fun p hp => ?_, hn, fun i z hz => ?_⟩
  · refine ho c (fun e => hc ?_)
    simp only [e]
  · obtain ⟨h1, h2, h3⟩ := hF p hp
    exact ⟨h1, by simp only [h2], h3⟩
  · cases i with
    | zero =>
      simp at hz
      subst hz
      exact x.loc (fun _ _ => rfl) (fun c hc => by simp only [hc]) (hL 0 x rfl)
    | succ i =>
      simp at hz
      exact z.loc (fun _ _ => rfl) (fun c hc => by simp only [hc]) (hL (i + 2) z (by simpa using hz))

set_option maxHeartbeats 1000000 in
theorem gets_any {W w : World} {L : List AObj} {F : List (Nat × Obj)} {sb m1 m2 b : Nat} {vs vp : Value} {ls : List SpsD} {lp : List PpsD} (h : Hp W w L F) (a k i j : Nat) (hl : (L[a]? = some (aSt sb m1 m2 (lastBy SpsD.id ls) (lastBy PpsD.id lp))) ∧ L[k]? = some (aOb b (rsObj vs vp)) ∧ L[i]? = some (aSl 29 9 vs ls.length (ls.flatMap scs)) ∧ L[j]? = some (aSl 26 10 vp lp.length (lp.flatMap pcs))) (hn : ls.length ≤ 1000 ∧ lp.length ≤ 1000) (id : Int) :
    Calls Try.prog 21 #[.pointer (some ⟨sb, 0, none⟩), .pointer (some ⟨b, 0, none⟩), .int .i64 id] w fun e w' => e = .returned (.bool true) ∧ Hp W w' L F := by
  obtain ⟨P, Q, E, hr⟩ : ∃ p q e, getR (lastBy SpsD.id ls) (lastBy PpsD.id lp) id = (p, q, e) := ⟨_, _, _, rfl⟩
  have HR := Lib.hid hr
  have HL := Lib.hid hl
  have HN := Lib.hid hn
  have H := Lib.hid h
  have E1 : ∀ w, (Op.equalIn 10000 26 (pv P) (pv P)).run Try.prog w = .ok true w := fun w => by rw [pps_eq, decide_eq_true rfl]
  have E2 : ∀ w, (Op.equalIn 10000 29 (sv Q) (sv Q)).run Try.prog w = .ok true w := fun w => by rw [sps_eq, decide_eq_true rfl]
  clear h hl hn hr
  go_enter Try.func21, Try.ntmps21
  go_wp2_with (first | (go_at_call 17; (with_reducible refine (get_as H.out a HL.out.1 id HR.out).mono ?_); rintro e w1 ⟨rfl, h1⟩; have h2 := (h1.alloc (pObj P)).alloc (sObj Q); have hsz : (w1.alloc (pObj P)).heap.size = w1.heap.size + 1 := (by simp); rw [hsz] at h2; simp only [pObj, sObj] at h2; have H2 := Lib.hid h2; clear h1 h2 hsz) | (go_at_call 31; (with_reducible refine (rget_as H2.out k i j HL.out.2.1 HL.out.2.2.1 HL.out.2.2.2 HN.out id HR.out).mono ?_); rintro e w2 ⟨rfl, h3⟩; have h4 := (h3.lost (pObj P)).lost (sObj Q); obtain ⟨p0, p1, p2, p3, p4, p5, p6, p7, p8, p9⟩ := p_cells (x := P) (h4.blk (List.mem_cons_of_mem _ (List.mem_cons_self ..))); obtain ⟨q0, q1, q2, q3, q4, q5, q6, q7, q8⟩ := s_cells (x := Q) (h4.blk (List.mem_cons_self ..)); simp only [pObj, sObj] at p0 p1 p2 p3 p4 p5 p6 p7 p8 p9 q0 q1 q2 q3 q4 q5 q6 q7 q8; have H4 := Lib.hid h4; clear h3 h4))
  exact bodyPost_ret (results_tmp rfl _ _ _) rfl ⟨rfl, H4.out.drop.drop⟩

end Go.Proofs.Ytakpafmhdgnlmaa
