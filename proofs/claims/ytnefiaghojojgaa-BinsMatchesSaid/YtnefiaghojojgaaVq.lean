/- The reference's may, at, Unary, Cut, Qp. -/
import Derived.Test.YtnefiaghojojgaaVf
namespace Go.Proofs.Ytnefiaghojojgaa
open Go.RowKit Go.Shelf
set_option linter.unusedVariables false
set_option maxRecDepth 100000
set_option linter.unusedSimpArgs false

theorem all_drop (l : List Int) (k : Nat) (hk : k < l.length) : (l.drop k).all okc = (okc (l.getD k 0) && (l.drop (k + 1)).all okc) := by
  rw [List.drop_eq_getElem_cons hk, List.all_cons]
  simp [List.getElem?_eq_getElem hk]
set_option maxHeartbeats 2000000 in
theorem may_any {w : World} {g n c : Nat} {l : List Int} (h : CtxIn w g l) (hn : n = l.length) :
    Calls Try.prog 39 #[.slice (some ⟨g, 0, none⟩) n c] w fun e w' => e = .returned (.bool (l.all okc)) ∧ w = w' := by
  obtain ⟨r, hr⟩ : ∃ r, r = l.all okc := ⟨_, rfl⟩
  rw [← hr]
  have h4 := h.le
  have HN := Lib.hid hn
  have hr0 : Hid (r = (l.drop 0).all okc) := Lib.hid hr
  have hnl : n ≤ 10 := by omega
  have H := Lib.hid h
  clear hr hn h h4
  go_enter Try.func39, Try.ntmps39
  go_wp2
  go_loop [3] (fun i => ∃ k : Nat, k ≤ n ∧ i = .int .i64 k ∧ Hid (r = (l.drop k).all okc)) (fun i => n - (intOf i).toNat)
  case atStart => exact ⟨0, Nat.zero_le _, rfl, hr0⟩
  case round =>
    obtain ⟨k, hk, rfl, HB⟩ := hrel
    by_cases hlt : k < n
    · have hkl : k < l.length := by rw [← HN.out]; exact hlt
      have hc := H.out.cell k hkl
      have e1 := all_drop l k hkl
      generalize l.getD k 0 = z at *
      have E1 := Lib.hid e1
      clear e1 hkl
      by_cases h1 : z < -1
      · have ho : Hid (okc z = false) := Lib.hid (by unfold okc; rw [decide_eq_false (by omega)]; rfl)
        go_wp2
        go_ret
        exact ⟨by rw [HB.out, E1.out, ho.out]; rfl, rfl⟩
      · by_cases h2 : z < 286
        · have ho : Hid (okc z = true) := Lib.hid (by unfold okc; rw [decide_eq_true (by omega), decide_eq_true h2]; rfl)
          go_wp2
          go_round
          case rel => exact ⟨k + 1, by omega, by go_num, Lib.hid (by rw [HB.out, E1.out, ho.out]; rfl)⟩
          case measure => simp [intOf]; omega
        · have ho : Hid (okc z = false) := Lib.hid (by unfold okc; rw [decide_eq_false h2, Bool.and_false])
          go_wp2
          go_ret
          exact ⟨by rw [HB.out, E1.out, ho.out]; rfl, rfl⟩
    · obtain rfl : k = n := by omega
      go_wp2
      go_ret
      exact ⟨by rw [HB.out, HN.out, List.drop_length]; rfl, rfl⟩
theorem at_any (i : Nat) (f s r : Int) (w : World) :
    Calls Try.prog 40 #[.int .i64 i, .int .i64 f, .int .i64 s, .int .i64 r] w fun e w' => e = .returned (.int .i64 (rowAt [f, s, r] i)) ∧ w = w' := by
  obtain ⟨x, hx⟩ : ∃ x, x = rowAt [f, s, r] i := ⟨_, rfl⟩
  rw [← hx]
  by_cases h0 : i = 0
  · have HX : Hid (x = f) := Lib.hid (by rw [hx, h0]; rfl)
    clear hx
    go_enter Try.func40, Try.ntmps40
    go_wp2
    go_ret
    exact ⟨by rw [HX.out]; rfl, rfl⟩
  · by_cases h1 : i = 1
    · have HX : Hid (x = s) := Lib.hid (by rw [hx, h1]; rfl)
      clear hx
      go_enter Try.func40, Try.ntmps40
      go_wp2
      go_ret
      exact ⟨by rw [HX.out]; rfl, rfl⟩
    · have HX : Hid (x = r) := Lib.hid (by rw [hx]; unfold rowAt; rw [show min i ([f, s, r].length - 1) = 2 by simp; omega]; rfl)
      have z0 : ((i : Int) == 0) = false := by simp; omega
      have z1 : ((i : Int) == 1) = false := by simp; omega
      clear hx
      go_enter Try.func40, Try.ntmps40
      go_wp2
      go_ret
      exact ⟨by rw [HX.out]; rfl, rfl⟩

section
variable {W w : World} {L : List AObj} {F : List (Nat × Obj)}
set_option maxHeartbeats 4000000 in
theorem qunary_any (h : Hp W w L F) (v f s r : Int) :
    Calls Try.prog 26 #[.int .i64 v, .int .i64 f, .int .i64 s, .int .i64 r] w fun e w' => ∃ y, e = .returned (.tuple #[y, .int .i64 (unE v f s r)]) ∧ Hp W w' (aBn y (unB v f s r) :: L) F := by
  have H := Lib.hid h
  clear h
  by_cases h1 : 0 ≤ v ∧ v ≤ 1024
  · obtain ⟨h1, h2⟩ := h1
    cases ha : [f, s, r].all okc with
    | true =>
      obtain ⟨V, rfl⟩ : ∃ V : Nat, v = V := ⟨v.toNat, by omega⟩
      have e1 : unE V f s r = 0 := if_pos ⟨h1, h2, ha⟩
      have e2 : unB V f s r = cntB [f, s, r] V true := by unfold unB; rw [if_pos e1]; rfl
      rw [e1, e2, cntB_eq]
      clear e1 e2
      obtain ⟨i0, hi, hz0, hz1, hz2⟩ := bin_info
      have hv := fun (w : World) (g n c : Nat) (h : CtxIn w g [f, s, r]) (hn : n = 3) => (ha ▸ may_any (c := c) h hn : Calls Try.prog 39 #[.slice (some ⟨g, 0, none⟩) n c] w fun e w' => e = .returned (.bool true) ∧ w = w')
      clear ha
      have c1 := ctx_new w [f, s, r] #[.int .i64 f, .int .i64 s, .int .i64 r] 3 rfl (by simp) (by simp)
      have hV : V ≤ 1024 := by omega
      have H0 := Lib.hid ((H.out.lost (.cells #[.int .i64 f, .int .i64 s, .int .i64 r] 3)).sl_nil 27 2)
      clear h1 h2
      go_enter Try.func26, Try.ntmps26
      go_wp2_with (first | (go_at_call 39; (with_reducible refine (hv _ _ 3 _ c1 rfl).mono ?_); rintro e w1 ⟨rfl, rfl⟩))
      go_loopw [10, 11] (fun o i wr => ∃ (k : Nat) (sp : Option Addr) (cap : Nat), k ≤ V ∧ i = .int .i64 k ∧ o = .slice sp k cap ∧ Hp W wr (aSl 27 2 (.slice sp k cap) k (bcs (cntP [f, s, r] k)) :: L) F) (fun _ i _ => V - (intOf i).toNat)
      case atStart => exact ⟨0, none, 0, Nat.zero_le _, rfl, rfl, H0.out⟩
      case round =>
        obtain ⟨k, sp, cap, hk, rfl, rfl, h3⟩ := hrel
        have H3 := Lib.hid h3
        have hat := fun w => at_any k f s r w
        have hsucc := cntP_succ [f, s, r] k
        obtain ⟨x, hx⟩ : ∃ x, x = rowAt [f, s, r] k := ⟨_, rfl⟩
        rw [← hx] at hat hsucc
        have HSU := Lib.hid hsucc
        have HX := Lib.hid hx
        clear h3 hsucc hx
        by_cases hkV : k < V
        · go_wp2_with (first | (go_at_call 40; (with_reducible refine (hat _).mono ?_); rintro e w1 ⟨rfl, rfl⟩) | (at_builtin; refine wpList_append_hp rfl _ _ 22 rfl 27 i0 (bvl (0, 0)) 2 16 Try.underlying22 hi hz0 hz1 hz2 rfl (by decide) (H3.out.lost _) 0 at0 rfl ⟨wr.heap.size, 0, none⟩ 1 1 (bcs [(x, 1)]) rfl rfl ?c1 ?c2 ?c3 ?c4 ?_))
          case c1 => exact bin_new _ _ _ _
          case c2 => exact bcs_one _
          case c3 => unfold maxLen; omega
          case c4 => omega
          intro v2 w2 h4
          try simp only [set0] at h4
          obtain ⟨sp2, cap2, rfl, _, _⟩ := h4.sl_form 0 at0
          go_wp2_with (fail)
          go_roundw
          case rel => exact ⟨k + 1, sp2, cap2, by omega, by go_num, rfl, by rw [HSU.out, bcs_append]; exact h4⟩
          case measure => simp [intOf]; omega
        · obtain rfl : k = V := by omega
          go_wp2_with (first | (go_at_call 40; (with_reducible refine (hat _).mono ?_); rintro e w1 ⟨rfl, rfl⟩) | (at_builtin; refine wpList_append_hp rfl _ _ 22 rfl 27 i0 (bvl (0, 0)) 2 16 Try.underlying22 hi hz0 hz1 hz2 rfl (by decide) (H3.out.lost _) 0 at0 rfl ⟨wr.heap.size, 0, none⟩ 1 1 (bcs [(x, 0)]) rfl rfl ?c1 ?c2 ?c3 ?c4 ?_))
          case c1 => exact bin_new _ _ _ _
          case c2 => exact bcs_one _
          case c3 => unfold maxLen; omega
          case c4 => omega
          intro v2 w2 h4
          try simp only [set0] at h4
          go_wp2_with (fail)
          refine bodyPost_ret (results_tmp2 rfl _ _ _) rfl ⟨v2, rfl, ?_⟩
          rw [← bcs_append] at h4
          have e : k + 1 = (cntP [f, s, r] k ++ [(x, 0)]).length := by rw [List.length_append, cntP_length]; rfl
          rw [e] at h4
          simp only [if_true, ← HX.out]
          exact h4
    | false =>
      have e1 : unE v f s r = 3 := if_neg (by rw [ha]; simp)
      have e2 : unB v f s r = [] := by unfold unB; rw [e1]; rfl
      rw [e1, e2]
      clear e1 e2
      have hv := fun (w : World) (g n c : Nat) (h : CtxIn w g [f, s, r]) (hn : n = 3) => (ha ▸ may_any (c := c) h hn : Calls Try.prog 39 #[.slice (some ⟨g, 0, none⟩) n c] w fun e w' => e = .returned (.bool false) ∧ w = w')
      clear ha
      have c1 := ctx_new w [f, s, r] #[.int .i64 f, .int .i64 s, .int .i64 r] 3 rfl (by simp) (by simp)
      go_enter Try.func26, Try.ntmps26
      go_wp2_with (first | (go_at_call 39; (with_reducible refine (hv _ _ 3 _ c1 rfl).mono ?_); rintro e w1 ⟨rfl, rfl⟩))
      exact bodyPost_ret (results_tmp2 rfl _ _ _) rfl ⟨.slice none 0 0, rfl, (H.out.lost _).sl_nil _ _⟩
  · have e1 : unE v f s r = 3 := if_neg (fun h => h1 ⟨h.1, h.2.1⟩)
    have e2 : unB v f s r = [] := by unfold unB; rw [e1]; rfl
    rw [e1, e2]
    clear e1 e2
    by_cases h2 : v < 0
    · clear h1
      go_enter Try.func26, Try.ntmps26
      go_wp2_with (fail)
      exact bodyPost_ret (results_tmp2 rfl _ _ _) rfl ⟨.slice none 0 0, rfl, H.out.sl_nil _ _⟩
    · have h3 : 1024 < v := by omega
      clear h1
      go_enter Try.func26, Try.ntmps26
      go_wp2_with (fail)
      exact bodyPost_ret (results_tmp2 rfl _ _ _) rfl ⟨.slice none 0 0, rfl, H.out.sl_nil _ _⟩
theorem qunary_as (h : Hp W w L F) {v v' f f' s r : Int} (hv : v' = v) (hf : f' = f) (hE : unE v f s r = 0) {B : List (Int × Int)} {m : Nat} (hB : unB v f s r = B) (hm : B.length = m) :
    Calls Try.prog 26 #[.int .i64 v', .int .i64 f', .int .i64 s, .int .i64 r] w fun e w' => ∃ sp cap, e = .returned (.tuple #[.slice sp m cap, .int .i64 0]) ∧ Hp W w' (aSl 27 2 (.slice sp m cap) B.length (bcs B) :: L) F := by
  subst hv hf hB
  have := qunary_any h v' f' s r
  rw [hE] at this
  refine this.mono ?_
  rintro e w' ⟨y, rfl, h'⟩
  obtain ⟨sp, cap, rfl, _, _⟩ := h'.sl_form 0 at0
  rw [← hm]
  exact ⟨sp, cap, rfl, h'⟩

set_option maxHeartbeats 4000000 in
theorem qqp_any (h : Hp W w L F) (v inc : Int) :
    Calls Try.prog 33 #[.int .i64 v, .int .i64 inc] w fun e w' => ∃ v', e = .returned (.tuple #[v', .int .i64 (qpE v inc)]) ∧ Hp W w' (aBn v' (qpB v inc) :: L) F := by
  have H := Lib.hid h
  clear h
  by_cases h1 : 0 ≤ inc ∧ inc ≤ 1
  · obtain ⟨h1, h2⟩ := h1
    by_cases h3 : -26 ≤ v ∧ v ≤ 25
    · obtain ⟨h3, h4⟩ := h3
      have e1 : qpE v inc = 0 := if_pos ⟨h1, h2, h3, h4⟩
      have e2 : qpB v inc = unB (qpN v) (62 + inc) 64 65 := if_pos e1
      have e3 : unE (qpN v) (62 + inc) 64 65 = 0 := by
        refine if_pos ⟨by omega, by unfold qpN; split <;> omega, ?_⟩
        simp only [List.all_cons, List.all_nil, okc, Bool.and_true]
        rw [decide_eq_true (show -1 ≤ 62 + inc by omega), decide_eq_true (show 62 + inc < 286 by omega)]
        rfl
      have e4 : (qpN v : Int) = if 0 < v then 2 * v - 1 else -2 * v := by unfold qpN; split <;> omega
      rw [e1, e2]
      obtain ⟨n, hn⟩ : ∃ n : Int, n = (qpN v : Int) := ⟨_, rfl⟩
      rw [← hn] at e3 e4 ⊢
      obtain ⟨X, hX⟩ : ∃ X, X = unB n (62 + inc) 64 65 := ⟨_, rfl⟩
      have hu : ∀ (w : World) (N I : Int), Hp W w L F → N = n → I = 62 + inc → Calls Try.prog 26 #[.int .i64 N, .int .i64 I, .int .i64 64, .int .i64 65] w fun e w' => ∃ v', e = .returned (.tuple #[v', .int .i64 0]) ∧ Hp W w' (aBn v' X :: L) F := fun w N I h eN eI => by
        subst eN eI
        have := qunary_any h N (62 + inc) 64 65
        rw [e3, ← hX] at this
        exact this
      rw [← hX]
      have E4 := Lib.hid e4
      clear e1 e2 e3 hn e4 hX
      by_cases h5 : 0 < v
      · have e5 := E4.out
        rw [if_pos h5] at e5
        have E5 := Lib.hid e5
        clear e5
        go_enter Try.func33, Try.ntmps33
        go_wp2_with (first | (go_at_call 26; (with_reducible refine (hu _ _ _ H.out E5.out.symm rfl).mono ?_); rintro e w1 ⟨v', rfl, H1⟩))
        exact bodyPost_ret (results_tmp2 rfl _ _ _) rfl ⟨v', rfl, H1⟩
      · have e5 := E4.out
        rw [if_neg h5] at e5
        have E5 := Lib.hid e5
        clear e5
        go_enter Try.func33, Try.ntmps33
        go_wp2_with (first | (go_at_call 26; (with_reducible refine (hu _ _ _ H.out E5.out.symm rfl).mono ?_); rintro e w1 ⟨v', rfl, H1⟩))
        exact bodyPost_ret (results_tmp2 rfl _ _ _) rfl ⟨v', rfl, H1⟩
    · have e1 : qpE v inc = 3 := if_neg (fun h => h3 h.2.2)
      have e2 : qpB v inc = [] := by unfold qpB; rw [e1]; rfl
      rw [e1, e2]
      clear e1 e2
      by_cases h4 : v < -26
      · clear h3
        go_enter Try.func33, Try.ntmps33
        go_wp2_with (fail)
        all_goals exact bodyPost_ret (results_tmp2 rfl _ _ _) rfl ⟨.slice none 0 0, rfl, H.out.sl_nil _ _⟩
      · have h5 : 25 < v := by omega
        clear h3
        go_enter Try.func33, Try.ntmps33
        go_wp2_with (fail)
        all_goals exact bodyPost_ret (results_tmp2 rfl _ _ _) rfl ⟨.slice none 0 0, rfl, H.out.sl_nil _ _⟩
  · have e1 : qpE v inc = 3 := if_neg (fun h => h1 ⟨h.1, h.2.1⟩)
    have e2 : qpB v inc = [] := by unfold qpB; rw [e1]; rfl
    rw [e1, e2]
    clear e1 e2
    by_cases h4 : inc < 0
    · clear h1
      go_enter Try.func33, Try.ntmps33
      go_wp2_with (fail)
      all_goals exact bodyPost_ret (results_tmp2 rfl _ _ _) rfl ⟨.slice none 0 0, rfl, H.out.sl_nil _ _⟩
    · have h5 : 1 < inc := by omega
      clear h1
      go_enter Try.func33, Try.ntmps33
      go_wp2_with (fail)
      all_goals exact bodyPost_ret (results_tmp2 rfl _ _ _) rfl ⟨.slice none 0 0, rfl, H.out.sl_nil _ _⟩

theorem cntB_cut (f r : Int) (v : Nat) : cntB [f, r] v = cntB [f, r, r] v := by
  have e : ∀ i, rowAt [f, r] i = rowAt [f, r, r] i := fun i => by
    unfold rowAt
    rcases i with _ | _ | i
    · rfl
    · rfl
    · rw [show min (i + 1 + 1) ([f, r].length - 1) = 1 by simp, show min (i + 1 + 1) ([f, r, r].length - 1) = 2 by simp]
      rfl
  funext fin
  unfold cntB
  rw [e]
  congr 1
  apply List.map_congr_left
  intro i _
  rw [e]
theorem cap_le {w : World} {e : TypeId} {size n cap : Nat} {sp : Option Addr} {xs : List Value} (h : w.ownsRow 0 e size (.slice sp n cap) n xs) : n ≤ cap := by
  rcases h.2 with ⟨hv, h0⟩ | ⟨g, cap', cur, hv, hg, hh, h4, _⟩
  · omega
  · injection hv with a b c; omega
theorem Hp.sl_take {e : TypeId} {size n m cap : Nat} {sp : Option Addr} {xs : List Value} (h : Hp W w (aSl e size (.slice sp n cap) n xs :: L) F) (hm : m ≤ n) (hn : 0 < n) : Hp W w (aSl e size (.slice sp m cap) m (xs.take (m * size)) :: L) F := by
  obtain ⟨G, ⟨g1, g2⟩, hG, hx⟩ := h.turn 0 at0
  refine hx w (aSl e size (.slice sp m cap) m (xs.take (m * size))) rfl rfl rfl (Nat.le_refl _) (fun c hc hn => rfl) ⟨?_, fun c hc => .inl (g2 c ?_)⟩
  · obtain ⟨k1, k2⟩ := g1
    rcases k2 with ⟨_, h0⟩ | ⟨g, cap', cur, hv, hg, hh, h4, h5, h6, r⟩
    · omega
    · injection hv with a b c
      subst a c
      refine ⟨?_, .inr ⟨g, cap, cur, rfl, hg, hh, by omega, h5, h6, ?_⟩⟩
      · rw [List.length_take, k1, Nat.min_eq_left (Nat.mul_le_mul_right _ hm)]
      · rw [← r, List.take_take, Nat.min_eq_left (Nat.mul_le_mul_right _ hm)]
  · cases sp with
    | none => exact hc
    | some a => exact hc
theorem bcs_take (l : List (Int × Int)) : ∀ m, (bcs l).take (m * 2) = bcs (l.take m) := by
  induction l with
  | nil => intro m; simp [bcs]
  | cons x l ih =>
    intro m
    cases m with
    | zero => simp [bcs]
    | succ m =>
      rw [show (m + 1) * 2 = m * 2 + 1 + 1 by omega]
      simp [bcs, ih m]
theorem cntB_take (l : List Int) (v : Nat) : (cntB l v true).take v = cntB l v false := by
  rw [cntB_eq, cntB_eq]
  have : (cntP l v).length = v := cntP_length l v
  simp [this]
set_option maxHeartbeats 4000000 in
theorem qcut_any (h : Hp W w L F) (v m f r : Int) :
    Calls Try.prog 28 #[.int .i64 v, .int .i64 m, .int .i64 f, .int .i64 r] w fun e w' => ∃ y, e = .returned (.tuple #[y, .int .i64 (cutE v m f r)]) ∧ Hp W w' (aBn y (cutB v m f r) :: L) F := by
  have H := Lib.hid h
  clear h
  by_cases h1 : 0 ≤ m ∧ m ≤ 1024
  · obtain ⟨h1, h2⟩ := h1
    cases ha : [f, r].all okc with
    | true =>
      have hv := fun (w : World) (g n c : Nat) (h : CtxIn w g [f, r]) (hn : n = 2) => (ha ▸ may_any (c := c) h hn : Calls Try.prog 39 #[.slice (some ⟨g, 0, none⟩) n c] w fun e w' => e = .returned (.bool true) ∧ w = w')
      have c1 := ctx_new w [f, r] #[.int .i64 f, .int .i64 r] 3 rfl (by simp) (by simp)
      by_cases h3 : 0 ≤ v
      · by_cases h4 : v ≤ m
        · have e1 : cutE v m f r = 0 := if_pos ⟨h1, h2, ha, h3, h4⟩
          obtain ⟨V, rfl⟩ : ∃ V : Nat, v = V := ⟨v.toNat, by omega⟩
          obtain ⟨M, rfl⟩ : ∃ M : Nat, m = M := ⟨m.toNat, by omega⟩
          have e2 : cutB V M f r = cntB [f, r] V (decide ((V : Int) ≠ M)) := by unfold cutB; rw [if_pos e1]; rfl
          have ha3 : [f, r, r].all okc = true := by simpa using ha
          have e3 : unE V f r r = 0 := if_pos ⟨by omega, by omega, ha3⟩
          have e4 : unB V f r r = cntB [f, r, r] V true := by unfold unB; rw [if_pos e3]; rfl
          rw [e1, e2, cntB_cut]
          have hu : ∀ w, Hp W w L F → Calls Try.prog 26 #[.int .i64 V, .int .i64 f, .int .i64 r, .int .i64 r] w fun e w' => ∃ sp cap, e = .returned (.tuple #[.slice sp (V + 1) cap, .int .i64 0]) ∧ Hp W w' (aSl 27 2 (.slice sp (V + 1) cap) (V + 1) (bcs (cntB [f, r, r] V true)) :: L) F := fun w h => by
            refine (qunary_as h rfl rfl e3 e4 (m := V + 1) (by rw [cntB_length]; rfl)).mono ?_
            rintro e w' ⟨sp, cap, rfl, h'⟩
            rw [cntB_length] at h'
            exact ⟨sp, cap, rfl, h'⟩
          have hM : M ≤ 1024 := by omega
          clear e1 e2 ha ha3 e3 e4 h1 h2 h3
          by_cases hVM : V = M
          · have z1 : ((V : Int) == (M : Int)) = true := by simp; omega
            have z2 : decide ((V : Int) ≠ (M : Int)) = false := by simp; omega
            have Z2 := Lib.hid z2
            clear z2 hVM
            go_enter Try.func28, Try.ntmps28
            go_wp2_with (first | (go_at_call 39; (with_reducible refine (hv _ _ 2 _ c1 rfl).mono ?_); rintro e w1 ⟨rfl, rfl⟩) | (go_at_call 26; (with_reducible refine (hu _ (H.out.lost _)).mono ?_); rintro e w2 ⟨sp, cap, rfl, h5⟩; obtain ⟨g, cap2, hsp⟩ := sl_pos (h5.sl 0 at0) (by omega); have hcp := (cap_le (h5.sl 0 at0)); injection hsp with hs1 hs2 hs3; subst hs1 hs3))
            refine bodyPost_ret (results_tmp2 rfl _ _ _) rfl ⟨.slice (some ⟨g, 0, none⟩) V cap, rfl, ?_⟩
            have h6 := h5.sl_take (m := V) (by omega) (by omega)
            rw [bcs_take, cntB_take] at h6
            rw [Z2.out]
            unfold aBn
            rw [cntB_length]
            exact h6
          · have z1 : ((V : Int) == (M : Int)) = false := by simp; omega
            have z2 : decide ((V : Int) ≠ (M : Int)) = true := by simp; omega
            have Z2 := Lib.hid z2
            clear z2 hVM
            go_enter Try.func28, Try.ntmps28
            go_wp2_with (first | (go_at_call 39; (with_reducible refine (hv _ _ 2 _ c1 rfl).mono ?_); rintro e w1 ⟨rfl, rfl⟩) | (go_at_call 26; (with_reducible refine (hu _ (H.out.lost _)).mono ?_); rintro e w2 ⟨sp, cap, rfl, h5⟩))
            refine bodyPost_ret (results_tmp2 rfl _ _ _) rfl ⟨.slice sp (V + 1) cap, rfl, ?_⟩
            rw [Z2.out]
            unfold aBn
            rw [cntB_length]
            exact h5
        · have e1 : cutE v m f r = 3 := if_neg (fun h => h4 h.2.2.2.2)
          have e2 : cutB v m f r = [] := by unfold cutB; rw [e1]; rfl
          rw [e1, e2]
          clear e1 e2 ha
          go_enter Try.func28, Try.ntmps28
          go_wp2_with (first | (go_at_call 39; (with_reducible refine (hv _ _ 2 _ c1 rfl).mono ?_); rintro e w1 ⟨rfl, rfl⟩))
          exact bodyPost_ret (results_tmp2 rfl _ _ _) rfl ⟨.slice none 0 0, rfl, (H.out.lost _).sl_nil _ _⟩
      · have e1 : cutE v m f r = 3 := if_neg (fun h => h3 h.2.2.2.1)
        have e2 : cutB v m f r = [] := by unfold cutB; rw [e1]; rfl
        rw [e1, e2]
        clear e1 e2 ha
        go_enter Try.func28, Try.ntmps28
        go_wp2_with (first | (go_at_call 39; (with_reducible refine (hv _ _ 2 _ c1 rfl).mono ?_); rintro e w1 ⟨rfl, rfl⟩))
        exact bodyPost_ret (results_tmp2 rfl _ _ _) rfl ⟨.slice none 0 0, rfl, (H.out.lost _).sl_nil _ _⟩
    | false =>
      have e1 : cutE v m f r = 3 := if_neg (by rw [ha]; simp)
      have e2 : cutB v m f r = [] := by unfold cutB; rw [e1]; rfl
      rw [e1, e2]
      clear e1 e2
      have hv := fun (w : World) (g n c : Nat) (h : CtxIn w g [f, r]) (hn : n = 2) => (ha ▸ may_any (c := c) h hn : Calls Try.prog 39 #[.slice (some ⟨g, 0, none⟩) n c] w fun e w' => e = .returned (.bool false) ∧ w = w')
      clear ha
      have c1 := ctx_new w [f, r] #[.int .i64 f, .int .i64 r] 3 rfl (by simp) (by simp)
      go_enter Try.func28, Try.ntmps28
      go_wp2_with (first | (go_at_call 39; (with_reducible refine (hv _ _ 2 _ c1 rfl).mono ?_); rintro e w1 ⟨rfl, rfl⟩))
      exact bodyPost_ret (results_tmp2 rfl _ _ _) rfl ⟨.slice none 0 0, rfl, (H.out.lost _).sl_nil _ _⟩
  · have e1 : cutE v m f r = 3 := if_neg (fun h => h1 ⟨h.1, h.2.1⟩)
    have e2 : cutB v m f r = [] := by unfold cutB; rw [e1]; rfl
    rw [e1, e2]
    clear e1 e2
    by_cases h2 : m < 0
    · clear h1
      go_enter Try.func28, Try.ntmps28
      go_wp2_with (fail)
      exact bodyPost_ret (results_tmp2 rfl _ _ _) rfl ⟨.slice none 0 0, rfl, H.out.sl_nil _ _⟩
    · have h3 : 1024 < m := by omega
      clear h1
      go_enter Try.func28, Try.ntmps28
      go_wp2_with (fail)
      exact bodyPost_ret (results_tmp2 rfl _ _ _) rfl ⟨.slice none 0 0, rfl, H.out.sl_nil _ _⟩
end

end Go.Proofs.Ytnefiaghojojgaa
