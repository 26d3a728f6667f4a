/- A drawn region by an invariant over what has been done: each operation is walked once, whatever the order. No program in sight. -/
import Derived.Test.YtkaoeilijdeioaaQuiet
import Derived.Orders
namespace Go.Proofs.Ytkaoeilijdeioaa
open Go.RowKit
set_option linter.unusedVariables false
set_option maxRecDepth 100000
set_option linter.unusedSimpArgs false

theorem cnt_set : ∀ (l : List Bool) (i : Nat), l[i]? = some false → (l.set i true).count false + 1 = l.count false
  | [], i, h => by simp at h
  | x :: l, 0, h => by simp at h; subst h; simp
  | x :: l, i + 1, h => by
    have := cnt_set l i (by simpa using h)
    simp only [List.set_cons_succ, List.count_cons]
    omega
theorem cnt_zero : ∀ (l : List Bool) (i : Nat), l.count false = 0 → l[i]? ≠ some false
  | l, i, h, hi => by
    have := List.mem_of_getElem? hi
    have h2 := List.count_pos_iff.2 this
    omega

theorem ready_false {md : Region.Mode} {ops : Array Oper} {listed : Array Bool} {i : Nat} (hs : listed.size = ops.size) (h : i ∈ Region.ready md ops listed) :
    i < ops.size ∧ listed[i]? = some false := by
  simp only [Region.ready, List.mem_filter, List.mem_range, Bool.and_eq_true, Bool.not_eq_true'] at h
  refine ⟨h.1, ?_⟩
  have h2 := h.2.1
  rw [Array.getD_eq_getD_getElem?] at h2
  have h3 : i < listed.size := by omega
  rw [Array.getElem?_eq_getElem h3] at h2 ⊢
  simpa using h2

theorem wpAny_inv {P : Program} {ops : Array Oper} {Q : Exit → Act → World → Prop} {md : Region.Mode} (I : Array Bool → Act → World → Prop)
    (hstep : ∀ listed a w i, I listed a w → listed.size = ops.size → i ∈ Region.ready md ops listed → wpOp P ops Q i (I (listed.setIfInBounds i true)) a w)
    (hend : ∀ listed a w, I listed a w → listed.size = ops.size → Region.ready md ops listed = [] → Q .normal a w) :
    ∀ (fuel : Nat) (listed : Array Bool) (a : Act) (w : World), listed.size = ops.size → listed.toList.count false ≤ fuel → I listed a w → wpAny P md ops Q fuel listed a w
  | 0, listed, a, w, hs, hc, hI => by
    have h : Region.ready md ops listed = [] := by
      rw [List.eq_nil_iff_forall_not_mem]
      intro i hi
      have := (ready_false hs hi).2
      exact cnt_zero listed.toList i (by omega) (by simpa using this)
    exact ⟨h, hend _ _ _ hI hs h⟩
  | fuel + 1, listed, a, w, hs, hc, hI => by
    refine ⟨fun h => hend _ _ _ hI hs h, fun i hi => ?_⟩
    have hf := (ready_false hs hi).2
    refine wpOp_mono (fun a' w' h' => wpAny_inv I hstep hend fuel _ a' w' (by simpa using hs) ?_ h') (hstep _ _ _ _ hI hs hi)
    have := cnt_set listed.toList i (by simpa using hf)
    simp only [Array.toList_setIfInBounds]
    omega

theorem wp_region_inv {P : Program} {id : Nat} {Q : Exit → Act → World → Prop} {a : Act} {w : World} {ops : Array Oper} (I : Array Bool → Act → World → Prop) (hm : P.follows .mixedOrders = true)
    (h0 : I (Array.replicate ops.size false) a w.drew)
    (hstep : ∀ listed a w i, I listed a w → listed.size = ops.size → i ∈ Region.ready .any ops listed → wpOp P ops Q i (I (listed.setIfInBounds i true)) a w)
    (hend : ∀ listed a w, I listed a w → listed.size = ops.size → Region.ready .any ops listed = [] → Q .normal a w) : (Code.region id ops true).wp P Q a w :=
  wp_region_any hm (wpAny_inv I hstep hend _ _ _ _ (by simp) (by rw [Array.toList_replicate]; exact Nat.le_trans List.count_le_length (by simp)) h0)

theorem ready_deps {md : Region.Mode} {ops : Array Oper} {listed : Array Bool} {i : Nat} (h : i ∈ Region.ready md ops listed) {o : Oper} (ho : ops[i]? = some o) :
    ∀ e ∈ o.after, Region.binds md e = true → listed.getD e.on false = true := by
  simp only [Region.ready, List.mem_filter, List.mem_range, Bool.and_eq_true, Bool.not_eq_true'] at h
  have h2 := h.2.2
  rw [ho] at h2
  simp only [Option.map_some, Option.getD_some, Array.all_eq_true', Bool.or_eq_true, Bool.not_eq_true'] at h2
  intro e he hb
  rcases h2 e he with h3 | h3
  · rw [hb] at h3; cases h3
  · exact h3

theorem wpOp_of {P : Program} {ops : Array Oper} {Q : Exit → Act → World → Prop} {i : Nat} {o : Oper} {K : Act → World → Prop} {a : Act} {w : World} (ho : ops[i]? = some o) (hg : o.guard = none) (h : o.wp P a w K Q) : wpOp P ops Q i K a w := by
  unfold wpOp
  rw [ho]
  simp only [Region.wanted, hg, if_true]
  exact Or.inl h

/-- The frame a0 with what the listed operations have yielded: ds gives each operation's slot. -/
def fillA (ds : List (Nat × Nat)) (vals : Nat → Value) (listed : Array Bool) (a0 : Act) : Act :=
  ds.foldl (fun a x => if listed.getD x.1 false then a.put (some x.2) (vals x.1) else a) a0

theorem put_foldl (ds : List (Nat × Nat)) (vals : Nat → Value) (listed : Array Bool) (d : Nat) (v : Value) : ∀ (a : Act), (∀ x ∈ ds, x.2 ≠ d) →
    fillA ds vals listed (a.put (some d) v) = (fillA ds vals listed a).put (some d) v := by
  unfold fillA
  induction ds with
  | nil => intro a _; rfl
  | cons x ds ih =>
    intro a h
    simp only [List.foldl_cons]
    by_cases c : listed.getD x.1 false
    · rw [if_pos c, if_pos c, Act.put_comm a (x := some d) (y := some x.2) v (vals x.1) (by intro e he h2; cases he; cases h2; exact h x (by simp) rfl)]
      exact ih _ (fun y hy => h y (by simp [hy]))
    · rw [if_neg c, if_neg c]
      exact ih _ (fun y hy => h y (by simp [hy]))

theorem fillA_congr {ds : List (Nat × Nat)} {vals vals' : Nat → Value} {l l' : Array Bool} : ∀ (a : Act), (∀ x ∈ ds, l.getD x.1 false = l'.getD x.1 false ∧ (l.getD x.1 false = true → vals x.1 = vals' x.1)) →
    fillA ds vals l a = fillA ds vals' l' a := by
  unfold fillA
  induction ds with
  | nil => intro a _; rfl
  | cons x ds ih =>
    intro a h
    simp only [List.foldl_cons]
    have h0 := h x (by simp)
    rw [← h0.1]
    by_cases c : l.getD x.1 false = true
    · rw [if_pos c, if_pos c, h0.2 c]
      exact ih _ (fun y hy => h y (by simp [hy]))
    · rw [if_neg c, if_neg c]
      exact ih _ (fun y hy => h y (by simp [hy]))

def updV (vals : Nat → Value) (i : Nat) (v : Value) : Nat → Value := fun j => if j = i then v else vals j
theorem updV_self (vals : Nat → Value) (i : Nat) (v : Value) : updV vals i v i = v := if_pos rfl
theorem updV_ne (vals : Nat → Value) {i j : Nat} (v : Value) (h : j ≠ i) : updV vals i v j = vals j := if_neg h

theorem getD_set_ne {l : Array Bool} {i j : Nat} (h : j ≠ i) : (l.setIfInBounds i true).getD j false = l.getD j false := by
  simp [Array.getD_eq_getD_getElem?, Array.getElem?_setIfInBounds_ne (Ne.symm h)]
theorem getD_set_self {l : Array Bool} {i : Nat} (h : i < l.size) : (l.setIfInBounds i true).getD i false = true := by
  simp [Array.getD_eq_getD_getElem?, h]

theorem fillA_append (d1 d2 : List (Nat × Nat)) (vals : Nat → Value) (l : Array Bool) (a : Act) : fillA (d1 ++ d2) vals l a = fillA d2 vals l (fillA d1 vals l a) := by
  unfold fillA; rw [List.foldl_append]

theorem fillA_put {ds : List (Nat × Nat)} {vals : Nat → Value} {l : Array Bool} {a : Act} {i d : Nat} (v : Value) (hm : (i, d) ∈ ds) (h1 : (ds.map (·.1)).Nodup) (h2 : (ds.map (·.2)).Nodup) (hl : i < l.size) (hf : l.getD i false = false) :
    (fillA ds vals l a).put (some d) v = fillA ds (updV vals i v) (l.setIfInBounds i true) a := by
  obtain ⟨d1, d2, rfl⟩ := List.append_of_mem hm
  rw [List.map_append, List.map_cons, List.nodup_append] at h1 h2
  have hd2 : ∀ x ∈ d2, x.2 ≠ d := fun x hx e => (List.nodup_cons.1 h2.2.1).1 (List.mem_map.2 ⟨x, hx, e⟩)
  have hi2 : ∀ x ∈ d2, x.1 ≠ i := fun x hx e => (List.nodup_cons.1 h1.2.1).1 (List.mem_map.2 ⟨x, hx, e⟩)
  have hi1 : ∀ x ∈ d1, x.1 ≠ i := fun x hx e => h1.2.2 x.1 (List.mem_map.2 ⟨x, hx, rfl⟩) i (by simp) e
  have e1 : fillA d1 vals l a = fillA d1 (updV vals i v) (l.setIfInBounds i true) a :=
    fillA_congr a fun x hx => ⟨(getD_set_ne (hi1 x hx)).symm, fun _ => (updV_ne _ _ (hi1 x hx)).symm⟩
  have e2 : ∀ a, fillA d2 vals l a = fillA d2 (updV vals i v) (l.setIfInBounds i true) a := fun a =>
    fillA_congr a fun x hx => ⟨(getD_set_ne (hi2 x hx)).symm, fun _ => (updV_ne _ _ (hi2 x hx)).symm⟩
  have c : ∀ (vals : Nat → Value) (l : Array Bool) (a : Act), fillA ((i, d) :: d2) vals l a = fillA d2 vals l (if l.getD i false then a.put (some d) (vals i) else a) := fun _ _ _ => rfl
  rw [fillA_append, fillA_append, ← e1, c, c, hf, getD_set_self hl, updV_self, if_pos rfl, if_neg (by simp), e2, put_foldl d2 _ _ d v _ hd2]

theorem fillA_size {ds : List (Nat × Nat)} {vals : Nat → Value} {l : Array Bool} : ∀ (a : Act), (fillA ds vals l a).tmps.size = a.tmps.size := by
  unfold fillA
  induction ds with
  | nil => intro a; rfl
  | cons x ds ih =>
    intro a
    simp only [List.foldl_cons]
    rw [ih]
    split
    · simp [Act.put]
    · rfl
theorem fillA_eval_out {ds : List (Nat × Nat)} {vals : Nat → Value} {l : Array Bool} {d : Nat} : ∀ {a : Act}, (∀ x ∈ ds, x.2 ≠ d) →
    (fillA ds vals l a).eval (.tmp d) = a.eval (.tmp d) := by
  unfold fillA
  induction ds with
  | nil => intro a _; rfl
  | cons x ds ih =>
    intro a h
    simp only [List.foldl_cons]
    rw [ih (fun y hy => h y (by simp [hy]))]
    split
    · exact Act.eval_put (fun e he h2 => by cases he; cases h2; exact h x (by simp) rfl)
    · rfl
theorem fillA_eval_in {ds : List (Nat × Nat)} {vals : Nat → Value} {l : Array Bool} {a : Act} {i d : Nat} (hm : (i, d) ∈ ds) (h2 : (ds.map (·.2)).Nodup) (hd : d < a.tmps.size) (hf : l.getD i false = true) :
    (fillA ds vals l a).eval (.tmp d) = vals i := by
  obtain ⟨d1, d2, rfl⟩ := List.append_of_mem hm
  rw [List.map_append, List.map_cons, List.nodup_append] at h2
  have hd2 : ∀ x ∈ d2, x.2 ≠ d := fun x hx e => (List.nodup_cons.1 h2.2.1).1 (List.mem_map.2 ⟨x, hx, e⟩)
  have c : ∀ (a : Act), fillA ((i, d) :: d2) vals l a = fillA d2 vals l (if l.getD i false then a.put (some d) (vals i) else a) := fun _ => rfl
  rw [fillA_append, c, hf, if_pos rfl, fillA_eval_out hd2]
  have hs : d < (fillA d1 vals l a).tmps.size := by rw [fillA_size]; exact hd
  simp [Act.eval, Act.put, Array.getD_eq_getD_getElem?, hs]

theorem fillA_get_out {ds : List (Nat × Nat)} {vals : Nat → Value} {l : Array Bool} {d : Nat} {a : Act} (h : ∀ x ∈ ds, x.2 ≠ d) :
    (fillA ds vals l a).tmps[d]?.getD undef = a.tmps[d]?.getD undef := by
  have := fillA_eval_out (ds := ds) (vals := vals) (l := l) (d := d) (a := a) h
  simpa [Act.eval, Array.getD_eq_getD_getElem?] using this
theorem fillA_get_in {ds : List (Nat × Nat)} {vals : Nat → Value} {l : Array Bool} {a : Act} {i d : Nat} (hm : (i, d) ∈ ds) (h2 : (ds.map (·.2)).Nodup) (hd : d < a.tmps.size) (hf : l.getD i false = true) :
    (fillA ds vals l a).tmps[d]?.getD undef = vals i := by
  have := fillA_eval_in (vals := vals) (l := l) (a := a) hm h2 hd hf
  simpa [Act.eval, Array.getD_eq_getD_getElem?] using this
theorem ready_unlisted {md : Region.Mode} {ops : Array Oper} {l : Array Bool} {i : Nat} (hs : l.size = ops.size) (h : i ∈ Region.ready md ops l) : i < l.size ∧ l.getD i false = false := by
  obtain ⟨h1, h2⟩ := ready_false hs h
  exact ⟨by omega, by rw [Array.getD_eq_getD_getElem?, h2]; rfl⟩

theorem Hp.perm {W w : World} {L : List AObj} {F F' : List (Nat × Obj)} (h : Hp W w L F) (hp : F.Perm F') : Hp W w L F' := by
  obtain ⟨b, o, ho, hF, hn, hL⟩ := h
  exact ⟨b, o, ho, fun p hm => hF p (hp.mem_iff.2 hm), (hp.map _).nodup_iff.1 hn, hL⟩

def edgesB (md : Region.Mode) (ops : Array Oper) : Bool := (List.range ops.size).all fun i => match ops[i]? with | some o => o.after.all (fun e => !Region.binds md e || decide (e.on < i)) | none => true
/-- Where nothing is ready all has been listed. -/
theorem all_listed {md : Region.Mode} {ops : Array Oper} {l : Array Bool} (hr : Region.ready md ops l = []) (hs : l.size = ops.size) (hc : edgesB md ops = true) : ∀ i, i < ops.size → l.getD i false = true := by
  intro i
  induction i using Nat.strongRecOn with
  | ind i ih =>
    intro hi
    cases hl : l.getD i false with
    | true => rfl
    | false =>
      exfalso
      have hm : i ∈ Region.ready md ops l := by
        simp only [Region.ready, List.mem_filter, List.mem_range, Bool.and_eq_true, Bool.not_eq_true']
        refine ⟨hi, ?_, ?_⟩
        · rw [Array.getD_eq_getD_getElem?, Array.getElem?_eq_getElem (by omega)] at hl ⊢
          simpa using hl
        · rw [Array.getElem?_eq_getElem hi]
          simp only [Option.map_some, Option.getD_some, Array.all_eq_true', Bool.or_eq_true, Bool.not_eq_true']
          intro e he
          have h1 := List.all_eq_true.1 hc i (by simpa using hi)
          rw [Array.getElem?_eq_getElem hi] at h1
          simp only [Array.all_eq_true', Bool.or_eq_true, Bool.not_eq_true', decide_eq_true_eq] at h1
          rcases h1 e he with h2 | h2
          · exact Or.inl h2
          · exact Or.inr (ih _ h2 (by omega))
      rw [hr] at hm; cases hm

end Go.Proofs.Ytkaoeilijdeioaa
