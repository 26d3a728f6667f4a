/- The program's Unary, Cut, Escape, Mvd, Qp. -/
import Derived.Test.YtchoiimmcgkimaaDoorWc
import Derived.Deep.QuietTactic
import Derived.BigQuiet
import Derived.BigCall
namespace Go.Proofs.YtchoiimmcgkimaaDoor
open Go.RowKit Go.Shelf
set_option linter.unusedVariables false
set_option maxRecDepth 100000
set_option linter.unusedSimpArgs false

/-- A slice of bins. -/
@[reducible] def aBn (v : Value) (bs : List (Int × Int)) : AObj := aSl 31 2 v bs.length (bcs bs)

/-- Contexts in a row, in memory. -/
structure CtxIn (w : World) (g : Nat) (l : List Int) : Prop where
  cell : ∀ j, j < l.length → w.cell? ⟨g, j, none⟩ = some (.int .i64 (l.getD j 0))
  lt : g < w.heap.size
  pos : 0 < l.length
  le : l.length ≤ 10
theorem ctx_new (w : World) (l : List Int) (cs : Array Value) (t : TypeId) (hcs : cs = (l.map (Value.int .i64)).toArray) (h1 : 0 < l.length) (h2 : l.length ≤ 10) : CtxIn (w.alloc (.cells cs t)) w.heap.size l := by
  subst hcs
  refine ⟨fun j hj => ?_, by simp, h1, h2⟩
  have hn : (w.alloc (.cells (l.map (Value.int .i64)).toArray t)).heap[w.heap.size]? = some (.cells (l.map (Value.int .i64)).toArray t (0, 0)) := World.alloc_heap_new _ _
  simp only [World.cell?, hn]
  simp [List.getElem?_eq_getElem hj]
theorem CtxIn.later {w w' : World} {g : Nat} {l : List Int} (h : CtxIn w g l) (hb : Below w.heap.size w w') : CtxIn w' g l :=
  ⟨fun j hj => (hb.cell (p := ⟨g, j, none⟩) h.lt).trans (h.cell j hj), Nat.lt_of_lt_of_le h.lt hb.size, h.pos, h.le⟩

def okc (c : Int) : Bool := decide (-1 ≤ c) && decide (c < 286)
theorem valid1_any (c : Int) (w : World) : Calls Tryd.prog 28 #[.int .i64 c] w fun e w' => e = .returned (.bool (!okc c)) ∧ w = w' := by
  obtain ⟨b, hb⟩ : ∃ b, b = !okc c := ⟨_, rfl⟩
  rw [← hb]
  unfold okc at hb
  have HB := Lib.hid hb
  clear hb
  by_cases h1 : c < -1
  · go_enter Tryd.func28, Tryd.ntmps28
    go_wp2
    go_ret
    exact ⟨by rw [HB.out, decide_eq_false (by omega)]; rfl, rfl⟩
  · go_enter Tryd.func28, Tryd.ntmps28
    by_cases h2 : c < 286
    · go_wp2
      go_ret
      exact ⟨by rw [HB.out, decide_eq_true (show -1 ≤ c by omega), decide_eq_true (show c < 286 by omega)]; simp; omega, rfl⟩
    · go_wp2
      go_ret
      exact ⟨by rw [HB.out, decide_eq_true (show -1 ≤ c by omega), decide_eq_false (show ¬ c < 286 by omega)]; simp <;> omega, rfl⟩

/-- The index of the first context that is not valid. -/
def badAt : List Int → Nat → Int
  | [], _ => -1
  | c :: l, i => if okc c then badAt l (i + 1) else i
theorem badAt_neg : ∀ (l : List Int) (i : Nat), (0 ≤ badAt l i) ↔ l.all okc = false
  | [], i => by simp [badAt]
  | c :: l, i => by
    unfold badAt
    cases h : okc c with
    | true => simp [badAt_neg l (i + 1), h]
    | false => simp [h]
theorem badAt_bd : ∀ (l : List Int) (i : Nat), -1 ≤ badAt l i ∧ badAt l i < i + l.length + 1
  | [], i => by simp [badAt]; omega
  | c :: l, i => by
    unfold badAt
    have := badAt_bd l (i + 1)
    split <;> simp at * <;> omega
theorem badAt_drop (l : List Int) (k : Nat) (hk : k < l.length) : badAt (l.drop k) k = if okc (l.getD k 0) then badAt (l.drop (k + 1)) (k + 1) else k := by
  rw [List.drop_eq_getElem_cons hk, badAt]
  simp [List.getElem?_eq_getElem hk]

set_option maxHeartbeats 1000000 in
theorem index_any {w : World} {g n c : Nat} {l : List Int} (h : CtxIn w g l) (hn : n = l.length) :
    Calls Tryd.prog 32 #[.slice (some ⟨g, 0, none⟩) n c, .func (.func 28) #[] #[]] w fun e w' => e = .returned (.int .i64 (badAt l 0)) ∧ w = w' := by
  subst hn
  have h4 := h.le
  go_enter Tryd.func32, Tryd.ntmps32
  go_wp2
  go_loop [8] (fun i => ∃ k : Nat, k ≤ l.length ∧ i = .int .i64 k ∧ Hid (badAt l 0 = badAt (l.drop k) k)) (fun i => l.length - (intOf i).toNat)
  case atStart => exact ⟨0, Nat.zero_le _, rfl, Lib.hid rfl⟩
  case round =>
    obtain ⟨k, hk, rfl, HB⟩ := hrel
    by_cases hlt : k < l.length
    · have hc := h.cell k hlt
      have e1 := badAt_drop l k hlt
      generalize l.getD k 0 = z at *
      have E1 := Lib.hid e1
      clear e1
      cases ho : okc z with
      | true =>
        have HO := Lib.hid ho
        have hv : ∀ w, Calls Tryd.prog 28 #[.int .i64 z] w fun e w' => e = .returned (.bool false) ∧ w = w' := fun w => by have := valid1_any z w; rwa [ho] at this
        clear ho
        go_wp2_with (go_at_call 28; refine (hv _).mono ?_; rintro e w1 ⟨rfl, rfl⟩)
        go_round
        case rel => exact ⟨k + 1, by omega, by go_num, Lib.hid (by rw [HB.out, E1.out, if_pos HO.out])⟩
        case measure => simp [intOf]; omega
      | false =>
        have HO := Lib.hid ho
        have hv : ∀ w, Calls Tryd.prog 28 #[.int .i64 z] w fun e w' => e = .returned (.bool true) ∧ w = w' := fun w => by have := valid1_any z w; rwa [ho] at this
        clear ho
        go_wp2_with (go_at_call 28; refine (hv _).mono ?_; rintro e w1 ⟨rfl, rfl⟩)
        go_ret
        exact ⟨by rw [HB.out, E1.out, HO.out]; rfl, rfl⟩
    · obtain rfl : k = l.length := by omega
      go_wp2
      go_ret
      exact ⟨by rw [HB.out, List.drop_length]; rfl, rfl⟩
theorem contains_any {w : World} {g n c : Nat} {l : List Int} (h : CtxIn w g l) (hn : n = l.length) :
    Calls Tryd.prog 27 #[.slice (some ⟨g, 0, none⟩) n c, .func (.func 28) #[] #[]] w fun e w' => e = .returned (.bool (!l.all okc)) ∧ w = w' := by
  have hi := index_any (c := c) h hn
  have e1 : decide (0 ≤ badAt l 0) = !l.all okc := by
    have := badAt_neg l 0
    cases ha : l.all okc <;> simp [ha] at this ⊢ <;> omega
  rw [← e1]
  have b1 := badAt_bd l 0
  generalize badAt l 0 = z at *
  clear e1 hn h
  go_enter Tryd.func27, Tryd.ntmps27
  go_wp2_with (go_at_call 32; refine hi.mono ?_; rintro e w1 ⟨rfl, rfl⟩)
  go_ret
  exact ⟨rfl, rfl⟩
theorem valid_any {w : World} {g n c : Nat} {l : List Int} (h : CtxIn w g l) (hn : n = l.length) :
    Calls Tryd.prog 21 #[.slice (some ⟨g, 0, none⟩) n c] w fun e w' => e = .returned (.bool (l.all okc)) ∧ w = w' := by
  have hi := contains_any (c := c) h hn
  clear hn h
  generalize l.all okc = z at *
  go_enter Tryd.func21, Tryd.ntmps21
  go_wp2_with (go_at_call 27; refine hi.mono ?_; rintro e w1 ⟨rfl, rfl⟩)
  go_ret
  exact ⟨by simp, rfl⟩

theorem row_ctx {w : World} {g n c : Nat} {l : List Int} (h : CtxIn w g l) (hn : n = l.length) :
    Calls Tryd.prog 24 #[.slice (some ⟨g, 0, none⟩) n c] w fun e w' => ∃ bl, e = .returned (.func (.func 30) #[] #[.pointer (some ⟨bl, 0, none⟩)]) ∧ RowIn w' bl g c l ∧ bl < w'.heap.size ∧ g < w'.heap.size ∧ Below w.heap.size w w' := by
  subst hn
  refine (row_any (some ⟨g, 0, none⟩) l.length c w).mono ?_
  rintro e w' ⟨rfl, rfl⟩
  have hb : Below w.heap.size w (w.alloc (.cells #[.slice (some ⟨g, 0, none⟩) l.length c] 22)) := (Below.refl _ _).alloc (Nat.le_refl _) _
  refine ⟨_, rfl, ⟨(Boxed.new w _ _).cell, fun j hj => (h.later hb).cell j hj, h.pos, h.le⟩, by simp, by have := h.lt; simp; omega, hb⟩
theorem counted_ctx {w : World} {bl g c v : Nat} {m : Int} {l : List Int} (h : RowIn w bl g c l) (h1 : bl < w.heap.size) (h2 : g < w.heap.size) {f : Value} (hf : f = .func (.func 30) #[] #[.pointer (some ⟨bl, 0, none⟩)]) :
    Calls Tryd.prog 23 #[.int .i64 v, .int .i64 m, f] w fun e w' => ∃ bv ba bm, e = .returned (.func (.func 29) #[] #[.pointer (some ⟨bv, 0, none⟩), .pointer (some ⟨ba, 0, none⟩), .pointer (some ⟨bm, 0, none⟩)]) ∧ CntIn w'.heap.size none w' bv ba bm bl g c v m l ∧ Below w.heap.size w w' := by
  refine (counted_any v m f w bl hf).mono ?_
  rintro e w' ⟨rfl, rfl⟩
  have b1 := (Boxed.new w 3 (.int .i64 v))
  have b2 := (Boxed.new (w.alloc (.cells #[.int .i64 v] 3)) 3 (.int .i64 m))
  have b3 := (Boxed.new ((w.alloc (.cells #[.int .i64 v] 3)).alloc (.cells #[.int .i64 m] 3)) 46 f)
  have hb : Below w.heap.size w (((w.alloc (.cells #[.int .i64 v] 3)).alloc (.cells #[.int .i64 m] 3)).alloc (.cells #[f] 46)) := (((Below.refl _ _).alloc (Nat.le_refl _) _).alloc (by simp) _).alloc (by simp; omega) _
  simp only [World.size_alloc] at b2 b3
  refine ⟨_, _, _, rfl, ⟨((b1.alloc _).alloc _).cell, ?_, (b2.alloc _).cell, h.kept (r := none) (KpE.of_below hb (Nat.le_refl _)) ⟨h1, by simp⟩ ⟨h2, by simp⟩, ⟨by simp; omega, by simp⟩, ⟨by simp, by simp⟩, ⟨by simp, by simp⟩, ⟨by simp; omega, by simp⟩, ⟨by simp; omega, by simp⟩⟩, hb⟩
  rw [← hf]
  exact b3.cell
theorem digits_ctx {w : World} {v n : Nat} (r : Option Nat) (hr : ∀ x, r = some x → x < w.heap.size) :
    Calls Tryd.prog 26 #[.int .u64 v, .int .i64 n] w fun e w' => ∃ bv bn, e = .returned (.func (.func 31) #[] #[.pointer (some ⟨bn, 0, none⟩), .pointer (some ⟨bv, 0, none⟩)]) ∧ DigIn w'.heap.size r w' bv bn v n ∧ Below w.heap.size w w' := by
  refine (digits_any v n w).mono ?_
  rintro e w' ⟨rfl, rfl⟩
  have b1 := (Boxed.new w 54 (.int .u64 v))
  have b2 := (Boxed.new (w.alloc (.cells #[.int .u64 v] 54)) 3 (.int .i64 n))
  simp only [World.size_alloc] at b2
  refine ⟨_, _, rfl, ⟨(b1.alloc _).cell, b2.cell, ⟨by simp; omega, fun e => ?_⟩, ⟨by simp, fun e => ?_⟩⟩, ((Below.refl _ _).alloc (Nat.le_refl _) _).alloc (by simp) _⟩
  · have := hr _ e.symm; omega
  · have := hr _ e.symm; omega

section
variable {W w w' : World} {L : List AObj} {F : List (Nat × Obj)}
theorem below_of_grown {w w' : World} (h : w.grownBy w' none) : Below w.heap.size w w' := ⟨h.os, h.tape, h.output, h.size, fun k hk => h.block k hk (by simp)⟩
theorem Hp.bn_new {v' : Value} {bs : List (Int × Int)} (h : Hp W w L F) (h1 : w'.ownsRow 0 31 2 v' bs.length (bcs bs)) (h2 : ∀ c, v'.ownBlock = some c → w.heap.size ≤ c) (h3 : w.grownBy w' none) : Hp W w' (aBn v' bs :: L) F :=
  h.make (below_of_grown h3) ⟨h1, fun c hc => ⟨h2 c hc, (h1.lt c hc).2⟩⟩
theorem Hp.bn_more {v v' : Value} {bs cs : List (Int × Int)} (h : Hp W w L F) (k : Nat) (hk : L[k]? = some (aBn v bs)) (h1 : w'.ownsRow 0 31 2 v' (bs.length + cs.length) (bcs (bs ++ cs))) (h2 : v'.ownBlock = v.ownBlock ∨ ∀ c, v'.ownBlock = some c → w.heap.size ≤ c) (h3 : w.grownBy w' v.ownBlock) :
    Hp W w' (L.set k (aBn v' (bs ++ cs))) F := by
  obtain ⟨G, ⟨g1, g2⟩, hG, hx⟩ := h.turn k hk
  refine hx w' _ h3.os h3.tape h3.output h3.size (fun c hc hn => h3.block c hc (fun e => hn (g2 c e.symm))) ⟨by rw [List.length_append]; exact h1, fun c hc => ?_⟩
  rcases h2 with h2 | h2
  · exact Or.inl (g2 c (h2 ▸ hc))
  · exact Or.inr ⟨h2 c hc, (h1.lt c hc).2⟩
theorem counted1_enters : ∀ args w, (callFunc 29 args).run Tryd.prog w = .ok (.enter 29 args) w := enters_of Tryd.func29 (by kernel_rfl) rfl
theorem digits1_enters : ∀ args w, (callFunc 31 args).run Tryd.prog w = .ok (.enter 31 args) w := enters_of Tryd.func31 (by kernel_rfl) rfl

theorem collect_cnt (h : Hp W w L F) {bv ba bm bl g c v : Nat} {m : Int} {l : List Int} (C : CntIn w.heap.size none w bv ba bm bl g c v m l) (hv : v ≤ 2000) :
    Calls Tryd.prog 22 #[.slice none 0 0, .func (.func 29) #[] #[.pointer (some ⟨bv, 0, none⟩), .pointer (some ⟨ba, 0, none⟩), .pointer (some ⟨bm, 0, none⟩)]] w fun e w' => ∃ v', e = .returned v' ∧ Hp W w' (aBn v' (cntB l v (decide ((v : Int) ≠ m))) :: L) F := by
  have hl : (cntB l v (decide ((v : Int) ≠ m))).length ≤ 2001 := by rw [cntB_length]; split <;> omega
  refine (collect_any (xs := []) counted1_enters (World.ownsRow_nil w 0 31 2) (by omega) (fun m1 h1 => counted1_stops m1 h1 w.heap.size _ bv ba bm bl g c v m l hv w (Nat.le_refl _) C)).mono ?_
  rintro e w' ⟨v', rfl, k1, k2, k3⟩
  rw [Nat.zero_add, List.nil_append] at k1
  refine ⟨v', rfl, h.bn_new k1 (fun c hc => ?_) k3⟩
  rcases k2 with k2 | k2
  · rw [k2] at hc; simp [Value.ownBlock] at hc
  · exact k2 c hc
theorem collect_dig (h : Hp W w L F) {bv bn v n : Nat} (C : DigIn w.heap.size none w bv bn v n) (hn : n ≤ 64) (hv : v < 18446744073709551616) :
    Calls Tryd.prog 22 #[.slice none 0 0, .func (.func 31) #[] #[.pointer (some ⟨bn, 0, none⟩), .pointer (some ⟨bv, 0, none⟩)]] w fun e w' => ∃ v', e = .returned v' ∧ Hp W w' (aBn v' (digB v n) :: L) F := by
  refine (collect_any (xs := []) digits1_enters (World.ownsRow_nil w 0 31 2) (by rw [digB_length]; omega) (fun m1 h1 => digits1_stops m1 h1 w.heap.size _ bv bn v n hn hv w (Nat.le_refl _) C)).mono ?_
  rintro e w' ⟨v', rfl, k1, k2, k3⟩
  rw [Nat.zero_add, List.nil_append] at k1
  refine ⟨v', rfl, h.bn_new k1 (fun c hc => ?_) k3⟩
  rcases k2 with k2 | k2
  · rw [k2] at hc; simp [Value.ownBlock] at hc
  · exact k2 c hc
theorem collect_dig_on (h : Hp W w L F) (k : Nat) {sv : Value} {bs : List (Int × Int)} (hk : L[k]? = some (aBn sv bs)) (hb : bs.length ≤ 1000) {bv bn v n : Nat} (C : DigIn w.heap.size sv.ownBlock w bv bn v n) (hn : n ≤ 64) (hv : v < 18446744073709551616) :
    Calls Tryd.prog 22 #[sv, .func (.func 31) #[] #[.pointer (some ⟨bn, 0, none⟩), .pointer (some ⟨bv, 0, none⟩)]] w fun e w' => ∃ v', e = .returned v' ∧ Hp W w' (L.set k (aBn v' (bs ++ digB v n))) F := by
  refine (collect_any digits1_enters (h.sl k hk) (by rw [digB_length]; omega) (fun m1 h1 => digits1_stops m1 h1 w.heap.size _ bv bn v n hn hv w (Nat.le_refl _) C)).mono ?_
  rintro e w' ⟨v', rfl, k1, k2, k3⟩
  exact ⟨v', rfl, h.bn_more k hk k1 k2 k3⟩
end

end Go.Proofs.YtchoiimmcgkimaaDoor
