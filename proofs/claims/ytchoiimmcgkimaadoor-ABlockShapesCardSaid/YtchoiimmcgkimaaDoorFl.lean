/- Arguments opened: structs and arrays of plain fields, by value and in slices, to their cells. No program in sight. -/
import Derived.Deep.Slices
import Derived.Deep.Fields
import Derived.ChangeSame
import Derived.ProofKit
import Derived.OpenShut
namespace Go.Proofs.YtchoiimmcgkimaaDoor
open Go.RowKit Go.ChangeShapes Go.WideShapes Go.Deep
set_option linter.unusedVariables false
set_option maxRecDepth 100000
set_option linter.unusedSimpArgs false

/-- The kinds of plain cells. -/
inductive FK where
  | int (k : IntKind)
  | bool
  | str
  | sl (t : TypeId)

def FK.Ok (P : Program) (W : World) : FK → Value → Prop
  | .int k, v => ∃ z, v = .int k z ∧ (Lit.int k z).wf = true
  | .bool, v => ∃ b, v = .bool b
  | .str, v => ∃ s : ByteArray, v = .string s ∧ s.size ≤ maxLen
  | .sl t, v => ∃ sp n c, v = .slice sp n c ∧ ∃ (H : Type) (enc : TypeId × Value → H) (fuel : Nat) (y : DataW H × List MemPlace), DataW.trod enc P W 0 (fun _ => true) true fuel t [v] = some y

def AllOk (P : Program) (W : World) : List FK → List Value → Prop
  | [], [] => True
  | k :: ks, v :: vs => k.Ok P W v ∧ AllOk P W ks vs
  | _, _ => False

theorem AllOk.length {P : Program} {W : World} : ∀ {ks : List FK} {vs : List Value}, AllOk P W ks vs → vs.length = ks.length
  | [], [], _ => rfl
  | k :: ks, v :: vs, h => by simp [AllOk.length h.2]
  | [], _ :: _, h => h.elim
  | _ :: _, [], h => h.elim
theorem AllOk.append {P : Program} {W : World} : ∀ {ks ks' : List FK} {vs vs' : List Value}, AllOk P W ks vs → AllOk P W ks' vs' → AllOk P W (ks ++ ks') (vs ++ vs')
  | [], _, [], _, _, h => h
  | k :: ks, _, v :: vs, _, h, h' => ⟨h.1, h.2.append h'⟩
  | [], _, _ :: _, _, h, _ => h.elim
  | _ :: _, _, [], _, h, _ => h.elim
theorem AllOk.at {P : Program} {W : World} : ∀ {ks : List FK} {vs : List Value}, AllOk P W ks vs → ∀ (j : Nat) (k : FK), ks[j]? = some k → ∃ v, vs[j]? = some v ∧ k.Ok P W v
  | [], [], _, j, k, hk => by simp at hk
  | k' :: ks, v :: vs, h, 0, k, hk => by
    simp at hk; subst hk; exact ⟨v, rfl, h.1⟩
  | k' :: ks, v :: vs, h, j + 1, k, hk => by
    obtain ⟨v', h1, h2⟩ := h.2.at j k (by simpa using hk)
    exact ⟨v', by simpa using h1, h2⟩
  | [], _ :: _, h, _, _, _ => h.elim
  | _ :: _, [], h, _, _, _ => h.elim

def flatFs (P : Program) (rec : TypeId → Option (List FK)) : List Field → Nat → Option (List FK)
  | [], _ => some []
  | f :: fs, off => match rec f.type with
    | some ks => if f.offset = off ∧ P.cellsOf f.type = ks.length then (flatFs P rec fs (off + ks.length)).map (ks ++ ·) else none
    | none => none
def flatN (ks : List FK) : Nat → List FK
  | 0 => []
  | n + 1 => ks ++ flatN ks n
theorem flatN_length (ks : List FK) : ∀ n, (flatN ks n).length = n * ks.length
  | 0 => by simp [flatN]
  | n + 1 => by simp [flatN, flatN_length ks n, Nat.succ_mul]; omega

/-- The cells of a type, if all are plain. -/
def flat (P : Program) : Nat → TypeId → Option (List FK)
  | 0, _ => none
  | m + 1, t => match P.underlying t with
    | some (.int k) => some [.int k]
    | some .bool => some [.bool]
    | some .string => some [.str]
    | some (.slice _) => some [.sl t]
    | some (.struct fs) => match flatFs P (flat P m) fs.toList 0 with
      | some ks => if P.cellsOf t = ks.length then some ks else none
      | none => none
    | some (.array n e) => match flat P m e with
      | some ks => if P.cellsOf t = n * ks.length ∧ P.cellsOf e = ks.length then some (flatN ks n) else none
      | none => none
    | _ => none

section
variable {H : Type} {enc : TypeId × Value → H} {P : Program} {W : World}

theorem flatFs_ok {rec : TypeId → Option (List FK)} {n : Nat} {cs : List Value} (hrec : ∀ t ks cs' y, rec t = some ks → DataW.trod enc P W 0 (fun _ => true) true n t cs' = some y → AllOk P W ks cs') :
    ∀ (fs : List Field) (off : Nat) (ks : List FK), flatFs P rec fs off = some ks → (∀ f ∈ fs, ∃ y, DataW.trod enc P W 0 (fun _ => true) true n f.type ((cs.drop f.offset).take (P.cellsOf f.type)) = some y) → AllOk P W ks ((cs.drop off).take ks.length)
  | [], off, ks, h, _ => by simp [flatFs] at h; subst h; simp [AllOk]
  | f :: fs, off, ks, h, hf => by
    unfold flatFs at h
    split at h
    · rename_i k1 h1
      split at h
      · rename_i hc
        obtain ⟨ho, hl⟩ := hc
        cases h2 : flatFs P rec fs (off + k1.length) with
        | none => rw [h2] at h; simp at h
        | some k2 =>
          rw [h2] at h
          simp at h
          subst h
          obtain ⟨y, hy⟩ := hf f (by simp)
          rw [ho, hl] at hy
          have a1 := hrec _ _ _ _ h1 hy
          have a2 := flatFs_ok hrec fs (off + k1.length) k2 h2 (fun f' hf' => hf f' (by simp [hf']))
          have := a1.append a2
          rw [List.length_append, List.take_add, List.drop_drop]
          exact this
      · simp at h
    · simp at h

theorem flat_ok : ∀ (m : Nat) (t : TypeId) (ks : List FK) (fuel : Nat) (cs : List Value) (y : DataW H × List MemPlace), flat P m t = some ks → DataW.trod enc P W 0 (fun _ => true) true fuel t cs = some y → AllOk P W ks cs
  | 0, _, _, _, _, _, h, _ => by simp [flat] at h
  | m + 1, t, ks, fuel, cs, y, h, hy => by
    unfold flat at h
    split at h
    · rename_i k hk
      simp at h; subst h
      obtain ⟨z, rfl, _, hw⟩ := DataW.trod_int hk hy
      exact ⟨⟨z, rfl, hw⟩, trivial⟩
    · rename_i hk
      simp at h; subst h
      obtain ⟨z, rfl, _⟩ := DataW.trod_bool hk hy
      exact ⟨⟨z, rfl⟩, trivial⟩
    · rename_i hk
      simp at h; subst h
      obtain ⟨z, rfl, _, hw⟩ := DataW.trod_string hk hy
      exact ⟨⟨z, rfl, hw⟩, trivial⟩
    · rename_i e hk
      simp at h; subst h
      have hy' := hy
      rcases open_slice hk hy with ⟨rfl, _⟩ | ⟨a, len, cap, _, _, _, _, rfl, _⟩
      · exact ⟨⟨_, _, _, rfl, H, enc, fuel, y, hy'⟩, trivial⟩
      · exact ⟨⟨_, _, _, rfl, H, enc, fuel, y, hy'⟩, trivial⟩
    · rename_i fs hk
      split at h
      · rename_i k1 h1
        split at h
        · rename_i hc
          simp at h; subst h
          obtain ⟨xs, n, rfl, _, hl, hxl, hf⟩ := DataW.trod_struct hk hy
          have := flatFs_ok (cs := cs) (n := n) (rec := flat P m) (fun t' ks' cs' y' h' hy' => flat_ok m t' ks' n cs' y' h' hy') fs.toList 0 k1 h1 (fun f hfm => by
            obtain ⟨i, hi⟩ := List.mem_iff_getElem?.1 hfm
            have hi' : fs[i]? = some f := by simpa using hi
            have hlt : i < xs.length := by rw [hxl]; exact (Array.getElem?_eq_some_iff.1 hi').1
            exact ⟨xs[i], by rw [hf i f hi', List.getElem?_eq_getElem hlt]⟩)
          rw [List.drop_zero, ← hc, ← hl, List.take_length] at this
          exact this
        · simp at h
      · simp at h
    · rename_i n e hk
      split at h
      · rename_i k1 h1
        split at h
        · rename_i hc
          simp at h; subst h
          obtain ⟨xs, q, rfl, _, hl, hxl, hf⟩ := DataW.trod_array hk hy
          have key : ∀ d i, i + d = n → AllOk P W (flatN k1 d) (cs.drop (i * k1.length)) := by
            intro d
            induction d with
            | zero =>
              intro i hi
              have : cs.drop (i * k1.length) = [] := List.drop_eq_nil_of_le (by rw [hl, hc.1, ← hi]; simp)
              rw [this]; exact trivial
            | succ d ih =>
              intro i hi
              have h2 := hf i (by omega)
              rw [List.getElem?_eq_getElem (by omega), hc.2] at h2
              have a1 := flat_ok m e k1 q _ _ h1 h2
              have a2 := ih (i + 1) (by omega)
              have := a1.append a2
              rwa [show (i + 1) * k1.length = i * k1.length + k1.length by rw [Nat.succ_mul], ← List.drop_drop, List.take_append_drop] at this
          have := key n 0 (by omega)
          rwa [Nat.zero_mul, List.drop_zero] at this
        · simp at h
      · simp at h
    · simp at h

/-- The plain cells one after another, in words that obtain takes apart. -/
def Ex (P : Program) (W : World) : List FK → (List Value → Prop) → Prop
  | [], K => K []
  | .int k :: ks, K => ∃ z : Int, (Lit.int k z).wf = true ∧ Ex P W ks (fun vs => K (.int k z :: vs))
  | .bool :: ks, K => ∃ b : Bool, Ex P W ks (fun vs => K (.bool b :: vs))
  | .str :: ks, K => ∃ s : ByteArray, s.size ≤ maxLen ∧ Ex P W ks (fun vs => K (.string s :: vs))
  | .sl t :: ks, K => ∃ (sp : Option Addr) (n c : Nat), (∃ (H : Type) (enc : TypeId × Value → H) (fuel : Nat) (y : DataW H × List MemPlace), DataW.trod enc P W 0 (fun _ => true) true fuel t [.slice sp n c] = some y) ∧ Ex P W ks (fun vs => K (.slice sp n c :: vs))

theorem AllOk.ex : ∀ {ks : List FK} {vs : List Value} {K : List Value → Prop}, AllOk P W ks vs → K vs → Ex P W ks K
  | [], [], K, _, h => h
  | k :: ks, v :: vs, K, ⟨h1, h2⟩, h => by
    cases k with
    | int k => obtain ⟨z, rfl, hw⟩ := h1; exact ⟨z, hw, h2.ex h⟩
    | bool => obtain ⟨z, rfl⟩ := h1; exact ⟨z, h2.ex h⟩
    | str => obtain ⟨z, rfl, hw⟩ := h1; exact ⟨z, hw, h2.ex h⟩
    | sl t => obtain ⟨sp, n, c, rfl, hw⟩ := h1; exact ⟨sp, n, c, hw, h2.ex h⟩
  | [], _ :: _, _, h, _ => h.elim
  | _ :: _, [], _, h, _ => h.elim

/-- A struct by value, opened. -/
theorem open_flat {m : Nat} {t : TypeId} {ks : List FK} (hk : flat P m t = some ks) {r : Reach} {b0 : Nat} {v : Value} {fs : Array Field} (hs : P.underlying t = some (.struct fs)) (hv : Value.okWide P W r b0 t v) {d : DataW H} {p : List MemPlace}
    (h : DataW.Trod enc P W 0 (fun _ => true) true t v d p) : Ex P W ks (fun vs => v = .agg vs.toArray) := by
  obtain ⟨cs, rfl, hsz⟩ := okWide_struct hs hv
  obtain ⟨fuel, hf⟩ := h
  exact (flat_ok m t ks fuel _ _ hk hf).ex (by simp [Value.cells])
/-- An array by value, opened. -/
theorem open_flat_arr {m : Nat} {t : TypeId} {ks : List FK} (hk : flat P m t = some ks) {cs : Array Value} {d : DataW H} {p : List MemPlace}
    (h : DataW.Trod enc P W 0 (fun _ => true) true t (.agg cs) d p) : Ex P W ks (fun vs => Value.agg cs = .agg vs.toArray) := by
  obtain ⟨fuel, hf⟩ := h
  exact (flat_ok m t ks fuel _ _ hk hf).ex (by simp [Value.cells])

/-- A slice that came in, its elements plain: element i is C i, cell by cell. -/
structure RowsIn (P : Program) (W : World) (ks : List FK) (sp : Option Addr) (n : Nat) (b o : Nat) (C : Nat → List Value) : Prop where
  at_ : 0 < n → sp = some ⟨b, o, none⟩ ∧ b < W.heap.size
  cell : ∀ i j, i < n → j < ks.length → W.cell? ⟨b, o + i * ks.length + j, none⟩ = (C i)[j]?
  ok : ∀ i, i < n → AllOk P W ks (C i)

theorem addr_off (B o j : Nat) : (⟨B, o, none⟩ : Addr).add j = ⟨B, o + j, none⟩ := by unfold Addr.add; split <;> simp_all

theorem open_rows_cs {m : Nat} {t e : TypeId} {ks : List FK} (ht : P.underlying t = some (.slice e)) (hk : flat P m e = some ks) (hc : P.cellsOf e = ks.length) (hp : 0 < ks.length) {sp : Option Addr} {n cap fuel : Nat} {y : DataW H × List MemPlace}
    (hf : DataW.trod enc P W 0 (fun _ => true) true fuel t [.slice sp n cap] = some y) : ∃ b o C, RowsIn P W ks sp n b o C ∧ n ≤ maxLen ∧ n ≤ cap := by
  rcases open_slice ht hf with ⟨hcs, hx⟩ | ⟨a, len, cap', m', N, D, Pl, hcs, hb, hl, hm, hmm, hx, hi⟩
  · have : n = 0 := by simp at hcs; exact hcs.2.1
    subst this
    exact ⟨0, 0, fun _ => [], ⟨fun h => by omega, fun i j h => by omega, fun i h => by omega⟩, Nat.zero_le _, Nat.zero_le _⟩
  · simp at hcs
    obtain ⟨rfl, rfl, rfl⟩ := hcs
    have hnm : n ≤ m' := by simp at hmm; omega
    have hel : ∀ i, i < n → ∃ cs, (∀ j, j < ks.length → W.cell? (a.add (i * ks.length + j)) = cs[j]?) ∧ AllOk P W ks cs := by
      intro i hin
      obtain ⟨cs, hcc, htt⟩ := hi i (by omega)
      rw [hc] at hcc
      obtain ⟨_, hcl, hat⟩ := World.cells?_some hcc
      refine ⟨cs, fun j hj => ?_, flat_ok m e ks N cs _ hk htt⟩
      have := hat j hj
      rwa [Go.Deep.add_add] at this
    by_cases h0 : n = 0
    · subst h0
      exact ⟨0, 0, fun _ => [], ⟨fun h => by omega, fun i j h => by omega, fun i h => by omega⟩, by omega, by omega⟩
    · obtain ⟨cs0, e0, ok0⟩ := hel 0 (by omega)
      have e00 := e0 0 hp
      rw [Nat.zero_mul] at e00
      have ha : a.add (0 + 0) = a := rfl
      rw [ha, List.getElem?_eq_getElem (by rw [ok0.length]; exact hp)] at e00
      obtain ⟨bb, oo, ss⟩ := a
      have hs : ss = none := by
        cases ss with
        | none => rfl
        | some q => simp [World.cell?] at e00; split at e00 <;> simp at e00
      subst hs
      have hbl : bb < W.heap.size := by
        rcases Nat.lt_or_ge bb W.heap.size with h' | h'
        · exact h'
        · simp [World.cell?, Array.getElem?_eq_none h'] at e00
      have hz : ∀ i, ∃ cs : List Value, i < n → (∀ j, j < ks.length → W.cell? ⟨bb, oo + i * ks.length + j, none⟩ = cs[j]?) ∧ AllOk P W ks cs := by
        intro i
        by_cases hi' : i < n
        · obtain ⟨cs, q1, q2⟩ := hel i hi'
          exact ⟨cs, fun _ => ⟨fun j hj => by have := q1 j hj; rwa [addr_off, ← Nat.add_assoc] at this, q2⟩⟩
        · exact ⟨[], fun h => absurd h hi'⟩
      obtain ⟨C, hC⟩ := Classical.axiomOfChoice hz
      exact ⟨bb, oo, C, ⟨fun _ => ⟨rfl, hbl⟩, fun i j h hj => (hC i h).1 j hj, fun i h => (hC i h).2⟩, by omega, by omega⟩

theorem open_rows {m : Nat} {t e : TypeId} {ks : List FK} (ht : P.underlying t = some (.slice e)) (hk : flat P m e = some ks) (hc : P.cellsOf e = ks.length) (hp : 0 < ks.length) {sp : Option Addr} {n cap : Nat} {d : DataW H} {p : List MemPlace}
    (h : DataW.Trod enc P W 0 (fun _ => true) true t (.slice sp n cap) d p) : ∃ b o C, RowsIn P W ks sp n b o C ∧ n ≤ maxLen ∧ n ≤ cap := by
  obtain ⟨fuel, hf⟩ := h
  exact open_rows_cs ht hk hc hp (by simpa [Value.cells] using hf)

/-- The integer, the bool in a cell. -/
def zat (C : Nat → List Value) (i j : Nat) : Int := intOf ((C i).getD j undef)
def bat (C : Nat → List Value) (i j : Nat) : Bool := match (C i).getD j undef with | .bool b => b | _ => false

theorem RowsIn.int {ks : List FK} {sp : Option Addr} {n b o : Nat} {C : Nat → List Value} (h : RowsIn P W ks sp n b o C) {i : Nat} (hi : i < n) (j : Nat) {k : IntKind} (hj : ks[j]? = some (.int k)) :
    W.cell? ⟨b, o + i * ks.length + j, none⟩ = some (.int k (zat C i j)) ∧ (Lit.int k (zat C i j)).wf = true := by
  obtain ⟨v, h1, z, rfl, hw⟩ := (h.ok i hi).at j _ hj
  have hz : zat C i j = z := by unfold zat; rw [List.getD_eq_getElem?_getD, h1]; rfl
  rw [h.cell i j hi (List.getElem?_eq_some_iff.1 hj).1, h1, hz]
  exact ⟨rfl, hw⟩
theorem RowsIn.bool {ks : List FK} {sp : Option Addr} {n b o : Nat} {C : Nat → List Value} (h : RowsIn P W ks sp n b o C) {i : Nat} (hi : i < n) (j : Nat) (hj : ks[j]? = some .bool) :
    W.cell? ⟨b, o + i * ks.length + j, none⟩ = some (.bool (bat C i j)) := by
  obtain ⟨v, h1, z, rfl⟩ := (h.ok i hi).at j _ hj
  have hz : bat C i j = z := by unfold bat; rw [List.getD_eq_getElem?_getD, h1]; rfl
  rw [h.cell i j hi (List.getElem?_eq_some_iff.1 hj).1, h1, hz]
/-- The same in a later world. -/
theorem RowsIn.old {ks : List FK} {sp : Option Addr} {n b o : Nat} {C : Nat → List Value} (h : RowsIn P W ks sp n b o C) {i : Nat} (hi : i < n) {k : Nat} {x : Option Value} (hx : W.cell? ⟨b, k, none⟩ = x) {w' : World} (hb : Below W.heap.size W w') : w'.cell? ⟨b, k, none⟩ = x :=
  (hb.cell (p := ⟨b, k, none⟩) (h.at_ (by omega)).2).trans hx
end

end Go.Proofs.YtchoiimmcgkimaaDoor
