/- Maps keyed by numbers: what is found, what a store leaves. No program in sight. -/
import Derived.Test.YtkaoeilijdeioaaAs
import Derived.Maps.OwnOps
namespace Go.Proofs.Ytkaoeilijdeioaa
open Go.RowKit
set_option linter.unusedVariables false
set_option maxRecDepth 100000
set_option linter.unusedSimpArgs false

def isK (v : Value) (k : Int) : Bool := match v with | .int .i64 a => a == k | _ => false
def fnd : List MapEntry → Int → Option Value
  | [], _ => none
  | e :: l, k => if isK e.key k then some e.val else fnd l k
def KInts (l : List MapEntry) : Prop := ∀ e ∈ l, ∃ a, e.key = .int .i64 a
theorem isK_int (a k : Int) : isK (.int .i64 a) k = (a == k) := rfl
theorem fnd_cons (e : MapEntry) (l : List MapEntry) (k : Int) : fnd (e :: l) k = if isK e.key k then some e.val else fnd l k := rfl

def updE (l : List MapEntry) (j : Nat) (k : Int) (x : Value) : List MapEntry := l.modify j fun e => { e with key := .int .i64 k, val := x }
theorem fnd_now (k : Int) : ∀ (l : List MapEntry) (i : Nat), KInts l →
    (Instr.findNow (.int .i64) (.int .i64 k) l i = some none ∧ fnd l k = none ∧ ∀ x b k', fnd (l ++ [⟨.int .i64 k, x, b⟩]) k' = if k' = k then some x else fnd l k') ∨
    ∃ j v, Instr.findNow (.int .i64) (.int .i64 k) l i = some (some (i + j, v)) ∧ fnd l k = some v ∧ (l[j]?).map (·.key) = some (.int .i64 k) ∧
      ∀ x, KInts (updE l j k x) ∧ ∀ k', fnd (updE l j k x) k' = if k' = k then some x else fnd l k'
  | [], i, _ => by
    left
    refine ⟨rfl, rfl, fun x b k' => ?_⟩
    simp only [List.nil_append, fnd_cons, isK_int, fnd]
    by_cases h : k' = k
    · subst h; simp
    · have h' : ¬ k = k' := fun e => h e.symm
      simp [h, h']
  | e :: l, i, h => by
    obtain ⟨a, ha⟩ := h e (List.mem_cons_self ..)
    have hl : KInts l := fun x hx => h x (List.mem_cons_of_mem _ hx)
    have hnow : ∀ b : Bool, (k == a) = b → Instr.findNow (.int .i64) (.int .i64 k) (e :: l) i = match b with | true => some (some (i, e.val)) | false => Instr.findNow (.int .i64) (.int .i64 k) l (i + 1) := by
      intro b hb
      simp only [Instr.findNow, ha, Instr.sameNow, if_true, hb]
      cases b <;> rfl
    by_cases hk : a = k
    · subst hk
      right
      refine ⟨0, e.val, by rw [hnow true (by simp)]; simp, by rw [fnd_cons, ha, isK_int]; simp, by simp [ha], fun x => ⟨?_, fun k' => ?_⟩⟩
      · intro y hy
        have : updE (e :: l) 0 a x = { e with key := .int .i64 a, val := x } :: l := by simp [updE]
        rw [this] at hy
        rcases List.mem_cons.1 hy with rfl | hy
        · exact ⟨a, rfl⟩
        · exact hl y hy
      · have : updE (e :: l) 0 a x = { e with key := .int .i64 a, val := x } :: l := by simp [updE]
        rw [this, fnd_cons, fnd_cons, ha]
        simp only [isK_int]
        by_cases h : k' = a
        · subst h; simp
        · have h' : ¬ a = k' := fun e => h e.symm
          simp [h, h']
    · have hne : (k == a) = false := by simpa using fun e => hk e.symm
      have hf : fnd (e :: l) k = fnd l k := by rw [fnd_cons, ha, isK_int]; simp [hk]
      rcases fnd_now k l (i + 1) hl with ⟨h1, h2, h3⟩ | ⟨j, v, h1, h2, h3, h4⟩
      · left
        refine ⟨by rw [hnow false hne]; exact h1, hf.trans h2, fun x b k' => ?_⟩
        rw [List.cons_append, fnd_cons, fnd_cons, h3, ha, isK_int]
        by_cases h : k' = k
        · subst h; simp [hk]
        · simp [h]
      · right
        refine ⟨j + 1, v, by rw [hnow false hne]; show _ = some (some (i + (j + 1), v)); rw [show i + (j + 1) = i + 1 + j by omega]; exact h1, hf.trans h2, by simpa using h3, fun x => ?_⟩
        have e1 : updE (e :: l) (j + 1) k x = e :: updE l j k x := by simp [updE]
        obtain ⟨h5, h6⟩ := h4 x
        rw [e1]
        refine ⟨fun y hy => ?_, fun k' => ?_⟩
        · rcases List.mem_cons.1 hy with rfl | hy
          · exact ⟨a, ha⟩
          · exact h5 y hy
        · rw [fnd_cons, fnd_cons, h6, ha, isK_int]
          by_cases h : k' = k
          · subst h; simp [hk]
          · simp [h]

section
variable {P : Program} {w : World} {T K E : TypeId} {m : Nat} {es : Array MapEntry} {c : Nat}
theorem run_find_int (hK : P.underlying K = some (.int .i64)) (k : Int) (l : List MapEntry) {r : Option (Nat × Value)} (h : Instr.findNow (.int .i64) (.int .i64 k) l 0 = some r) : (Instr.findKey K (.int .i64 k) l).run P w = .ok r w := by
  simp [Instr.findKey, run_underlying hK, h]
theorem run_ckey_int (hK : P.underlying K = some (.int .i64)) (b : Bool) (k : Int) : (Instr.checkKey b 10000 K (.int .i64 k)).run P w = .ok () w :=
  MapKept.run_checkKey hK (by simp [MapKept.IsKey]) b 9999
theorem run_look_some (hT : P.underlying T = some (.map K E)) (hK : P.underlying K = some (.int .i64)) (hm : w.heap[m]? = some (.map es c)) (hi : KInts es.toList) {k : Int} {v : Value} (hf : fnd es.toList k = some v) :
    (Instr.lookup T (.map (some m)) (.int .i64 k) true).run P w = .ok (.tuple #[v, .bool true]) w := by
  rcases fnd_now k es.toList 0 hi with ⟨_, h, _⟩ | ⟨j, v', h1, h2, _⟩
  · rw [hf] at h; cases h
  · rw [hf] at h2; obtain rfl := Option.some.inj h2
    simp [Instr.lookup, run_underlying hT, MapKept.run_getObj_map hm, run_ckey_int hK, run_find_int hK k _ h1, Result.andThen]
theorem run_look_none (hT : P.underlying T = some (.map K E)) (hK : P.underlying K = some (.int .i64)) (hm : w.heap[m]? = some (.map es c)) (hi : KInts es.toList) {k : Int} (hf : fnd es.toList k = none) {z : Value} (hz : (zeroValue E).run P w = .ok z w) :
    (Instr.lookup T (.map (some m)) (.int .i64 k) true).run P w = .ok (.tuple #[z, .bool false]) w := by
  rcases fnd_now k es.toList 0 hi with ⟨h1, _, _⟩ | ⟨j, v', h1, h2, _⟩
  · simp [Instr.lookup, run_underlying hT, MapKept.run_getObj_map hm, run_ckey_int hK, run_find_int hK k _ h1, hz, Result.andThen]
  · rw [hf] at h2; cases h2
theorem run_upd_int (hT : P.underlying T = some (.map K E)) (hK : P.underlying K = some (.int .i64)) (hm : w.heap[m]? = some (.map es c)) (hi : KInts es.toList) (k : Int) (x : Value) :
    ∃ es' c', (Instr.mapUpdate T (.map (some m)) (.int .i64 k) x).run P w = .ok () { w with heap := w.heap.setIfInBounds m (.map es' c') } ∧ KInts es'.toList ∧ ∀ k', fnd es'.toList k' = if k' = k then some x else fnd es.toList k' := by
  rcases fnd_now k es.toList 0 hi with ⟨h1, h2, h3⟩ | ⟨j, v, h1, h2, h3, h4⟩
  · refine ⟨es.push ⟨.int .i64 k, x, c⟩, c + 1, ?_, ?_, ?_⟩
    · simp [Instr.mapUpdate, run_underlying hT, MapKept.run_getObj_map hm, run_ckey_int hK, run_find_int hK k _ h1, MapKept.run_setObj_map _ hm, Result.andThen]
    · intro e he
      simp at he
      rcases he with he | rfl
      · exact hi e (by simpa using he)
      · exact ⟨k, rfl⟩
    · intro k'
      rw [Array.toList_push]
      exact h3 x c k'
  · obtain ⟨h5, h6⟩ := h4 x
    have e1 : (es.modify j fun e => { e with key := .int .i64 k, val := x }).toList = updE es.toList j k x := by simp [updE]
    have h3' : (es[j]?).map (·.key) = some (.int .i64 k) := by simpa using h3
    refine ⟨es.modify j fun e => { e with key := .int .i64 k, val := x }, c, ?_, by rw [e1]; exact h5, fun k' => by rw [e1]; exact h6 k'⟩
    have hj : 0 + j = j := by omega
    rw [hj] at h1
    simp [Instr.mapUpdate, run_underlying hT, MapKept.run_getObj_map hm, run_ckey_int hK, run_find_int hK k _ h1, MapKept.run_setObj_map _ hm, Result.andThen, h3', Instr.keyThatStays, Instr.sameBits]
end

/-- Block m is a map keyed by numbers that holds f. -/
def MapAt (w : World) (m : Nat) (f : Int → Option Value) : Prop := ∃ es c, w.heap[m]? = some (.map es c) ∧ KInts es.toList ∧ ∀ k, fnd es.toList k = f k
theorem MapAt.kept {w w' : World} {m : Nat} {f : Int → Option Value} (h : MapAt w m f) (e : w'.heap[m]? = w.heap[m]?) : MapAt w' m f := by
  obtain ⟨es, c, h1, h2, h3⟩ := h
  exact ⟨es, c, e.trans h1, h2, h3⟩
theorem MapAt.new (w : World) : MapAt (w.alloc (.map #[] 0)) w.heap.size fun _ => none := ⟨#[], 0, (MapKept.heap_alloc w _).1, by simp [KInts], fun k => rfl⟩

end Go.Proofs.Ytkaoeilijdeioaa
