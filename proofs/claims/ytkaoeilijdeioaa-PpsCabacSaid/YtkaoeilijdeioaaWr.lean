/- The program's writer: what each of its functions does, at every state. -/
import Derived.Test.YtkaoeilijdeioaaRd
import Derived.StillTailTactics
import Derived.Lib.AppendZeros
import Derived.Laws.CopyOwn
namespace Go.Proofs.Ytkaoeilijdeioaa
open Go.RowKit
set_option linter.unusedVariables false
set_option maxRecDepth 100000
set_option linter.unusedSimpArgs false

/-! ### rows of bytes -/
def bv (c : UInt8) : Value := .int .u8 c.toNat

theorem heap_setCell_self {w : World} {b : Nat} {cs : Array Value} {t : TypeId} {f : Nat × Nat} (h : w.heap[b]? = some (.cells cs t f)) (k : Nat) (v : Value) :
    (w.setCell ⟨b, k, none⟩ v).heap[b]? = some (.cells (cs.setIfInBounds k v) t f) := by
  have hlt := lt_of_block h
  have h' : w.heap[b] = .cells cs t f := by simpa [Array.getElem?_eq_getElem hlt] using h
  show (w.heap.modify b _)[b]? = _
  rw [Array.getElem?_eq_getElem (by simpa using hlt), Array.getElem_modify_self, h']
  rfl

theorem size_setCell (w : World) (a : Addr) (v : Value) : (w.setCell a v).heap.size = w.heap.size := by simp [World.setCell]

theorem cell_some {w : World} {b : Nat} {cs : Array Value} {t : TypeId} {f : Nat × Nat} (h : w.heap[b]? = some (.cells cs t f)) {k : Nat} (hk : k < cs.size) : ∃ y, w.cell? ⟨b, k, none⟩ = some y :=
  ⟨cs[k], by simp [World.cell?, h, hk]⟩
theorem free_of {w : World} {b : Nat} {cs : Array Value} {t : TypeId} (h : w.heap[b]? = some (.cells cs t (0, 0))) {k : Nat} : w.frozen? ⟨b, k, none⟩ = false := by simp [World.frozen?, h]

/-- A slice value v whose bytes are ws, in blocks of G's. -/
def BytesAt (w : World) (G : Nat → Prop) (v : Value) (ws : List UInt8) : Prop :=
  w.ownsRow 0 5 1 v ws.length (ws.map bv) ∧ ∀ c, v.ownBlock = some c → G c

theorem BytesAt.loc {w w' : World} {G G' : Nat → Prop} {v : Value} {ws : List UInt8} (hh : ∀ c, G c → w'.heap[c]? = w.heap[c]?) (hG : ∀ c, G c → G' c) (h : BytesAt w G v ws) : BytesAt w' G' v ws := by
  obtain ⟨⟨h1, h2⟩, h3⟩ := h
  refine ⟨⟨h1, ?_⟩, fun c hc => hG c (h3 c hc)⟩
  rcases h2 with h2 | ⟨g, cap, cur, rfl, hg, hh', r⟩
  · exact Or.inl h2
  · exact Or.inr ⟨g, cap, cur, rfl, hg, (hh g (h3 g rfl)).trans hh', r⟩

theorem BytesAt.form {w : World} {G : Nat → Prop} {v : Value} {ws : List UInt8} (h : BytesAt w G v ws) : ∃ sp cap, v = .slice sp ws.length cap ∧ ws.length ≤ maxLen ∧ cap ≤ maxLen := by
  obtain ⟨⟨h1, h2⟩, h3⟩ := h
  rcases h2 with ⟨rfl, h0⟩ | ⟨g, cap, cur, rfl, hg, hh', h4, h5, r⟩
  · exact ⟨none, 0, by rw [h0], by omega, Nat.zero_le _⟩
  · exact ⟨_, cap, rfl, by omega, h5⟩

theorem bv_one (ws : List UInt8) : ∀ u ∈ ws.map bv, u.oneCell' = true := by
  intro u hu
  obtain ⟨c, _, rfl⟩ := List.mem_map.1 hu
  rfl

/-! ### append(x, make([]byte, n)...) on a row of the call's own -/
theorem run_append_zeros_own {P : Program} (w : World) (t tn ty e : TypeId) (i : TypeInfo) (ht : P.underlying t = some (.slice e)) (htn : P.underlying tn = some (.int .i64)) (hi : P.info? e = some i) (hz : i.zero = some (.int .u8 0))
    (hsize : i.size = 1) (hby : i.bytes = 1) (v : Value) (ws : List UInt8) (G : Nat → Prop) (hown : w.ownsRow 0 e 1 v ws.length (ws.map bv)) (m : Nat) (h0 : 0 < m)
    (h63 : ws.length + m ≤ 140737488355328) :
    ∃ g cap w', (Builtin.append_ #[t, tn] ty #[v, .int .i64 m]).run P w = .ok (.slice (some ⟨g, 0, none⟩) (ws.length + m) cap) w' ∧ w'.ownsRow 0 e 1 (.slice (some ⟨g, 0, none⟩) (ws.length + m) cap) (ws.length + m) ((ws ++ List.replicate m 0).map bv) ∧
      w.grownBy w' v.ownBlock ∧ (v.ownBlock = some g ∨ (w.heap.size = g ∧ g < w'.heap.size)) := by
  have hn : m ≠ 0 := by omega
  have hw : IntKind.i64.wrap (m : Int) = m := by rw [IntKind.wrap_i64]; omega
  have hneg : ¬ ((m : Int) < 0) := by omega
  have h48i : ¬ (281474976710656 < (m : Int)) := by omega
  have hzc : Builtin.zeroCells #[Value.int .u8 0] m = ((List.replicate m (0 : UInt8)).map bv).toArray := by
    simp only [List.map_replicate, Builtin.zeroCells]
    apply Array.ext
    · simp
    · intro j h1 h2
      simp [bv, Nat.mod_one]
  have hzv : (Value.int .u8 0).cells = #[Value.int .u8 0] := rfl
  have hlen : ((ws ++ List.replicate m 0).map bv).length = (ws.length + m) * 1 := by simp
  rcases hown.2 with ⟨rfl, hl0⟩ | ⟨g, cap, cur, rfl, hbg, hg, hnc, hcm, hcs, htake⟩
  · have hws : ws = [] := List.eq_nil_of_length_eq_zero hl0
    subst hws
    have hr := Lib.run_append_nil_zeros (P := P) w t tn ty e i (.int .u8 0) .i64 .i64 ht htn hi hz m h0 (by omega) (by omega) (by rw [hby]; simp at h63; omega)
    have hge := grownCap_ge w m 0 e
    have hcm : grownCap w m 0 e ≤ maxLen := grownCap_le_maxLen w m 0 e (by unfold maxLen; simp at h63; omega)
    have e0 : ([] : List UInt8).length + m = m := by simp
    rw [e0]
    refine ⟨w.heap.size, grownCap w m 0 e, _, hr, ⟨by simp, .inr ⟨w.heap.size, _, _, rfl, Nat.zero_le _, heap_alloc_new w.drew _, hge, hcm, ?_, ?_⟩⟩, ⟨rfl, rfl, rfl, by simp, fun k hk _ => Below.heap_alloc w.drew _ _ hk⟩, Or.inr ⟨rfl, by simp⟩⟩
    · simp only [Array.size_append, size_zeroCells, hzv, List.size_toArray, List.length_cons, List.length_nil]; omega
    · rw [hzv, hzc]
      simp
  · have hcs' : cur.size = cap := by simpa using hcs
    have htake' : cur.toList.take ws.length = ws.map bv := by simpa using htake
    by_cases hroom : ws.length + m ≤ cap
    · have hst := run_storeCells_at P g ws.length e ((List.replicate m (0 : UInt8)).map bv) 0 cur w hg (by simp; omega) (bv_one _)
      simp only [Nat.add_zero] at hst
      have hst2 := hst
      simp only [List.map_replicate, List.length_replicate] at hst2
      refine ⟨g, cap, w.setRow g (cur.toList.take ws.length ++ (List.replicate m (0 : UInt8)).map bv ++ cur.toList.drop (ws.length + ((List.replicate m (0 : UInt8)).map bv).length)).toArray, ?_, ⟨hlen, .inr ⟨g, cap, _, rfl, hbg, setRow_heap w g cur _ e _ hg, hroom, hcm, ?_, ?_⟩⟩, ⟨rfl, rfl, rfl, by simp, fun k _ hk => setRow_other w g k _ (fun e => hk (by simp [Value.ownBlock, e]))⟩, Or.inl rfl⟩
      · have hzl : (Builtin.zeroCells #[Value.int .u8 0] m).toList = (List.replicate m (0 : UInt8)).map bv := by rw [hzc]
        have hm1 : ¬ (m * 1 = 0) := by omega
        simp [Builtin.append_, run_underlying ht, run_underlying htn, sizeOf, typeInfo, zeroValue, hi, hz, hsize, hby, asInt, asIntOf, hw, hn, hneg, h48i, hroom, Addr.add_lit, hzv, hzl, hst2]
      · simp; omega
      · rw [htake', Nat.mul_one, List.map_append]
        have e1 : ws.length + m = (ws.map bv ++ (List.replicate m (0 : UInt8)).map bv).length := by simp
        conv => lhs; rw [e1]
        exact List.take_left
    · have hge := grownCap_ge w (ws.length + m) cap e
      have hcm' : grownCap w (ws.length + m) cap e ≤ maxLen := grownCap_le_maxLen w (ws.length + m) cap e (by unfold maxLen; omega)
      have holds : ∀ j u, (ws.map bv)[j]? = some u → w.cell? ((⟨g, 0, none⟩ : Addr).add j) = some u := hown.cells (g := g) rfl
      have hfo := run_firstCells_some (P := P) w.drew 1 ws.length ⟨g, 0, none⟩ ws.length cap (ws.map bv) (by simp) (by simpa using holds)
      have h63' : ¬ (9223372036854775807 < ((ws.length : Int) + (m : Int))) := by omega
      have hfit := growslice_fits (need := ws.length + m) (old := cap) (bytes := 1) (by omega) (by omega)
      have h48' : ¬ (281474976710656 < Builtin.nextslicecap (ws.length + m) cap * 1) := by omega
      refine ⟨w.heap.size, grownCap w (ws.length + m) cap e, w.drew.alloc (.cells ((ws.map bv).toArray ++ Builtin.zeroCells #[Value.int .u8 0] m ++ Builtin.zeroCells #[Value.int .u8 0] (grownCap w (ws.length + m) cap e - (ws.length + m))) e), ?_, ⟨hlen, .inr ⟨w.heap.size, _, _, rfl, Nat.zero_le _, heap_alloc_new w.drew _, hge, hcm', ?_, ?_⟩⟩, ⟨rfl, rfl, rfl, by simp, fun k hk _ => Below.heap_alloc w.drew _ _ hk⟩, Or.inr ⟨rfl, by simp⟩⟩
      · have hm1 : ¬ (m * 1 = 0) := by omega
        simp only [Nat.mul_one] at h48'
        simp [Builtin.append_, run_underlying ht, run_underlying htn, sizeOf, typeInfo, zeroValue, hi, hz, hsize, hby, asInt, asIntOf, hw, hn, hneg, h48i, h48', h63', hroom, hzv, Question.forced, hfo, newRow, grownCap]
      · simp only [Array.size_append, size_zeroCells, List.size_toArray, List.length_cons, List.length_nil, List.length_map]; omega
      · rw [hzc, Nat.mul_one, List.map_append]
        have e1 : ws.length + m = (ws.map bv ++ (List.replicate m (0 : UInt8)).map bv).length := by simp
        conv => lhs; rw [e1]
        simp only [Array.toList_append, List.append_assoc]
        rw [← List.append_assoc]
        exact List.take_left


theorem u8_info : ∃ i : TypeInfo, Try.prog.info? 5 = some i ∧ i.zero = some (.int .u8 0) ∧ i.size = 1 ∧ i.bytes = 1 := by
  obtain ⟨i, h, h0, h1, h2⟩ := info_parts (show (Try.prog.info? 5).map (fun i => (i.zero, i.size, i.bytes)) = some (some (.int .u8 0), 1, 1) by kernel_rfl)
  exact ⟨i, h, h0, h1, h2⟩

/-! ### the writer -/
def wrObj (v : Value) (pt ct : Nat) : Obj := .cells #[v, .int .u8 pt, .int .i64 ct] 89 (0, 0)

/-- The program's writer at block b: the bits that it has. -/
def aWr (b : Nat) (B : List Bool) : AObj where
  P w G := G b ∧ ∃ (v : Value) (ws : List UInt8) (pt ct : Nat), w.heap[b]? = some (wrObj v pt ct) ∧ BytesAt w (fun c => G c ∧ c ≠ b) v ws ∧ ct < 8 ∧ pt < 2 ^ ct ∧ B = sbitsL ws ++ bitsN ct pt
  loc hh hG := fun ⟨h1, v, ws, pt, ct, h2, h3, h4⟩ => ⟨hG _ h1, v, ws, pt, ct, (hh _ h1).trans h2, h3.loc (fun c hc => hh c hc.1) (fun c hc => ⟨hG c hc.1, hc.2⟩), h4⟩

theorem cells_three {w : World} {b : Nat} {x y z : Value} {t : TypeId} (h : w.heap[b]? = some (.cells #[x, y, z] t (0, 0))) :
    w.cell? ⟨b, 0, none⟩ = some x ∧ w.cell? ⟨b, 1, none⟩ = some y ∧ w.cell? ⟨b, 2, none⟩ = some z ∧ w.frozen? ⟨b, 0, none⟩ = false ∧ w.frozen? ⟨b, 1, none⟩ = false ∧ w.frozen? ⟨b, 2, none⟩ = false := by
  simp [World.cell?, World.frozen?, h]

theorem Hp.wr {W w : World} {L : List AObj} {F : List (Nat × Obj)} {b : Nat} {B : List Bool} (h : Hp W w L F) (k : Nat) (hk : L[k]? = some (aWr b B)) :
    ∃ (v : Value) (ws : List UInt8) (pt ct : Nat) (G : Nat → Prop), w.heap[b]? = some (wrObj v pt ct) ∧ BytesAt w (fun c => G c ∧ c ≠ b) v ws ∧ ct < 8 ∧ pt < 2 ^ ct ∧ B = sbitsL ws ++ bitsN ct pt := by
  obtain ⟨_, o, _, _, _, hL⟩ := h
  obtain ⟨_, v, ws, pt, ct, h2⟩ := hL k _ hk
  exact ⟨v, ws, pt, ct, _, h2⟩

/-- Two blocks alone have turned: b, and a new one. -/
structure TwoB (w : World) (b : Nat) (wr : World) (ob oa : Obj) : Prop where
  os : wr.os = w.os
  tape : wr.tape = w.tape
  output : wr.output = w.output
  size : wr.heap.size = w.heap.size + 1
  rest : ∀ c, c < w.heap.size → c ≠ b → wr.heap[c]? = w.heap[c]?
  lt : b < w.heap.size
  at_ : wr.heap[b]? = some ob
  new : wr.heap[w.heap.size]? = some oa

theorem TwoB.drew {w wr : World} {b : Nat} {ob oa : Obj} (h : TwoB w b wr ob oa) : TwoB w b wr.drew ob oa := ⟨h.os, h.tape, h.output, h.size, h.rest, h.lt, h.at_, h.new⟩
theorem TwoB.setb {w wr : World} {b : Nat} {oa : Obj} {cs : Array Value} {t : TypeId} {f : Nat × Nat} (h : TwoB w b wr (.cells cs t f) oa) (k : Nat) (v : Value) :
    TwoB w b (wr.setCell ⟨b, k, none⟩ v) (.cells (cs.setIfInBounds k v) t f) oa := by
  have hlt := h.lt
  refine ⟨h.os, h.tape, h.output, ?_, fun c hc hn => ?_, hlt, heap_setCell_self h.at_ k v, ?_⟩
  · rw [size_setCell]; exact h.size
  · rw [Below.heap_setCell _ _ _ _ hn]; exact h.rest c hc hn
  · rw [Below.heap_setCell _ _ _ _ (by show w.heap.size ≠ b; omega)]; exact h.new
theorem TwoB.seta {w wr : World} {b : Nat} {ob : Obj} {cs : Array Value} {t : TypeId} {f : Nat × Nat} (h : TwoB w b wr ob (.cells cs t f)) (k : Nat) (v : Value) :
    TwoB w b (wr.setCell ⟨w.heap.size, k, none⟩ v) ob (.cells (cs.setIfInBounds k v) t f) := by
  have hlt := h.lt
  refine ⟨h.os, h.tape, h.output, ?_, fun c hc hn => ?_, hlt, ?_, heap_setCell_self h.new k v⟩
  · rw [size_setCell]; exact h.size
  · rw [Below.heap_setCell _ _ _ _ (by show c ≠ w.heap.size; omega)]; exact h.rest c hc hn
  · rw [Below.heap_setCell _ _ _ _ (by show b ≠ w.heap.size; omega)]; exact h.at_

/-- In the midst of Put: kk whole bytes lie in the array, ct bits in part; T: all of them. -/
structure PutSt (T : List Bool) (kk pt ct : Nat) (fs : List UInt8) : Prop where
  len : fs.length = 9
  kkl : kk ≤ 9
  ct8 : ct < 8
  ptl : pt < 2 ^ ct
  bits : T = sbitsL (fs.take kk) ++ bitsN ct pt

theorem bits_step {T : List Bool} {ws : List UInt8} {ct pt : Nat} (h : T = sbitsL ws ++ bitsN ct pt) (x : Nat) (hx : x ≤ 1) : T ++ [decide (x = 1)] = sbitsL ws ++ bitsN (ct + 1) (2 * pt + x) := by
  rw [h, bitsN, show (2 * pt + x) / 2 = pt by omega, List.append_assoc]
  congr 3
  have : (2 * pt + x) % 2 = x := by omega
  rw [this]

/-- A bit that does not fill the byte. -/
theorem PutSt.bit {T : List Bool} {kk pt ct : Nat} {fs : List UInt8} (h : PutSt T kk pt ct fs) (x : Nat) (hx : x ≤ 1) (h8 : ct ≠ 7) :
    PutSt (T ++ [decide (x = 1)]) kk (2 * pt + x) (ct + 1) fs :=
  ⟨h.len, h.kkl, by have := h.ct8; omega, by have := h.ptl; rw [Nat.pow_succ]; omega, bits_step h.bits x hx⟩

/-- A bit that fills it. -/
theorem PutSt.byte {T : List Bool} {kk pt : Nat} {fs : List UInt8} (h : PutSt T kk pt 7 fs) (x : Nat) (hx : x ≤ 1) (hk : kk < 9) :
    PutSt (T ++ [decide (x = 1)]) (kk + 1) 0 0 (fs.set kk (UInt8.ofNat (2 * pt + x))) := by
  have hp := h.ptl
  have hx8 : 2 * pt + x < 256 := by omega
  have hl := h.len
  refine ⟨by simpa using hl, by omega, by omega, by simp, ?_⟩
  rw [bits_step h.bits x hx]
  have e : (fs.set kk (UInt8.ofNat (2 * pt + x))).take (kk + 1) = fs.take kk ++ [UInt8.ofNat (2 * pt + x)] := by
    rw [List.take_succ_eq_append_getElem (by simp; omega)]
    congr 1
    · rw [List.take_set_of_le (by omega)]
    · simp
  rw [e, sbitsL_append]
  have e3 : sbitsL [UInt8.ofNat (2 * pt + x)] = bitsN 8 (2 * pt + x) := by
    rw [sbitsL_cons, sbitsL_nil, List.append_nil, UInt8.toNat_ofNat', Nat.mod_eq_of_lt (by omega)]
  rw [e3]
  simp [bitsN]

theorem bv_ofNat {n : Nat} (h : n < 256) : bv (UInt8.ofNat n) = .int .u8 (n : Int) := by
  show Value.int .u8 ((UInt8.ofNat n).toNat : Int) = _
  rw [UInt8.toNat_ofNat', Nat.mod_eq_of_lt (by omega)]

theorem set_bytes (fs : List UInt8) (kk n : Nat) (h : n < 256) : ((fs.map bv).toArray.setIfInBounds kk (.int .u8 (n : Int))) = ((fs.set kk (UInt8.ofNat n)).map bv).toArray := by
  rw [List.map_set, bv_ofNat h]
  simp

/-- The bit that the loop takes: its value, as the walk writes it. -/
theorem put_value (pt v j : Nat) (hp : pt < 128) (hv : v < 18446744073709551616) : bits .or .u8 ((pt : Int) * 2) (bits .and .u64 ((v : Int) / 2 ^ j) 1 % 256) = ((2 * pt + v / 2 ^ j % 2 : Nat) : Int) := by
  have e1 : ((v : Int) / 2 ^ j) = ((v / 2 ^ j : Nat) : Int) := by simp
  have h1 : v / 2 ^ j < 18446744073709551616 := Nat.lt_of_le_of_lt (Nat.div_le_self _ _) hv
  rw [e1, u64_and_one h1]
  have e2 : ((v / 2 ^ j % 2 : Nat) : Int) % 256 = ((v / 2 ^ j % 2 : Nat) : Int) := by omega
  have e3 : (pt : Int) * 2 = ((pt * 2 : Nat) : Int) := by omega
  rw [e2, e3, u8_or_nat _ _ (by omega) (by omega), nat_join 1 (pt * 2) (v / 2 ^ j % 2) (by omega) (by omega)]
  omega

theorem twoB_bit {w wr : World} {b : Nat} {vs : Value} {pt ct : Nat} {oa : Obj} (h : TwoB w b wr (wrObj vs pt ct) oa) (x : Nat) :
    TwoB w b ((wr.setCell ⟨b, 1, none⟩ (.int .u8 ((2 * pt + x : Nat) : Int))).setCell ⟨b, 2, none⟩ (.int .i64 ((ct : Int) + 1))) (wrObj vs (2 * pt + x) (ct + 1)) oa := (h.setb 1 _).setb 2 _
theorem twoB_byte {w wr : World} {b : Nat} {vs : Value} {pt ct : Nat} {fs : List UInt8} (h : TwoB w b wr (wrObj vs pt ct) (.cells (fs.map bv).toArray 91 (0, 0))) (n kk : Nat) (hn : n < 256) (z : Value) :
    TwoB w b (((((wr.setCell ⟨b, 1, none⟩ (.int .u8 (n : Int))).setCell ⟨b, 2, none⟩ z).setCell ⟨w.heap.size, kk, none⟩ (.int .u8 (n : Int))).setCell ⟨b, 1, none⟩ (.int .u8 0)).setCell ⟨b, 2, none⟩ (.int .i64 0))
      (wrObj vs 0 0) (.cells ((fs.set kk (UInt8.ofNat n)).map bv).toArray 91 (0, 0)) := by
  have h1 := (((h.setb 1 (.int .u8 (n : Int))).setb 2 z).seta kk (.int .u8 (n : Int))).setb 1 (.int .u8 0)
  rw [set_bytes fs kk n hn] at h1
  exact h1.setb 2 (.int .i64 0)

theorem bitsN_snoc (m v j : Nat) : bitsN (m + 1) (v / 2 ^ j) = bitsN m (v / 2 ^ (j + 1)) ++ [decide (v / 2 ^ j % 2 = 1)] := by
  rw [bitsN, Nat.div_div_eq_div_mul, ← Nat.pow_succ]

theorem put_close {W w wf : World} {L : List AObj} {F : List (Nat × Obj)} {G : Nat → Prop} {k b : Nat} {v : Value} {ws : List UInt8} {pt ct : Nat}
    (HT : ∀ (w' : World) (x' : AObj), w'.os = w.os → w'.tape = w.tape → w'.output = w.output → w.heap.size ≤ w'.heap.size → (∀ c, c < w.heap.size → ¬ G c → w'.heap[c]? = w.heap[c]?) →
        x'.P w' (fun c => G c ∨ (w.heap.size ≤ c ∧ c < w'.heap.size)) → Hp W w' (L.set k x') F)
    (hGb : G b) (e1 : wf.os = w.os) (e2 : wf.tape = w.tape) (e3 : wf.output = w.output) (hs : w.heap.size ≤ wf.heap.size) (hk : ∀ c, c < w.heap.size → c ≠ b → ¬ G c → wf.heap[c]? = w.heap[c]?)
    (hat : wf.heap[b]? = some (wrObj v pt ct)) (hby : BytesAt wf (fun c => (G c ∨ (w.heap.size ≤ c ∧ c < wf.heap.size)) ∧ c ≠ b) v ws) (h8 : ct < 8) (hp : pt < 2 ^ ct) {T : List Bool} (hT : T = sbitsL ws ++ bitsN ct pt) :
    Hp W wf (L.set k (aWr b T)) F :=
  HT wf _ e1 e2 e3 hs (fun c hc hn => hk c hc (fun e => hn (e ▸ hGb)) hn) ⟨Or.inl hGb, v, ws, pt, ct, hat, hby, h8, hp, hT⟩

set_option maxHeartbeats 1000000 in
theorem put_good {W w : World} {L : List AObj} {F : List (Nat × Obj)} (h : Hp W w L F) (k : Nat) {b : Nat} {B : List Bool} (hk : L[k]? = some (aWr b B)) (hB : B.length ≤ 2 ^ 40) (n v : Nat) (hn : n ≤ 64) (hv : v < 2 ^ n) :
    Calls Try.prog 22 #[.pointer (some ⟨b, 0, none⟩), .int .i64 n, .int .u64 v] w fun e w' => e = .returned (.int .i64 0) ∧ Hp W w' (L.set k (aWr b (B ++ bitsN n v))) F := by
  obtain ⟨G, ⟨hGb, vs, ws, p0, c0, hat, hby, hc8, hp0, hbits⟩, hG, hturn⟩ := h.turn k hk
  obtain ⟨sp, cap, rfl, hml, hmc⟩ := hby.form
  have hws : ws.length ≤ 2 ^ 40 := by
    have := congrArg List.length hbits
    simp only [List.length_append, sbitsL_length] at this
    omega
  have hblt := lt_of_block hat
  have HG := Lib.hid hG
  have hv64 : v < 18446744073709551616 := Nat.lt_of_lt_of_le hv (Nat.pow_le_pow_right (n := 2) (j := 64) (i := n) (by omega) hn)
  obtain ⟨x0, x1, x2, y0, y1, y2⟩ := cells_three hat
  have z0 : ((v : Int) / 2 ^ n != 0) = false := by
    have : v / 2 ^ n = 0 := Nat.div_eq_of_lt hv
    have e : ((v : Int) / 2 ^ n) = ((v / 2 ^ n : Nat) : Int) := by simp
    rw [e, this]; rfl
  have T0 : Hid (TwoB w b (w.alloc (.cells ((List.replicate 9 (0 : UInt8)).map bv).toArray 91 (0, 0))) (wrObj (.slice sp ws.length cap) p0 c0) (.cells ((List.replicate 9 (0 : UInt8)).map bv).toArray 91 (0, 0))) :=
    ⟨rfl, rfl, rfl, by simp, fun c hc _ => Below.heap_alloc _ _ _ hc, hblt, (Below.heap_alloc _ _ _ hblt).trans hat, by show (w.heap.push _)[w.heap.size]? = _; simp⟩
  have P0 : Hid (PutSt (bitsN c0 p0 ++ bitsN 0 (v / 2 ^ n)) 0 p0 c0 (List.replicate 9 0)) := ⟨by simp, by omega, hc8, hp0, by simp [bitsN]⟩
  have HH := Lib.hid h
  have HBY := Lib.hid hby
  have HT := Lib.hid hturn
  have HBI := Lib.hid hbits
  have HAT := Lib.hid hat
  clear h hby hturn hbits hp0 hat hk hG hv
  by_cases h64 : n < 64
  all_goals
    go_enter Try.func22, Try.ntmps22
    go_wp2
    go_loopw [8, 9] (fun k i wr => ∃ kk j pt ct : Nat, ∃ fs, k = .int .i64 kk ∧ i = .int .i64 ((j : Int) - 1) ∧ j ≤ n ∧ PutSt (bitsN c0 p0 ++ bitsN (n - j) (v / 2 ^ j)) kk pt ct fs ∧ TwoB w b wr (wrObj (.slice sp ws.length cap) pt ct) (.cells (fs.map bv).toArray 91 (0, 0))) (fun _ i _ => (intOf i + 1).toNat)
    case atStart => exact ⟨0, n, p0, c0, List.replicate 9 0, rfl, rfl, Nat.le_refl _, by rw [Nat.sub_self]; exact P0.out, T0.out⟩
    case round =>
      obtain ⟨kk, j, pt, ct, fs, rfl, rfl, g1, g2, g3⟩ := hrel
      have hlen : 8 * kk + ct ≤ 71 := by
        have hb := congrArg List.length g2.bits
        have hl := g2.len
        have hk9 := g2.kkl
        simp only [List.length_append, bitsN_length, sbitsL_length, List.length_take] at hb
        omega
      have hct := g2.ct8
      obtain ⟨c1, c2, c3, f1, f2, f3⟩ := cells_three g3.at_
      have hf := g3.new
      by_cases hm : 0 < j
      · obtain ⟨j, rfl⟩ : ∃ q, j = q + 1 := ⟨j - 1, by omega⟩
        have hi : (0 : Int) ≤ ((j + 1 : Nat) : Int) - 1 := by omega
        have hpt7 : ct ≤ 7 := by omega
        have hpt : pt < 128 := Nat.lt_of_lt_of_le g2.ptl (Nat.pow_le_pow_right (n := 2) (j := 7) (by omega) hpt7)
        have q1 : (pt : Int) < 128 := by omega
        have q2 : (ct : Int) < 8 := by omega
        have G2 := Lib.hid g2; clear g2
        have G3 := Lib.hid g3; clear g3
        have hval := put_value pt v j hpt hv64
        have hx : v / 2 ^ j % 2 ≤ 1 := by omega
        have HV := Lib.hid hval; clear hval
        have HX := Lib.hid hx; clear hx
        have en : n - j = (n - (j + 1)) + 1 := by omega
        have HE : Hid (bitsN c0 p0 ++ bitsN (n - j) (v / 2 ^ j) = bitsN c0 p0 ++ bitsN (n - (j + 1)) (v / 2 ^ (j + 1)) ++ [decide (v / 2 ^ j % 2 = 1)]) := by
          show _ = _
          rw [en, bitsN_snoc, List.append_assoc]
        clear en
        by_cases h8 : ct = 7
        · subst h8
          have hk8 : kk < 9 := by omega
          have q5 : ¬ b = w.heap.size := by omega
          have q6 : ¬ w.heap.size = b := by omega
          have q7 : (kk : Int) < 9 := by omega
          obtain ⟨y, q8⟩ : ∃ y, wr.cell? ⟨w.heap.size, kk, none⟩ = some y := cell_some hf (by have := G2.out.len; simp; omega)
          have q9 : wr.frozen? ⟨w.heap.size, kk, none⟩ = false := free_of hf
          clear hf
          go_wp2
          go_still_tail 14, (by kernel_rfl)
          change wpList _ _ _ _ _ wr.drew
          generalize hw2 : wr.drew = w2
          have C2 : w2.cell? ⟨b, 1, none⟩ = some (.int .u8 pt) := by rw [← hw2]; exact c2
          have C3 : w2.cell? ⟨b, 2, none⟩ = some (.int .i64 (7 : Nat)) := by rw [← hw2]; exact c3
          have F2 : w2.frozen? ⟨b, 1, none⟩ = false := by rw [← hw2]; exact f2
          have F3 : w2.frozen? ⟨b, 2, none⟩ = false := by rw [← hw2]; exact f3
          have C8 : w2.cell? ⟨w.heap.size, kk, none⟩ = some y := by rw [← hw2]; exact q8
          have F9 : w2.frozen? ⟨w.heap.size, kk, none⟩ = false := by rw [← hw2]; exact q9
          have HW2 := Lib.hid hw2; clear hw2
          go_wp2
          rw [HV.out]
          have G4 := HW2.out ▸ G3.out.drew
          go_roundw
          case rel => exact ⟨kk + 1, j, 0, 0, _, by go_num, rfl, by omega, HE.out ▸ G2.out.byte _ HX.out hk8, twoB_byte G4 _ _ (by omega) _⟩
          case measure => simp [intOf]
        · have q3 : ((ct : Int) + 1 == 8) = false := by simp; omega
          go_wp2
          go_still_tail 14, (by kernel_rfl)
          change wpList _ _ _ _ _ wr.drew
          generalize hw2 : wr.drew = w2
          have C2 : w2.cell? ⟨b, 1, none⟩ = some (.int .u8 pt) := by rw [← hw2]; exact c2
          have C3 : w2.cell? ⟨b, 2, none⟩ = some (.int .i64 ct) := by rw [← hw2]; exact c3
          have F2 : w2.frozen? ⟨b, 1, none⟩ = false := by rw [← hw2]; exact f2
          have F3 : w2.frozen? ⟨b, 2, none⟩ = false := by rw [← hw2]; exact f3
          have HW2 := Lib.hid hw2; clear hw2
          go_wp2
          rw [HV.out]
          have G4 := HW2.out ▸ G3.out.drew
          go_roundw
          case rel => exact ⟨kk, j, 2 * pt + v / 2 ^ j % 2, ct + 1, fs, rfl, rfl, by omega, HE.out ▸ G2.out.bit _ HX.out h8, twoB_bit G4 _⟩
          case measure => simp [intOf]
      · obtain rfl : j = 0 := by omega
        have hbT : B ++ bitsN n v = sbitsL (ws ++ fs.take kk) ++ bitsN ct pt := by
          have h1 := g2.bits
          rw [Nat.sub_zero, Nat.pow_zero, Nat.div_one] at h1
          rw [HBI.out, List.append_assoc, h1, sbitsL_append, List.append_assoc]
        by_cases hk0 : kk = 0
        · subst hk0
          have G2 := Lib.hid g2; clear g2
          have G3 := Lib.hid g3; clear g3
          have HB := Lib.hid hbT; clear hbT
          go_wp2
          refine bodyPost_ret (results_tmp rfl _ _ _) rfl ⟨rfl, ?_⟩
          have g3 := G3.out
          refine put_close HT.out hGb g3.os g3.tape g3.output (by rw [g3.size]; omega) (fun c hc hn _ => g3.rest c hc hn) g3.at_ (HBY.out.loc (fun c hc => g3.rest c (HG.out c hc.1).2 hc.2) (fun c hc => ⟨Or.inl hc.1, hc.2⟩)) hct G2.out.ptl ?_
          rw [HB.out]; simp
        · have hby' : BytesAt wr (fun c => G c ∧ c ≠ b) (.slice sp ws.length cap) ws := HBY.out.loc (fun c hc => g3.rest c (HG.out c hc.1).2 hc.2) (fun c hc => hc)
          obtain ⟨ti, ti1, ti2, ti3, ti4⟩ := u8_info
          obtain ⟨g, cap', w1, hrun, hown1, hgrow, hcase⟩ := run_append_zeros_own (P := Try.prog) wr 36 3 36 5 ti Try.underlying36 Try.underlying3 ti1 ti2 ti3 ti4 _ ws (fun _ => True) hby'.1 kk (by omega) (by omega)
          have hwrs := g3.size
          have nb : (Value.slice sp ws.length cap).ownBlock ≠ some b := fun e => (hby'.2 b e).2 rfl
          have nA : (Value.slice sp ws.length cap).ownBlock ≠ some w.heap.size := fun e => by have := (HG.out _ (hby'.2 _ e).1).2; omega
          have d0 : w1.heap[b]? = some (wrObj (.slice sp ws.length cap) pt ct) := (hgrow.block b (by omega) (fun e => nb e.symm)).trans g3.at_
          have d1 : w1.heap[w.heap.size]? = some (.cells (fs.map bv).toArray 91 (0, 0)) := (hgrow.block _ (by omega) (fun e => nA e.symm)).trans g3.new
          have hgb : g ≠ b := by
            rcases hcase with e | ⟨e, _⟩
            · exact fun e' => nb (e' ▸ e)
            · omega
          obtain ⟨k1, k2, k3, k4, k5, k6⟩ := cells_three d0
          obtain ⟨r1, r2⟩ := hown1
          rcases r2 with ⟨e, _⟩ | ⟨g', cap2, cur, e, _, r3, r4, r5, r6, r7⟩
          · simp at e
          injection e with e5 e6 e7
          injection e5 with e5
          injection e5 with e5 _
          subst e5
          subst e7
          have s1 : (ws.length : Int) ≤ (ws.length : Int) + (kk : Int) := by omega
          have s2 : ¬ cap' = ws.length := by omega
          have s3 : (kk : Int) ≤ 9 := by omega
          have s4 : (0 : Int) < kk := by omega
          have G2 := Lib.hid g2; clear g2
          have G3 := Lib.hid g3; clear g3
          have HB := Lib.hid hbT; clear hbT
          have HR1 := Lib.hid r1; have HR3 := Lib.hid r3; have HR4 := Lib.hid r4; have HR6 := Lib.hid r6; have HR7 := Lib.hid r7; have HD0 := Lib.hid d0; have HD1 := Lib.hid d1; have HGR := Lib.hid hgrow; have HCA := Lib.hid hcase; have HBY' := Lib.hid hby'
          clear r1 r3 r4 r6 r7 d0 d1 hgrow hcase hby' nb nA hf hwrs
          go_wp2_with (at_builtin; refine Lib.wpList_append_run _ rfl (.tmp 84) (.tmp 85) 36 3 rfl _ _ rfl rfl _ _ hrun ?_)
          have e0 := heap_setCell_self HD0.out 0 (.slice (some ⟨g, 0, none⟩) (ws.length + kk) cap')
          have e1 : (w1.setCell ⟨b, 0, none⟩ (.slice (some ⟨g, 0, none⟩) (ws.length + kk) cap')).heap[w.heap.size]? = some (.cells (fs.map bv).toArray 91 (0, 0)) := by
            rw [Below.heap_setCell _ _ _ _ (by show w.heap.size ≠ b; omega)]; exact HD1.out
          have e2 : (w1.setCell ⟨b, 0, none⟩ (.slice (some ⟨g, 0, none⟩) (ws.length + kk) cap')).heap[g]? = some (.cells cur 5 (0, 0)) := by
            rw [Below.heap_setCell _ _ _ _ hgb]; exact HR3.out
          generalize hwx : w1.setCell ⟨b, 0, none⟩ (.slice (some ⟨g, 0, none⟩) (ws.length + kk) cap') = wx
          rw [hwx] at e0 e1 e2
          obtain ⟨X0, X1, X2, X3, X4, X5⟩ := cells_three (x := .slice (some ⟨g, 0, none⟩) (ws.length + kk) cap') (y := .int .u8 pt) (z := .int .i64 ct) e0
          have HX0 := Lib.hid e0; have HX1 := Lib.hid e1; have HX2 := Lib.hid e2; have HWX := Lib.hid hwx
          clear e0 e1 e2 hwx hrun k1 k2 k3 k4 k5 k6 c1 c2 c3 f1 f2 f3 x0 x1 x2 y0 y1 y2
          go_still_tail 8, (by kernel_rfl)
          change wpList _ _ _ _ _ wx.drew
          have hfl : ((fs.take kk).map bv).length = kk := by have := G2.out.len; simp; omega
          refine wpList_copy_own rfl (.tmp 94) (.tmp 96) 36 36 rfl 5 Try.underlying36 (by kernel_rfl) g ws.length kk (cap' - ws.length) ⟨w.heap.size, 0, none⟩ kk 9 ?_ ?_ cur 5 HX2.out ((fs.take kk).map bv) (by rw [hfl]; exact (Nat.min_self kk).symm) ?_ ?_ (bv_one _) ?_
          · simp [Act.eval]
          · simp [Act.eval]
          · intro j' v' hv'
            have hlt : j' < kk := by
              have := (List.getElem?_eq_some_iff.1 hv').1
              omega
            have hadd : (⟨w.heap.size, 0, none⟩ : Addr).add j' = ⟨w.heap.size, j', none⟩ := by unfold Addr.add; split <;> simp_all
            rw [hadd, World.cell?_drew]
            rw [List.getElem?_map, List.getElem?_take_of_lt hlt] at hv'
            simp [World.cell?, HX1.out, hv']
          · rw [hfl]
            have := HR4.out
            have := HR6.out
            omega
          · generalize hwf : wx.drew.setRow g _ = wf
            have HWF := Lib.hid hwf; clear hwf
            go_wp2
            refine bodyPost_ret (results_tmp rfl _ _ _) rfl ⟨rfl, ?_⟩
            have hwf := HWF.out
            have hwx := HWX.out
            have hgr := HGR.out
            have g3 := G3.out
            have r6 := HR6.out
            have r4 := HR4.out
            have hl9 := G2.out.len
            have hsz1 : wr.heap.size ≤ w1.heap.size := hgr.size
            have hszx : wx.heap.size = w1.heap.size := by rw [← hwx, size_setCell]
            have hszf : wf.heap.size = wx.heap.size := by rw [← hwf]; simp [World.setRow]
            have hgG : G g ∨ (w.heap.size ≤ g ∧ g < wf.heap.size) := by
              rcases HCA.out with e | ⟨e, e'⟩
              · exact Or.inl (HBY'.out.2 g e).1
              · exact Or.inr (by have := g3.size; omega)
            refine put_close HT.out hGb ?_ ?_ ?_ (by have := g3.size; omega) ?_ (v := .slice (some ⟨g, 0, none⟩) (ws.length + kk) cap') (ws := ws ++ fs.take kk) (pt := pt) (ct := ct) ?_ ⟨⟨?_, Or.inr ⟨g, cap', (cur.toList.take ws.length ++ ((fs.take kk).map bv ++ cur.toList.drop (ws.length + ((fs.take kk).map bv).length))).toArray, ?_, Nat.zero_le _, ?_, ?_, r5, ?_, ?_⟩⟩, ?_⟩ hct G2.out.ptl HB.out
            · rw [← hwf]; show wx.os = _; rw [← hwx]; exact hgr.os.trans g3.os
            · rw [← hwf]; show wx.tape = _; rw [← hwx]; exact hgr.tape.trans g3.tape
            · rw [← hwf]; show wx.output = _; rw [← hwx]; exact hgr.output.trans g3.output
            · intro c hc hn hG'
              rw [← hwf, setRow_other _ _ _ _ (fun e => by subst e; rcases hgG with h | h; exact hG' h; omega)]
              show wx.heap[c]? = _
              rw [← hwx, Below.heap_setCell _ _ _ _ hn, hgr.block c (by have := g3.size; omega) (fun e => hG' (HBY'.out.2 c e.symm).1)]
              exact g3.rest c hc hn
            · rw [← hwf, setRow_other _ _ _ _ (fun e => hgb e.symm)]
              exact HX0.out
            · simp
            · rw [List.length_append, List.length_take, hl9, Nat.min_eq_left (by omega)]
            · rw [← hwf]; exact setRow_heap _ _ _ _ _ _ HX2.out
            · rw [List.length_append, List.length_take, hl9, Nat.min_eq_left (by omega)]; exact r4
            · simp only [List.size_toArray, List.length_append, List.length_take, List.length_drop, Array.length_toList, hfl]; omega
            · have hx : cur.toList.take ws.length = ws.map bv := by
                have h7 := HR7.out
                have h8 := congrArg (List.take ws.length) h7
                have h9 : List.take ws.length ((ws ++ List.replicate kk 0).map bv) = ws.map bv := by
                  rw [List.map_append, List.take_append_of_le_length (by simp)]
                  exact List.take_of_length_le (by simp)
                rw [List.take_take, Nat.min_eq_left (by omega), h9] at h8
                exact h8
              rw [hx, ← List.append_assoc, ← List.map_append, Nat.mul_one]
              have e1 : (ws ++ fs.take kk).length = ((ws ++ fs.take kk).map bv).length := by simp
              rw [e1]
              exact List.take_left
            · intro c hc
              have : c = g := by simpa [Value.ownBlock] using hc.symm
              subst this
              exact ⟨hgG, hgb⟩
end Go.Proofs.Ytkaoeilijdeioaa
