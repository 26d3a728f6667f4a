/- The program's writer: what each of its functions does, at every state. -/
import Derived.Test.YtakpafmhdgnlmaaRd
import Derived.StillTailTactics
import Derived.Lib.AppendZeros
import Derived.Laws.CopyOwn
namespace Go.Proofs.Ytakpafmhdgnlmaa
open Go.RowKit
set_option linter.unusedVariables false
set_option maxRecDepth 100000
set_option linter.unusedSimpArgs false

/-! ### rows of bytes -/
def bv (c : UInt8) : Value := .int .u8 c.toNat

theorem heap_setCell_self {w : World} {b : Nat} {cs : Array Value} {t : TypeId} {f : Nat × Nat} (h : w.heap[b]? = some (.cells cs t f)) (k : Nat) (v : Value) :
    (w.setCell ⟨b, k, none⟩ v).heap[b]? = some (.cells (cs.setIfInBounds k v) t f) := by
  have hlt := lt_of_block h
  have h' : w.heap[b] = .cells cs t f := by simpa [Array.getElem?_eq_getElem hlt] using h
  show (w.heap.modify b _)[b]? = _
  rw [Array.getElem?_eq_getElem (by simpa using hlt), Array.getElem_modify_self, h']
  rfl

theorem size_setCell (w : World) (a : Addr) (v : Value) : (w.setCell a v).heap.size = w.heap.size := by simp [World.setCell]

theorem cell_some {w : World} {b : Nat} {cs : Array Value} {t : TypeId} {f : Nat × Nat} (h : w.heap[b]? = some (.cells cs t f)) {k : Nat} (hk : k < cs.size) : ∃ y, w.cell? ⟨b, k, none⟩ = some y :=
  ⟨cs[k], by simp [World.cell?, h, hk]⟩
theorem free_of {w : World} {b : Nat} {cs : Array Value} {t : TypeId} (h : w.heap[b]? = some (.cells cs t (0, 0))) {k : Nat} : w.frozen? ⟨b, k, none⟩ = false := by simp [World.frozen?, h]

/-- A slice value v whose bytes are ws, in blocks of G's. -/
def BytesAt (w : World) (G : Nat → Prop) (v : Value) (ws : List UInt8) : Prop :=
  w.ownsRow 0 5 1 v ws.length (ws.map bv) ∧ ∀ c, v.ownBlock = some c → G c

theorem BytesAt.loc {w w' : World} {G G' : Nat → Prop} {v : Value} {ws : List UInt8} (hh : ∀ c, G c → w'.heap[c]? = w.heap[c]?) (hG : ∀ c, G c → G' c) (h : BytesAt w G v ws) : BytesAt w' G' v ws := by
  obtain ⟨⟨h1, h2⟩, h3⟩ := h
  refine ⟨⟨h1, ?_⟩, fun c hc => hG c (h3 c hc)⟩
  rcases h2 with h2 | ⟨g, cap, cur, rfl, hg, hh', r⟩
  · exact Or.inl h2
  · exact Or.inr ⟨g, cap, cur, rfl, hg, (hh g (h3 g rfl)).trans hh', r⟩

theorem BytesAt.form {w : World} {G : Nat → Prop} {v : Value} {ws : List UInt8} (h : BytesAt w G v ws) : ∃ sp cap, v = .slice sp ws.length cap ∧ ws.length ≤ maxLen ∧ cap ≤ maxLen := by
  obtain ⟨⟨h1, h2⟩, h3⟩ := h
  rcases h2 with ⟨rfl, h0⟩ | ⟨g, cap, cur, rfl, hg, hh', h4, h5, r⟩
  · exact ⟨none, 0, by rw [h0], by omega, Nat.zero_le _⟩
  · exact ⟨_, cap, rfl, by omega, h5⟩

theorem bv_one (ws : List UInt8) : ∀ u ∈ ws.map bv, u.oneCell' = true := by
  intro u hu
  obtain ⟨c, _, rfl⟩ := List.mem_map.1 hu
  rfl

/-! ### append(x, make([]byte, n)...) on a row of the call's own -/
theorem run_append_zeros_own {P : Program} (w : World) (t tn ty e : TypeId) (i : TypeInfo) (ht : P.underlying t = some (.slice e)) (htn : P.underlying tn = some (.int .i64)) (hi : P.info? e = some i) (hz : i.zero = some (.int .u8 0))
    (hsize : i.size = 1) (hby : i.bytes = 1) (v : Value) (ws : List UInt8) (G : Nat → Prop) (hown : w.ownsRow 0 e 1 v ws.length (ws.map bv)) (m : Nat) (h0 : 0 < m)
    (h63 : ws.length + m ≤ 140737488355328) :
    ∃ g cap w', (Builtin.append_ #[t, tn] ty #[v, .int .i64 m]).run P w = .ok (.slice (some ⟨g, 0, none⟩) (ws.length + m) cap) w' ∧ w'.ownsRow 0 e 1 (.slice (some ⟨g, 0, none⟩) (ws.length + m) cap) (ws.length + m) ((ws ++ List.replicate m 0).map bv) ∧
      w.grownBy w' v.ownBlock ∧ (v.ownBlock = some g ∨ (w.heap.size = g ∧ g < w'.heap.size)) := by
  have hn : m ≠ 0 := by omega
  have hw : IntKind.i64.wrap (m : Int) = m := by rw [IntKind.wrap_i64]; omega
  have hneg : ¬ ((m : Int) < 0) := by omega
  have h48i : ¬ (281474976710656 < (m : Int)) := by omega
  have hzc : Builtin.zeroCells #[Value.int .u8 0] m = ((List.replicate m (0 : UInt8)).map bv).toArray := by
    simp only [List.map_replicate, Builtin.zeroCells]
    apply Array.ext
    · simp
    · intro j h1 h2
      simp [bv, Nat.mod_one]
  have hzv : (Value.int .u8 0).cells = #[Value.int .u8 0] := rfl
  have hlen : ((ws ++ List.replicate m 0).map bv).length = (ws.length + m) * 1 := by simp
  rcases hown.2 with ⟨rfl, hl0⟩ | ⟨g, cap, cur, rfl, hbg, hg, hnc, hcm, hcs, htake⟩
  · have hws : ws = [] := List.eq_nil_of_length_eq_zero hl0
    subst hws
    have hr := Lib.run_append_nil_zeros (P := P) w t tn ty e i (.int .u8 0) .i64 .i64 ht htn hi hz m h0 (by omega) (by omega) (by rw [hby]; simp at h63; omega)
    have hge := grownCap_ge w m 0 e
    have hcm : grownCap w m 0 e ≤ maxLen := grownCap_le_maxLen w m 0 e (by unfold maxLen; simp at h63; omega)
    have e0 : ([] : List UInt8).length + m = m := by simp
    rw [e0]
    refine ⟨w.heap.size, grownCap w m 0 e, _, hr, ⟨by simp, .inr ⟨w.heap.size, _, _, rfl, Nat.zero_le _, heap_alloc_new w.drew _, hge, hcm, ?_, ?_⟩⟩, ⟨rfl, rfl, rfl, by simp, fun k hk _ => Below.heap_alloc w.drew _ _ hk⟩, Or.inr ⟨rfl, by simp⟩⟩
    · simp only [Array.size_append, size_zeroCells, hzv, List.size_toArray, List.length_cons, List.length_nil]; omega
    · rw [hzv, hzc]
      simp
  · have hcs' : cur.size = cap := by simpa using hcs
    have htake' : cur.toList.take ws.length = ws.map bv := by simpa using htake
    by_cases hroom : ws.length + m ≤ cap
    · have hst := run_storeCells_at P g ws.length e ((List.replicate m (0 : UInt8)).map bv) 0 cur w hg (by simp; omega) (bv_one _)
      simp only [Nat.add_zero] at hst
      have hst2 := hst
      simp only [List.map_replicate, List.length_replicate] at hst2
      refine ⟨g, cap, w.setRow g (cur.toList.take ws.length ++ (List.replicate m (0 : UInt8)).map bv ++ cur.toList.drop (ws.length + ((List.replicate m (0 : UInt8)).map bv).length)).toArray, ?_, ⟨hlen, .inr ⟨g, cap, _, rfl, hbg, setRow_heap w g cur _ e _ hg, hroom, hcm, ?_, ?_⟩⟩, ⟨rfl, rfl, rfl, by simp, fun k _ hk => setRow_other w g k _ (fun e => hk (by simp [Value.ownBlock, e]))⟩, Or.inl rfl⟩
      · have hzl : (Builtin.zeroCells #[Value.int .u8 0] m).toList = (List.replicate m (0 : UInt8)).map bv := by rw [hzc]
        have hm1 : ¬ (m * 1 = 0) := by omega
        simp [Builtin.append_, run_underlying ht, run_underlying htn, sizeOf, typeInfo, zeroValue, hi, hz, hsize, hby, asInt, asIntOf, hw, hn, hneg, h48i, hroom, Addr.add_lit, hzv, hzl, hst2]
      · simp; omega
      · rw [htake', Nat.mul_one, List.map_append]
        have e1 : ws.length + m = (ws.map bv ++ (List.replicate m (0 : UInt8)).map bv).length := by simp
        conv => lhs; rw [e1]
        exact List.take_left
    · have hge := grownCap_ge w (ws.length + m) cap e
      have hcm' : grownCap w (ws.length + m) cap e ≤ maxLen := grownCap_le_maxLen w (ws.length + m) cap e (by unfold maxLen; omega)
      have holds : ∀ j u, (ws.map bv)[j]? = some u → w.cell? ((⟨g, 0, none⟩ : Addr).add j) = some u := hown.cells (g := g) rfl
      have hfo := run_firstCells_some (P := P) w.drew 1 ws.length ⟨g, 0, none⟩ ws.length cap (ws.map bv) (by simp) (by simpa using holds)
      have h63' : ¬ (9223372036854775807 < ((ws.length : Int) + (m : Int))) := by omega
      have hfit := growslice_fits (need := ws.length + m) (old := cap) (bytes := 1) (by omega) (by omega)
      have h48' : ¬ (281474976710656 < Builtin.nextslicecap (ws.length + m) cap * 1) := by omega
      refine ⟨w.heap.size, grownCap w (ws.length + m) cap e, w.drew.alloc (.cells ((ws.map bv).toArray ++ Builtin.zeroCells #[Value.int .u8 0] m ++ Builtin.zeroCells #[Value.int .u8 0] (grownCap w (ws.length + m) cap e - (ws.length + m))) e), ?_, ⟨hlen, .inr ⟨w.heap.size, _, _, rfl, Nat.zero_le _, heap_alloc_new w.drew _, hge, hcm', ?_, ?_⟩⟩, ⟨rfl, rfl, rfl, by simp, fun k hk _ => Below.heap_alloc w.drew _ _ hk⟩, Or.inr ⟨rfl, by simp⟩⟩
      · have hm1 : ¬ (m * 1 = 0) := by omega
        simp only [Nat.mul_one] at h48'
        simp [Builtin.append_, run_underlying ht, run_underlying htn, sizeOf, typeInfo, zeroValue, hi, hz, hsize, hby, asInt, asIntOf, hw, hn, hneg, h48i, h48', h63', hroom, hzv, Question.forced, hfo, newRow, grownCap]
      · simp only [Array.size_append, size_zeroCells, List.size_toArray, List.length_cons, List.length_nil, List.length_map]; omega
      · rw [hzc, Nat.mul_one, List.map_append]
        have e1 : ws.length + m = (ws.map bv ++ (List.replicate m (0 : UInt8)).map bv).length := by simp
        conv => lhs; rw [e1]
        simp only [Array.toList_append, List.append_assoc]
        rw [← List.append_assoc]
        exact List.take_left


theorem u8_info : ∃ i : TypeInfo, Try.prog.info? 5 = some i ∧ i.zero = some (.int .u8 0) ∧ i.size = 1 ∧ i.bytes = 1 := by
  obtain ⟨i, h, h0, h1, h2⟩ := info_parts (show (Try.prog.info? 5).map (fun i => (i.zero, i.size, i.bytes)) = some (some (.int .u8 0), 1, 1) by kernel_rfl)
  exact ⟨i, h, h0, h1, h2⟩

/-! ### the writer -/
theorem cells_three {w : World} {b : Nat} {x y z : Value} {t : TypeId} (h : w.heap[b]? = some (.cells #[x, y, z] t (0, 0))) :
    w.cell? ⟨b, 0, none⟩ = some x ∧ w.cell? ⟨b, 1, none⟩ = some y ∧ w.cell? ⟨b, 2, none⟩ = some z ∧ w.frozen? ⟨b, 0, none⟩ = false ∧ w.frozen? ⟨b, 1, none⟩ = false ∧ w.frozen? ⟨b, 2, none⟩ = false := by
  simp [World.cell?, World.frozen?, h]

/-- Two blocks alone have turned: b, and a new one. -/
structure TwoB (w : World) (b : Nat) (wr : World) (ob oa : Obj) : Prop where
  os : wr.os = w.os
  tape : wr.tape = w.tape
  output : wr.output = w.output
  size : wr.heap.size = w.heap.size + 1
  rest : ∀ c, c < w.heap.size → c ≠ b → wr.heap[c]? = w.heap[c]?
  lt : b < w.heap.size
  at_ : wr.heap[b]? = some ob
  new : wr.heap[w.heap.size]? = some oa

theorem TwoB.drew {w wr : World} {b : Nat} {ob oa : Obj} (h : TwoB w b wr ob oa) : TwoB w b wr.drew ob oa := ⟨h.os, h.tape, h.output, h.size, h.rest, h.lt, h.at_, h.new⟩
theorem TwoB.setb {w wr : World} {b : Nat} {oa : Obj} {cs : Array Value} {t : TypeId} {f : Nat × Nat} (h : TwoB w b wr (.cells cs t f) oa) (k : Nat) (v : Value) :
    TwoB w b (wr.setCell ⟨b, k, none⟩ v) (.cells (cs.setIfInBounds k v) t f) oa := by
  have hlt := h.lt
  refine ⟨h.os, h.tape, h.output, ?_, fun c hc hn => ?_, hlt, heap_setCell_self h.at_ k v, ?_⟩
  · rw [size_setCell]; exact h.size
  · rw [Below.heap_setCell _ _ _ _ hn]; exact h.rest c hc hn
  · rw [Below.heap_setCell _ _ _ _ (by show w.heap.size ≠ b; omega)]; exact h.new
theorem TwoB.seta {w wr : World} {b : Nat} {ob : Obj} {cs : Array Value} {t : TypeId} {f : Nat × Nat} (h : TwoB w b wr ob (.cells cs t f)) (k : Nat) (v : Value) :
    TwoB w b (wr.setCell ⟨w.heap.size, k, none⟩ v) ob (.cells (cs.setIfInBounds k v) t f) := by
  have hlt := h.lt
  refine ⟨h.os, h.tape, h.output, ?_, fun c hc hn => ?_, hlt, ?_, heap_setCell_self h.new k v⟩
  · rw [size_setCell]; exact h.size
  · rw [Below.heap_setCell _ _ _ _ (by show c ≠ w.heap.size; omega)]; exact h.rest c hc hn
  · rw [Below.heap_setCell _ _ _ _ (by show b ≠ w.heap.size; omega)]; exact h.at_

/-- In the midst of Put: kk whole bytes lie in the array, ct bits in part; T: all of them. -/
structure PutSt (T : List Bool) (kk pt ct : Nat) (fs : List UInt8) : Prop where
  len : fs.length = 9
  kkl : kk ≤ 9
  ct8 : ct < 8
  ptl : pt < 2 ^ ct
  bits : T = sbitsL (fs.take kk) ++ bitsN ct pt

theorem bits_step {T : List Bool} {ws : List UInt8} {ct pt : Nat} (h : T = sbitsL ws ++ bitsN ct pt) (x : Nat) (hx : x ≤ 1) : T ++ [decide (x = 1)] = sbitsL ws ++ bitsN (ct + 1) (2 * pt + x) := by
  rw [h, bitsN, show (2 * pt + x) / 2 = pt by omega, List.append_assoc]
  congr 3
  have : (2 * pt + x) % 2 = x := by omega
  rw [this]

/-- A bit that does not fill the byte. -/
theorem PutSt.bit {T : List Bool} {kk pt ct : Nat} {fs : List UInt8} (h : PutSt T kk pt ct fs) (x : Nat) (hx : x ≤ 1) (h8 : ct ≠ 7) :
    PutSt (T ++ [decide (x = 1)]) kk (2 * pt + x) (ct + 1) fs :=
  ⟨h.len, h.kkl, by have := h.ct8; omega, by have := h.ptl; rw [Nat.pow_succ]; omega, bits_step h.bits x hx⟩

/-- A bit that fills it. -/
theorem PutSt.byte {T : List Bool} {kk pt : Nat} {fs : List UInt8} (h : PutSt T kk pt 7 fs) (x : Nat) (hx : x ≤ 1) (hk : kk < 9) :
    PutSt (T ++ [decide (x = 1)]) (kk + 1) 0 0 (fs.set kk (UInt8.ofNat (2 * pt + x))) := by
  have hp := h.ptl
  have hx8 : 2 * pt + x < 256 := by omega
  have hl := h.len
  refine ⟨by simpa using hl, by omega, by omega, by simp, ?_⟩
  rw [bits_step h.bits x hx]
  have e : (fs.set kk (UInt8.ofNat (2 * pt + x))).take (kk + 1) = fs.take kk ++ [UInt8.ofNat (2 * pt + x)] := by
    rw [List.take_succ_eq_append_getElem (by simp; omega)]
    congr 1
    · rw [List.take_set_of_le (by omega)]
    · simp
  rw [e, sbitsL_append]
  have e3 : sbitsL [UInt8.ofNat (2 * pt + x)] = bitsN 8 (2 * pt + x) := by
    rw [sbitsL_cons, sbitsL_nil, List.append_nil, UInt8.toNat_ofNat', Nat.mod_eq_of_lt (by omega)]
  rw [e3]
  simp [bitsN]

theorem bv_ofNat {n : Nat} (h : n < 256) : bv (UInt8.ofNat n) = .int .u8 (n : Int) := by
  show Value.int .u8 ((UInt8.ofNat n).toNat : Int) = _
  rw [UInt8.toNat_ofNat', Nat.mod_eq_of_lt (by omega)]

theorem set_bytes (fs : List UInt8) (kk n : Nat) (h : n < 256) : ((fs.map bv).toArray.setIfInBounds kk (.int .u8 (n : Int))) = ((fs.set kk (UInt8.ofNat n)).map bv).toArray := by
  rw [List.map_set, bv_ofNat h]
  simp

/-- The bit that the loop takes: its value, as the walk writes it. -/
theorem put_value (pt v j : Nat) (hp : pt < 128) (hv : v < 18446744073709551616) : bits .or .u8 ((pt : Int) * 2) (bits .and .u64 ((v : Int) / 2 ^ j) 1 % 256) = ((2 * pt + v / 2 ^ j % 2 : Nat) : Int) := by
  have e1 : ((v : Int) / 2 ^ j) = ((v / 2 ^ j : Nat) : Int) := by simp
  have h1 : v / 2 ^ j < 18446744073709551616 := Nat.lt_of_le_of_lt (Nat.div_le_self _ _) hv
  rw [e1, u64_and_one h1]
  have e2 : ((v / 2 ^ j % 2 : Nat) : Int) % 256 = ((v / 2 ^ j % 2 : Nat) : Int) := by omega
  have e3 : (pt : Int) * 2 = ((pt * 2 : Nat) : Int) := by omega
  rw [e2, e3, u8_or_nat _ _ (by omega) (by omega), nat_join 1 (pt * 2) (v / 2 ^ j % 2) (by omega) (by omega)]
  omega

theorem bitsN_snoc (m v j : Nat) : bitsN (m + 1) (v / 2 ^ j) = bitsN m (v / 2 ^ (j + 1)) ++ [decide (v / 2 ^ j % 2 = 1)] := by
  rw [bitsN, Nat.div_div_eq_div_mul, ← Nat.pow_succ]

end Go.Proofs.Ytakpafmhdgnlmaa
