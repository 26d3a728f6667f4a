/- The program's writer, the rest: Write, Put's errors, Len, Bytes, Bits; and at nil. -/
import Derived.Test.YtakpafmhdgnlmaaWr
import Derived.Lib.ConvBytes
import Derived.Deep.RegionLaw
namespace Go.Proofs.Ytakpafmhdgnlmaa
open Go.RowKit
set_option linter.unusedVariables false
set_option maxRecDepth 100000
set_option linter.unusedSimpArgs false

/-- Put, at every number: its error, and the bits that are there then. -/
def pE (n : Int) (v : Nat) : Int := if n < 0 ∨ 64 < n then 3 else if n < 64 ∧ 2 ^ n.toNat ≤ v then 2 else 0
def pB (B : List Bool) (n : Int) (v : Nat) : List Bool := if pE n v = 0 then B ++ bitsN n.toNat v else B

theorem addr_add (B j : Nat) : (⟨B, 0, none⟩ : Addr).add j = ⟨B, j, none⟩ := by unfold Addr.add; split <;> simp_all

/-- string(x) of a row of bytes. -/
theorem conv_bytes {P : Program} {src dst e : TypeId} (hs : P.underlying src = some (.slice e)) (he : P.underlying e = some (.int .u8)) (hd : P.underlying dst = some .string) (w : World) {G : Nat → Prop} {base : Nat} {sp : Option Addr} {cap : Nat} {ws : List UInt8}
    (h : w.ownsRow base 5 1 (.slice sp ws.length cap) ws.length (ws.map bv)) : (convert src dst (.slice sp ws.length cap)).run P w = .ok (.string ⟨ws.toArray⟩) w := by
  rcases h.2 with ⟨e1, e2⟩ | ⟨g, cap', cur, e1, _⟩
  · have hws : ws = [] := List.eq_nil_of_length_eq_zero e2
    subst hws
    injection e1 with e3 e4 e5
    subst e3
    rw [run_convert_bytes_string w src dst e none _ cap hs he hd]
    rfl
  · injection e1 with e3 e4 e5
    subst e3
    have hc := h.cells (g := g) rfl
    exact run_convert_bytes_back w src dst e _ cap ws hs he hd (fun j hj => hc j _ (by rw [List.getElem?_map, List.getElem?_eq_getElem hj]; rfl))

theorem conv_one {P : Program} {src dst e : TypeId} (hs : P.underlying src = some (.slice e)) (he : P.underlying e = some (.int .u8)) (hd : P.underlying dst = some .string) (w : World) {a : Addr} {c : Nat} {x : Int} (hx : x = (c : Int)) (hc : c < 256) (h : w.cell? a = some (.int .u8 x)) (hoff : a = ⟨a.block, 0, none⟩) :
    (convert src dst (.slice (some a) 1 1)).run P w = .ok (.string ⟨#[UInt8.ofNat c]⟩) w := by
  refine run_convert_bytes_back w src dst e a 1 [UInt8.ofNat c] hs he hd (fun j hj => ?_)
  simp at hj
  subst hj
  rw [hoff] at h ⊢
  rw [addr_add, h, hx]
  show some (Value.int .u8 (c : Int)) = some (Value.int .u8 (((UInt8.ofNat c).toNat : Nat) : Int))
  rw [UInt8.toNat_ofNat', Nat.mod_eq_of_lt (by omega)]

theorem made_bytes (n : Nat) : madeCells #[Value.int .u8 0] n = ((List.replicate n (0 : UInt8)).map bv).toArray := by
  apply Array.ext
  · simp [madeCells]
  · intro i h1 h2
    simp [madeCells, bv, Nat.mod_one]

/-- The i-th bit of the packed string. -/
theorem pstr_bit (B : List Bool) (i : Nat) (h : i < B.length) : ∃ hlt : i / 8 < (pstr B).size, ((pstr B)[i / 8]'hlt).toNat / 2 ^ (7 - i % 8) % 2 = (B[i]'h).toNat := by
  have hlt : i / 8 < (pstr B).size := by rw [pstr_size]; omega
  refine ⟨hlt, ?_⟩
  rw [← natB_seg_one (pstr B) i hlt, sbits_pstr, seg_append_left (by omega)]
  have : seg B i 1 = [B[i]'h] := by
    simp only [seg]
    rw [List.drop_eq_getElem_cons h]
    rfl
  rw [this, natB_one]

theorem bits_value (B : List Bool) (i : Nat) (h : i < B.length) (hlt : i / 8 < (pstr B).size) : (48 + bits .and .u8 (((pstr B)[i / 8]'hlt).toNat / 2 ^ (7 - i % 8) : Int) 1) % 256 = ((chB (B[i]'h)).toNat : Int) := by
  obtain ⟨_, hb⟩ := pstr_bit B i h
  have hx : ((pstr B)[i / 8]'hlt).toNat / 2 ^ (7 - i % 8) < 256 := Nat.lt_of_le_of_lt (Nat.div_le_self _ _) ((pstr B)[i / 8]'hlt).toNat_lt
  have e1 : ((((pstr B)[i / 8]'hlt).toNat : Int) / 2 ^ (7 - i % 8)) = ((((pstr B)[i / 8]'hlt).toNat / 2 ^ (7 - i % 8) : Nat) : Int) := by simp
  rw [e1, u8_and_one hx, hb]
  cases B[i]'h <;> rfl

theorem row_step (B : List Bool) (n i : Nat) (h : i < B.length) (hn : n = B.length) :
    (((B.take i).map chB ++ List.replicate (n - i) 0).map bv).toArray.setIfInBounds i (.int .u8 ((chB (B[i]'h)).toNat : Int)) = (((B.take (i + 1)).map chB ++ List.replicate (n - (i + 1)) 0).map bv).toArray := by
  have hl : (((B.take i).map chB).map bv).length = i := by simp; omega
  rw [List.take_succ_eq_append_getElem h, show n - i = (n - (i + 1)) + 1 by omega, List.replicate_succ]
  simp only [List.map_append, List.map_cons, List.map_nil, List.append_assoc, List.cons_append, List.nil_append, List.setIfInBounds_toArray]
  rw [List.set_append_right _ _ (by omega), hl, Nat.sub_self, List.set_cons_zero]
  rfl

end Go.Proofs.Ytakpafmhdgnlmaa
