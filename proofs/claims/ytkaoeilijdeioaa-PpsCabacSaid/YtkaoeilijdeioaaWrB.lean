/- The program's writer, the rest: Write, Put's errors, Len, Bytes, Bits; and at nil. -/
import Derived.Test.YtkaoeilijdeioaaWr
import Derived.Lib.ConvBytes
import Derived.Deep.RegionLaw
namespace Go.Proofs.Ytkaoeilijdeioaa
open Go.RowKit
set_option linter.unusedVariables false
set_option maxRecDepth 100000
set_option linter.unusedSimpArgs false

theorem write_any {W w : World} {L : List AObj} {F : List (Nat × Obj)} (h : Hp W w L F) :
    Calls Try.prog 20 #[] w (Makes W L F fun b => aWr b []) := by
  have H := Lib.hid h; clear h
  go_enter Try.func20, Try.ntmps20
  go_wp2
  go_ret
  refine ⟨_, rfl, H.out.make ((Below.refl _ _).alloc (Nat.le_refl _) _) ⟨⟨Nat.le_refl _, by simp⟩, .slice none 0 0, [], 0, 0, ?_, ⟨⟨rfl, Or.inl ⟨rfl, rfl⟩⟩, fun c hc => by simp [Value.ownBlock] at hc⟩, by omega, by simp, rfl⟩⟩
  show (w.heap.push _)[w.heap.size]? = _
  simp [wrObj]

theorem put_nil (n v : Int) (w : World) : Calls Try.prog 22 #[.pointer none, .int .i64 n, .int .u64 v] w fun e w' => e = .returned (.int .i64 1) ∧ w = w' := by
  go_enter Try.func22, Try.ntmps22
  go_wp2
  go_ret
  exact ⟨rfl, rfl⟩

theorem put_range {w : World} {b : Nat} (n v : Int) (hn : n < 0 ∨ 64 < n) :
    Calls Try.prog 22 #[.pointer (some ⟨b, 0, none⟩), .int .i64 n, .int .u64 v] w fun e w' => e = .returned (.int .i64 3) ∧ w = w' := by
  rcases hn with hn | hn
  · have hd : decide (n < 0) = true := by simpa using hn
    go_enter Try.func22, Try.ntmps22
    go_wp2
    go_ret
    exact ⟨rfl, rfl⟩
  · have hd : decide (n < 0) = false := by simp; omega
    go_enter Try.func22, Try.ntmps22
    go_wp2
    go_ret
    exact ⟨rfl, rfl⟩

theorem put_arg {w : World} {b : Nat} (n v : Nat) (hn : n < 64) (hv : 2 ^ n ≤ v) :
    Calls Try.prog 22 #[.pointer (some ⟨b, 0, none⟩), .int .i64 n, .int .u64 v] w fun e w' => e = .returned (.int .i64 2) ∧ w = w' := by
  have z0 : ((v : Int) / 2 ^ n != 0) = true := by
    have : 0 < v / 2 ^ n := Nat.div_pos hv (Nat.two_pow_pos n)
    have e : ((v : Int) / 2 ^ n) = ((v / 2 ^ n : Nat) : Int) := by simp
    rw [e]; simp; omega
  clear hv
  go_enter Try.func22, Try.ntmps22
  go_wp2
  go_ret
  exact ⟨rfl, rfl⟩

/-- Put, at every number: its error, and the bits that are there then. -/
def pE (n : Int) (v : Nat) : Int := if n < 0 ∨ 64 < n then 3 else if n < 64 ∧ 2 ^ n.toNat ≤ v then 2 else 0
def pB (B : List Bool) (n : Int) (v : Nat) : List Bool := if pE n v = 0 then B ++ bitsN n.toNat v else B

theorem put_any {W w : World} {L : List AObj} {F : List (Nat × Obj)} (h : Hp W w L F) (k : Nat) {b : Nat} {B : List Bool} (hk : L[k]? = some (aWr b B)) (hB : B.length ≤ 2 ^ 40) (n : Int) (v : Nat) (hv : v < 18446744073709551616) :
    Calls Try.prog 22 #[.pointer (some ⟨b, 0, none⟩), .int .i64 n, .int .u64 v] w fun e w' => e = .returned (.int .i64 (pE n v)) ∧ Hp W w' (L.set k (aWr b (pB B n v))) F := by
  by_cases c1 : n < 0 ∨ 64 < n
  · have e1 : pE n v = 3 := if_pos c1
    have e2 : pB B n v = B := by unfold pB; rw [e1]; rfl
    rw [e1, e2, set_same hk]
    exact (put_range n v c1).mono fun e w' ⟨he, hw⟩ => ⟨he, hw ▸ h⟩
  · obtain ⟨m, rfl⟩ : ∃ m : Nat, n = (m : Int) := ⟨n.toNat, by omega⟩
    by_cases c2 : m < 64 ∧ 2 ^ m ≤ v
    · have e1 : pE m v = 2 := by unfold pE; rw [if_neg c1, if_pos ⟨by omega, by simpa using c2.2⟩]
      have e2 : pB B m v = B := by unfold pB; rw [e1]; rfl
      rw [e1, e2, set_same hk]
      exact (put_arg m v c2.1 c2.2).mono fun e w' ⟨he, hw⟩ => ⟨he, hw ▸ h⟩
    · have e1 : pE m v = 0 := by unfold pE; rw [if_neg c1, if_neg (fun hc => c2 ⟨by omega, by simpa using hc.2⟩)]
      have e2 : pB B m v = B ++ bitsN m v := by unfold pB; rw [if_pos e1]; rfl
      rw [e1, e2]
      refine put_good h k hk hB m v (by omega) ?_
      by_cases h64 : m < 64
      · exact Nat.lt_of_not_le fun hc => c2 ⟨h64, hc⟩
      · obtain rfl : m = 64 := by omega
        exact hv

theorem len_nil (w : World) : Calls Try.prog 62 #[.pointer none] w fun e w' => e = .returned (.int .i64 0) ∧ w = w' := by
  go_enter Try.func62, Try.ntmps62
  go_wp2
  go_ret
  exact ⟨rfl, rfl⟩

theorem len_any {W w : World} {L : List AObj} {F : List (Nat × Obj)} (h : Hp W w L F) (k : Nat) {b : Nat} {B : List Bool} (hk : L[k]? = some (aWr b B)) (hB : B.length ≤ 2 ^ 41) :
    Calls Try.prog 62 #[.pointer (some ⟨b, 0, none⟩)] w fun e w' => e = .returned (.int .i64 (B.length : Nat)) ∧ ∃ q, w' = w.drewN q := by
  obtain ⟨v, ws, pt, ct, G, hat, hby, h8, hp, hb⟩ := h.wr k hk
  obtain ⟨sp, cap, rfl, h1, h2⟩ := hby.form
  obtain ⟨c0, c1, c2, f0, f1, f2⟩ := cells_three hat
  have hl := congrArg List.length hb
  rw [List.length_append, sbitsL_length, bitsN_length] at hl
  have e : (B.length : Int) = 8 * (ws.length : Int) + (ct : Int) := by omega
  have hws : ws.length ≤ 2 ^ 41 := by omega
  rw [e]
  clear e hk h hat hby hb hp hl hB
  go_enter Try.func62, Try.ntmps62
  go_wp2
  go_quiet (fail)
  go_wp2
  go_ret
  exact ⟨rfl, _, rfl⟩

theorem bytes_nil (w : World) : Calls Try.prog 26 #[.pointer none] w fun e w' => e = .returned (.string ⟨#[]⟩) ∧ w = w' := by
  go_enter Try.func26, Try.ntmps26
  go_wp2
  go_ret
  exact ⟨rfl, rfl⟩

theorem addr_add (B j : Nat) : (⟨B, 0, none⟩ : Addr).add j = ⟨B, j, none⟩ := by unfold Addr.add; split <;> simp_all

/-- string(x) of a row of bytes. -/
theorem conv_bytes {P : Program} {src dst e : TypeId} (hs : P.underlying src = some (.slice e)) (he : P.underlying e = some (.int .u8)) (hd : P.underlying dst = some .string) (w : World) {G : Nat → Prop} {base : Nat} {sp : Option Addr} {cap : Nat} {ws : List UInt8}
    (h : w.ownsRow base 5 1 (.slice sp ws.length cap) ws.length (ws.map bv)) : (convert src dst (.slice sp ws.length cap)).run P w = .ok (.string ⟨ws.toArray⟩) w := by
  rcases h.2 with ⟨e1, e2⟩ | ⟨g, cap', cur, e1, _⟩
  · have hws : ws = [] := List.eq_nil_of_length_eq_zero e2
    subst hws
    injection e1 with e3 e4 e5
    subst e3
    rw [run_convert_bytes_string w src dst e none _ cap hs he hd]
    rfl
  · injection e1 with e3 e4 e5
    subst e3
    have hc := h.cells (g := g) rfl
    exact run_convert_bytes_back w src dst e _ cap ws hs he hd (fun j hj => hc j _ (by rw [List.getElem?_map, List.getElem?_eq_getElem hj]; rfl))

theorem conv_one {P : Program} {src dst e : TypeId} (hs : P.underlying src = some (.slice e)) (he : P.underlying e = some (.int .u8)) (hd : P.underlying dst = some .string) (w : World) {a : Addr} {c : Nat} {x : Int} (hx : x = (c : Int)) (hc : c < 256) (h : w.cell? a = some (.int .u8 x)) (hoff : a = ⟨a.block, 0, none⟩) :
    (convert src dst (.slice (some a) 1 1)).run P w = .ok (.string ⟨#[UInt8.ofNat c]⟩) w := by
  refine run_convert_bytes_back w src dst e a 1 [UInt8.ofNat c] hs he hd (fun j hj => ?_)
  simp at hj
  subst hj
  rw [hoff] at h ⊢
  rw [addr_add, h, hx]
  show some (Value.int .u8 (c : Int)) = some (Value.int .u8 (((UInt8.ofNat c).toNat : Nat) : Int))
  rw [UInt8.toNat_ofNat', Nat.mod_eq_of_lt (by omega)]

theorem bytes_any {W w : World} {L : List AObj} {F : List (Nat × Obj)} (h : Hp W w L F) (k : Nat) {b : Nat} {B : List Bool} (hk : L[k]? = some (aWr b B)) (hB : B.length ≤ 2 ^ 41) :
    Calls Try.prog 26 #[.pointer (some ⟨b, 0, none⟩)] w fun e w' => e = .returned (.string (pstr B)) ∧ Hp W w' L F := by
  obtain ⟨v, ws, pt, ct, G, hat, hby, h8, hp, hb⟩ := h.wr k hk
  obtain ⟨sp, cap, rfl, h1, h2⟩ := hby.form
  obtain ⟨c0, c1, c2, f0, f1, f2⟩ := cells_three hat
  have hcv := fun (x : World) (hx : x.ownsRow 0 5 1 (.slice sp ws.length cap) ws.length (ws.map bv)) => conv_bytes (P := Try.prog) (G := G) Try.underlying36 Try.underlying5 Try.underlying9 x hx
  have H := Lib.hid h; clear h
  have hpk := packB_of hb h8 hp
  have HB := Lib.hid hby; clear hby
  by_cases h0 : ct = 0
  · have q1 : ((ct : Int) == 0) = true := by simp; omega
    have hcv0 := hcv w HB.out.1
    rw [if_pos h0] at hpk
    have HP := Lib.hid hpk
    clear hcv hpk hb hp hat hk h1 h2 h0 hB
    go_enter Try.func26, Try.ntmps26
    go_wp2
    refine bodyPost_ret (results_tmp rfl _ _ _) rfl ⟨?_, H.out⟩
    rw [pstr, HP.out]
    rfl
  · have q1 : ((ct : Int) == 0) = false := by simp; omega
    have hx : pt * 2 ^ (8 - ct) < 256 := by
      have := Nat.mul_lt_mul_of_pos_right hp (Nat.two_pow_pos (8 - ct))
      rwa [← Nat.pow_add, show ct + (8 - ct) = 8 by omega] at this
    have ex : (pt : Int) * 2 ^ (8 - ct) % 256 = ((pt * 2 ^ (8 - ct) : Nat) : Int) := by
      rw [show (pt : Int) * 2 ^ (8 - ct) = ((pt * 2 ^ (8 - ct) : Nat) : Int) by simp]; omega
    have hcv1 := hcv w.drew HB.out.1
    have hcv2 := hcv ((w.alloc (.cells #[.int .u8 ((pt : Int) * 2 ^ (8 - ct) % 256)] 5 (0, 0))).drew) ((HB.out.1.alloc _).drew)
    have hcv3 := conv_one (P := Try.prog) Try.underlying36 Try.underlying5 Try.underlying9 ((w.alloc (.cells #[.int .u8 ((pt : Int) * 2 ^ (8 - ct) % 256)] 5 (0, 0))).drew) (a := ⟨w.heap.size, 0, none⟩) ex hx (cell_of_one (heap_alloc_new w _)) rfl
    rw [if_neg h0] at hpk
    have HP := Lib.hid hpk
    obtain ⟨S1, hS1⟩ : ∃ S1 : ByteArray, S1 = ⟨ws.toArray⟩ := ⟨_, rfl⟩
    obtain ⟨S2, hS2⟩ : ∃ S2 : ByteArray, S2 = ⟨#[UInt8.ofNat (pt * 2 ^ (8 - ct))]⟩ := ⟨_, rfl⟩
    have z1 : S1.size ≤ 2 ^ 41 := by
      rw [hS1]; show ws.toArray.size ≤ _
      have := congrArg List.length hb
      rw [List.length_append, sbitsL_length] at this
      simp; omega
    have z2 : S2.size ≤ 1 := by rw [hS2]; exact Nat.le_refl _
    have z3 : S1.size + S2.size ≤ 9223372036854775807 := by omega
    rw [← hS1] at hcv1 hcv2
    rw [← hS2] at hcv3
    have HS1 := Lib.hid hS1; clear hS1
    have HS2 := Lib.hid hS2; clear hS2
    have q2 : (ct : Int) < 8 := by omega
    have hbl := lt_of_block hat
    have q3 : ¬ b = w.heap.size := by omega
    have q4 : ¬ w.heap.size = b := by omega
    clear hcv hpk hb hp hat hk h1 h2 h0 hB ex
    go_enter Try.func26, Try.ntmps26
    go_wp2
    go_region
    go_wp2
    refine bodyPost_ret (results_tmp rfl _ _ _) rfl ⟨?_, (H.out.lost _).drew⟩
    rw [pstr, HP.out, HS1.out, HS2.out]
    congr 2

theorem made_bytes (n : Nat) : madeCells #[Value.int .u8 0] n = ((List.replicate n (0 : UInt8)).map bv).toArray := by
  apply Array.ext
  · simp [madeCells]
  · intro i h1 h2
    simp [madeCells, bv, Nat.mod_one]

/-- The i-th bit of the packed string. -/
theorem pstr_bit (B : List Bool) (i : Nat) (h : i < B.length) : ∃ hlt : i / 8 < (pstr B).size, ((pstr B)[i / 8]'hlt).toNat / 2 ^ (7 - i % 8) % 2 = (B[i]'h).toNat := by
  have hlt : i / 8 < (pstr B).size := by rw [pstr_size]; omega
  refine ⟨hlt, ?_⟩
  rw [← natB_seg_one (pstr B) i hlt, sbits_pstr, seg_append_left (by omega)]
  have : seg B i 1 = [B[i]'h] := by
    simp only [seg]
    rw [List.drop_eq_getElem_cons h]
    rfl
  rw [this, natB_one]

theorem bits_value (B : List Bool) (i : Nat) (h : i < B.length) (hlt : i / 8 < (pstr B).size) : (48 + bits .and .u8 (((pstr B)[i / 8]'hlt).toNat / 2 ^ (7 - i % 8) : Int) 1) % 256 = ((chB (B[i]'h)).toNat : Int) := by
  obtain ⟨_, hb⟩ := pstr_bit B i h
  have hx : ((pstr B)[i / 8]'hlt).toNat / 2 ^ (7 - i % 8) < 256 := Nat.lt_of_le_of_lt (Nat.div_le_self _ _) ((pstr B)[i / 8]'hlt).toNat_lt
  have e1 : ((((pstr B)[i / 8]'hlt).toNat : Int) / 2 ^ (7 - i % 8)) = ((((pstr B)[i / 8]'hlt).toNat / 2 ^ (7 - i % 8) : Nat) : Int) := by simp
  rw [e1, u8_and_one hx, hb]
  cases B[i]'h <;> rfl

theorem row_step (B : List Bool) (n i : Nat) (h : i < B.length) (hn : n = B.length) :
    (((B.take i).map chB ++ List.replicate (n - i) 0).map bv).toArray.setIfInBounds i (.int .u8 ((chB (B[i]'h)).toNat : Int)) = (((B.take (i + 1)).map chB ++ List.replicate (n - (i + 1)) 0).map bv).toArray := by
  have hl : (((B.take i).map chB).map bv).length = i := by simp; omega
  rw [List.take_succ_eq_append_getElem h, show n - i = (n - (i + 1)) + 1 by omega, List.replicate_succ]
  simp only [List.map_append, List.map_cons, List.map_nil, List.append_assoc, List.cons_append, List.nil_append, List.setIfInBounds_toArray]
  rw [List.set_append_right _ _ (by omega), hl, Nat.sub_self, List.set_cons_zero]
  rfl

end Go.Proofs.Ytkaoeilijdeioaa
