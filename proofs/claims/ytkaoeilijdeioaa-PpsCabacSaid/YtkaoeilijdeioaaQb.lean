/- The reference's writer: Bytes. -/
import Derived.Test.YtkaoeilijdeioaaQw
namespace Go.Proofs.Ytkaoeilijdeioaa
open Go.RowKit
set_option linter.unusedVariables false
set_option maxRecDepth 100000
set_option linter.unusedSimpArgs false

/-- The bytes in the midst of the loop, a new one laid where it begins. -/
def pkRow (B : List Bool) (i : Nat) : List UInt8 := if i % 8 = 0 then packB (B.take i) ++ [0] else packB (B.take i)

theorem pk_step (B : List Bool) (i : Nat) (h : i < B.length) : ∃ c : Nat, (pkRow B i)[i / 8]? = some (UInt8.ofNat c) ∧ (pkRow B i).length = i / 8 + 1 ∧ c % 2 ^ (8 - i % 8) = 0 ∧ c + (B[i]'h).toNat * 2 ^ (7 - i % 8) < 256 ∧
    packB (B.take (i + 1)) = (pkRow B i).set (i / 8) (UInt8.ofNat (c + (B[i]'h).toNat * 2 ^ (7 - i % 8))) := by
  obtain ⟨ws, ct, pt, e, h8, hp⟩ := bits_split (B.take i)
  have hl := congrArg List.length e
  rw [List.length_append, sbitsL_length, bitsN_length, List.length_take, Nat.min_eq_left (by omega)] at hl
  have hct : ct = i % 8 := by omega
  have hws : ws.length = i / 8 := by omega
  obtain ⟨x, hx⟩ : ∃ x, x = (B[i]'h).toNat := ⟨_, rfl⟩
  have hx1 : x ≤ 1 := by rw [hx]; cases B[i]'h <;> simp
  have hbx : B[i]'h = decide (x = 1) := by rw [hx]; cases B[i]'h <;> simp
  have e2 : B.take (i + 1) = sbitsL ws ++ bitsN (ct + 1) (2 * pt + x) := by
    rw [List.take_succ_eq_append_getElem h, hbx]
    have : (2 * pt + x) / 2 = pt := by omega
    have h3 : (2 * pt + x) % 2 = x := by omega
    rw [e, bitsN, this, h3, List.append_assoc]
  have hlt : (2 * pt + x) < 2 ^ (ct + 1) := by rw [Nat.pow_succ]; omega
  have hv : (2 * pt + x) * 2 ^ (7 - ct) = pt * 2 ^ (8 - ct) + x * 2 ^ (7 - ct) := by
    rw [show 8 - ct = (7 - ct) + 1 by omega, Nat.pow_succ, Nat.add_mul, Nat.mul_comm 2 pt, Nat.mul_assoc, Nat.mul_comm 2 (2 ^ (7 - ct))]
  have h256 : (2 * pt + x) * 2 ^ (7 - ct) < 256 := by
    have := Nat.mul_lt_mul_of_pos_right hlt (Nat.two_pow_pos (7 - ct))
    rwa [← Nat.pow_add, show ct + 1 + (7 - ct) = 8 by omega] at this
  have hnew : packB (B.take (i + 1)) = ws ++ [UInt8.ofNat ((2 * pt + x) * 2 ^ (7 - ct))] := by
    by_cases h7 : ct = 7
    · subst h7
      have e3 : B.take (i + 1) = sbitsL (ws ++ [UInt8.ofNat (2 * pt + x)]) ++ [] := by
        have hm : (2 * pt + x) < 256 := by simpa using hlt
        rw [e2, sbitsL_append, sbitsL_cons, sbitsL_nil, UInt8.toNat_ofNat', Nat.mod_eq_of_lt (by omega)]
        simp
      rw [e3, packB_sbits, packB_nil]
      simp
    · rw [packB_of e2 (by omega) hlt, if_neg (by omega), show 8 - (ct + 1) = 7 - ct by omega]
  have hrow : pkRow B i = ws ++ [UInt8.ofNat (pt * 2 ^ (8 - ct))] := by
    unfold pkRow
    rw [packB_of e h8 hp, ← hct]
    by_cases h0 : ct = 0
    · subst h0
      have : pt = 0 := by simpa using hp
      subst this
      rw [if_pos rfl, if_pos rfl]; rfl
    · rw [if_neg h0, if_neg h0]
  refine ⟨pt * 2 ^ (8 - ct), ?_, ?_, ?_, ?_, ?_⟩
  · rw [hrow, ← hws, List.getElem?_append_right (Nat.le_refl _), Nat.sub_self]; rfl
  · rw [hrow]; simp [hws]
  · rw [← hct, Nat.mul_mod_left]
  · rw [← hct, ← hx, ← hv]; exact h256
  · rw [hnew, hrow, ← hct, ← hx, ← hv, ← hws, List.set_append_right _ _ (Nat.le_refl _), Nat.sub_self]; rfl

theorem u8_or_add {a y : Nat} (k : Nat) (ha : a % 2 ^ k = 0) (hy : y < 2 ^ k) (h : a + y < 256) : bits .or .u8 (a : Int) (y : Int) = ((a + y : Nat) : Int) := by
  rw [u8_or_nat _ _ (by omega) (by omega), nat_join k a y ha hy]

theorem row_open {w : World} {base n : Nat} {v : Value} {xs : List Value} (h : w.ownsRow base 5 1 v n xs) (hn : 0 < n) :
    ∃ g cap cur, v = .slice (some ⟨g, 0, none⟩) n cap ∧ base ≤ g ∧ w.heap[g]? = some (.cells cur 5 (0, 0)) ∧ n ≤ cap ∧ cap ≤ maxLen ∧ cur.size = cap ∧ cur.toList.take n = xs := by
  rcases h.2 with ⟨_, h0⟩ | ⟨g, cap, cur, h1, h2, h3, h4, h5, h6, h7⟩
  · omega
  · exact ⟨g, cap, cur, h1, h2, h3, h4, h5, by simpa using h6, by simpa using h7⟩

theorem row_set {cur : Array Value} {P : List UInt8} {n q : Nat} {y : Nat} (h : cur.toList.take n = P.map bv) (hq : q < n) (hy : y < 256) : (cur.setIfInBounds q (.int .u8 (y : Int))).toList.take n = (P.set q (UInt8.ofNat y)).map bv := by
  rw [List.map_set, bv_ofNat hy, ← h, Array.toList_setIfInBounds, List.take_set]

theorem chB_nat (b : Bool) : ((chB b).toNat : Int) = 48 + ((b.toNat : Nat) : Int) := by cases b <;> rfl

set_option maxHeartbeats 1000000 in
theorem qbytes_any {W w : World} {L : List AObj} {F : List (Nat × Obj)} (h : Hp W w L F) (k : Nat) {b : Nat} {B : List Bool} (hk : L[k]? = some (aQwr b B)) (hB : B.length ≤ 2 ^ 41) :
    Calls Try.prog 33 #[.pointer (some ⟨b, 0, none⟩)] w fun e w' => e = .returned (.string (pstr B)) ∧ Hp W w' L F := by
  obtain ⟨ti, ti1, ti2, ti3, ti4⟩ := u8_info
  obtain ⟨v, G, hat, hby⟩ := h.qwr k hk
  obtain ⟨sp, cap, rfl, h1, h2⟩ := hby.form
  rw [List.length_map] at hat hby
  obtain ⟨x0, y0⟩ : w.cell? ⟨b, 0, none⟩ = some (.slice sp B.length cap) ∧ w.frozen? ⟨b, 0, none⟩ = false := by simp [World.cell?, World.frozen?, hat, qwrObj]
  have hblt := lt_of_block hat
  have HH := Lib.hid h; have HBY := Lib.hid hby; have X0 := Lib.hid x0
  obtain ⟨n, hn⟩ : ∃ n, n = B.length := ⟨_, rfl⟩
  rw [← hn] at X0 HBY hB
  have HN := Lib.hid hn
  clear h hby hat hk x0 y0 hn h1
  go_enter Try.func33, Try.ntmps33
  go_wp2
  go_loopw [3, 4] (fun out i wr => ∃ m : Nat, i = .int .i64 m ∧ m ≤ n ∧ wr.ownsRow w.heap.size 5 1 out (packB (B.take m)).length ((packB (B.take m)).map bv) ∧ Below w.heap.size w wr) (fun _ i _ => n - (intOf i).toNat)
  case atStart => exact ⟨0, rfl, Nat.zero_le _, by rw [List.take_zero, packB_nil]; exact ⟨rfl, Or.inl ⟨rfl, rfl⟩⟩, Below.refl _ _⟩
  case round =>
    obtain ⟨m, rfl, g1, g2, g3⟩ := hrel
    have x0 : wr.cell? ⟨b, 0, none⟩ = some (.slice sp n cap) := (g3.cell (p := ⟨b, 0, none⟩) hblt).trans X0.out
    have G2 := Lib.hid g2
    have G3 := Lib.hid g3
    clear g3
    by_cases hm : m < n
    · have hmB : m < B.length := by rw [← HN.out]; exact hm
      obtain ⟨c, s1, s2, s3, s4, s5⟩ := pk_step B m hmB
      obtain ⟨q, hq⟩ : ∃ q, q = m / 8 := ⟨_, rfl⟩
      rw [← hq] at s1 s2 s5
      obtain ⟨x, hx⟩ : ∃ x, x = (B[m]'hmB).toNat := ⟨_, rfl⟩
      have hx1 : x ≤ 1 := by rw [hx]; cases B[m]'hmB <;> simp
      rw [← hx] at s4 s5
      have hbyn : w.ownsRow 0 5 1 (.slice sp n cap) n ((B.map chB).map bv) := by have := HBY.out.1; rwa [List.length_map, ← HN.out] at this
      obtain ⟨gb, capb, curb, eb, _, hgb, e4, e5, e6, e7⟩ := row_open hbyn (by omega)
      injection eb with eb1 eb2 eb3
      subst eb1
      subst eb3
      have hgblt := lt_of_block hgb
      have cb0 : w.cell? ⟨gb, m, none⟩ = some (.int .u8 (48 + (x : Int))) := by
        have := hbyn.cells (g := gb) rfl m (.int .u8 (48 + (x : Int))) (by
          rw [List.getElem?_map, List.getElem?_map, List.getElem?_eq_getElem hmB]
          show some (Value.int .u8 ((chB (B[m]'hmB)).toNat : Int)) = _
          rw [chB_nat, hx])
        rwa [addr_add] at this
      have S1 := Lib.hid s1; have S2 := Lib.hid s2; have S3 := Lib.hid s3; have S5 := Lib.hid s5; have HX := Lib.hid hx
      clear s1 s2 s3 s5 hx hbyn hgb e4 e5 e6 e7
      have CB := Lib.hid cb0; clear cb0
      have hw8 : ((m : Int) % 8 == 0) = decide (m % 8 = 0) := by
        by_cases e : m % 8 = 0
        · have : (m : Int) % 8 = 0 := by omega
          simp [e, this]
        · have : ¬ (m : Int) % 8 = 0 := by omega
          simp [e]; omega
      by_cases h8 : m % 8 = 0
      · have q0 : ((m : Int) % 8 == 0) = true := by rw [hw8, h8]; rfl
        clear hw8
        have H8 := Lib.hid h8
        have hP : Hid (pkRow B m = packB (B.take m) ++ [0]) := by show _ = _; unfold pkRow; rw [if_pos h8]
        have hml : (packB (B.take m)).length ≤ 2 ^ 41 := by rw [packB_length]; simp; omega
        obtain ⟨sp2, cap2, rfl⟩ : ∃ sp2 cap2, u3 = Value.slice sp2 (packB (B.take m)).length cap2 := by
          rcases g2.2 with ⟨rfl, e0⟩ | ⟨g, cp, cur, e1, _⟩
          · exact ⟨none, 0, by rw [e0]⟩
          · exact ⟨_, _, e1⟩
        obtain ⟨pl, hpl⟩ : ∃ pl, pl = (packB (B.take m)).length := ⟨_, rfl⟩
        rw [← hpl] at g2 hml
        rw [← hpl]
        have HPL := Lib.hid hpl
        have G2' := Lib.hid g2
        clear hpl G2 g2
        have hbw : b < wr.heap.size := Nat.lt_of_lt_of_le hblt G3.out.size
        have q1 : ¬ b = wr.heap.size := by omega
        have q2 : ¬ wr.heap.size = b := by omega
        clear h8
        go_wp2_with (at_builtin; refine wpList_append_own_at _ rfl (.tmp 19) (.tmp 20) 36 rfl w.heap.size 5 ti (.int .u8 0) 1 1 Try.underlying36 ti1 ti2 ti3 ti4 rfl (by decide) _ _ _ rfl (G2'.out.alloc _) ⟨wr.heap.size, 0, none⟩ 1 1 [.int .u8 0] rfl rfl (one_new _ _ _) ?c2 ?c3 ?c4 ?c5 ?_)
        case c2 => rfl
        case c3 => unfold maxLen; omega
        case c4 => omega
        case c5 => have := G3.out.size; simp; omega
        intro v' w1 hown' hgrow _ hat2
        have hb1 : Below w.heap.size w w1 := by
          refine (G3.out.alloc (by have := G3.out.size; omega) _).grown hgrow (by have := G3.out.size; simp; omega) (fun j hj => ?_)
          rcases G2'.out.2 with ⟨e1, _⟩ | ⟨g, cp, cur, e1, e2, _⟩
          · rw [e1] at hj; simp [Value.ownBlock] at hj
          · rw [e1] at hj; simp [Value.ownBlock] at hj; omega
        have hrw : w1.ownsRow w.heap.size 5 1 v' (pkRow B m).length ((pkRow B m).map bv) := by
          rw [hP.out, List.length_append, ← HPL.out, List.map_append]
          exact hown'
        rw [S2.out] at hrw
        obtain ⟨g, cap', cur, rfl, z1, z2, z3, z4, z5, z6⟩ := row_open hrw (by omega)
        clear hown' hgrow hat2 x0
        obtain ⟨c0, hc0⟩ : ∃ c0, w1.cell? ⟨g, q, none⟩ = some (.int .u8 (c : Int)) ∧ c0 = w1.frozen? ⟨g, q, none⟩ := by
          refine ⟨_, ?_, rfl⟩
          have h6 := z6
          have h1 : ((pkRow B m).map bv)[q]? = some (.int .u8 (c : Int)) := by rw [List.getElem?_map, S1.out, Option.map_some, bv_ofNat (by omega)]
          rw [← z6, List.getElem?_take_of_lt (by omega)] at h1
          simpa [World.cell?, z2] using h1
        have hc1 := hc0.1
        have hf1 : w1.frozen? ⟨g, q, none⟩ = false := free_of z2
        have Z2 := Lib.hid z2; have Z3 := Lib.hid z3; have Z5 := Lib.hid z5; have Z6 := Lib.hid z6; have HB1 := Lib.hid hb1
        have x1 : w1.cell? ⟨b, 0, none⟩ = some (.slice (some ⟨gb, 0, none⟩) n cap) := (hb1.cell (p := ⟨b, 0, none⟩) hblt).trans X0.out
        have cb1 : w1.cell? ⟨gb, m, none⟩ = some (.int .u8 (48 + (x : Int))) := (hb1.cell (p := ⟨gb, m, none⟩) hgblt).trans CB.out
        clear z2 z3 z5 z6 hb1 hrw hc0
        have p0 : (m : Int) / 8 = (q : Int) := by omega
        have p4 : (q : Int) < (q : Int) + 1 := by omega
        have p1 : IntKind.i64.wrap (q : Int) = (q : Int) := IntWalk.i64_in _ (by omega)
        have HQ := Lib.hid hq; clear hq
        have p5 : IntKind.i64.wrap (7 - (m : Int) % 8) = 7 - (m : Int) % 8 := IntWalk.i64_in _ (by omega)
        go_wp2
        go_still_tail 23, (by kernel_rfl)
        change wpList _ _ _ _ _ w1.drew
        generalize hw2 : w1.drew = w2
        have C8 : w2.cell? ⟨g, q, none⟩ = some (.int .u8 (c : Int)) := by rw [← hw2]; exact hc1
        have F8 : w2.frozen? ⟨g, q, none⟩ = false := by rw [← hw2]; exact hf1
        have HW2 := Lib.hid hw2; clear hw2
        go_wp2
        have hpv : bits .or .u8 (c : Int) ((48 + (x : Int) - 48) * 2 ^ (7 - m % 8) % 256) = ((c + x * 2 ^ (7 - m % 8) : Nat) : Int) := by
          have e1 : (48 + (x : Int) - 48) * 2 ^ (7 - m % 8) = ((x * 2 ^ (7 - m % 8) : Nat) : Int) := by simp; congr 1; omega
          have hlt : x * 2 ^ (7 - m % 8) < 2 ^ (8 - m % 8) := by
            rw [show 8 - m % 8 = (7 - m % 8) + 1 by omega, Nat.pow_succ, Nat.mul_comm]
            exact Nat.mul_lt_mul_of_pos_left (by omega) (Nat.two_pow_pos _)
          have e2 : ((x * 2 ^ (7 - m % 8) : Nat) : Int) % 256 = ((x * 2 ^ (7 - m % 8) : Nat) : Int) := by omega
          rw [e1, e2, u8_or_add (8 - m % 8) S3.out hlt s4]
        rw [show min (7 - m % 8) 8 = 7 - m % 8 by omega, hpv]
        go_roundw
        case rel =>
          have hl : (packB (B.take (m + 1))).length = q + 1 := by rw [S5.out, List.length_set, S2.out]
          have hw2 := HW2.out
          have z2' : w2.heap[g]? = some (.cells cur 5 (0, 0)) := by rw [← hw2]; exact Z2.out
          have hb2 : Below w.heap.size w w2 := by rw [← hw2]; exact HB1.out.drew
          refine ⟨m + 1, by go_num, by omega, ⟨by simp, Or.inr ⟨g, cap', _, by rw [hl], z1, heap_setCell_self z2' q _, by rw [hl]; exact Z3.out, z4, by simpa using Z5.out, ?_⟩⟩, hb2.setCell z1 _⟩
          rw [hl, Nat.mul_one, row_set Z6.out (by omega) s4, S5.out]
        case measure => simp [intOf]; omega
      · have q0 : ((m : Int) % 8 == 0) = false := by rw [hw8]; simpa using h8
        clear hw8
        have hP : pkRow B m = packB (B.take m) := by unfold pkRow; rw [if_neg h8]
        obtain ⟨w1, hw1⟩ : ∃ w1, w1 = wr := ⟨_, rfl⟩
        rw [← hP, S2.out] at g2
        obtain ⟨g, cap', cur, rfl, z1, z2, z3, z4, z5, z6⟩ := row_open g2 (by omega)
        subst hw1
        have hb1 := G3.out
        have hrw := g2
        clear G2 g2 hP h8
        obtain ⟨c0, hc0⟩ : ∃ c0, w1.cell? ⟨g, q, none⟩ = some (.int .u8 (c : Int)) ∧ c0 = w1.frozen? ⟨g, q, none⟩ := by
          refine ⟨_, ?_, rfl⟩
          have h6 := z6
          have h1 : ((pkRow B m).map bv)[q]? = some (.int .u8 (c : Int)) := by rw [List.getElem?_map, S1.out, Option.map_some, bv_ofNat (by omega)]
          rw [← z6, List.getElem?_take_of_lt (by omega)] at h1
          simpa [World.cell?, z2] using h1
        have hc1 := hc0.1
        have hf1 : w1.frozen? ⟨g, q, none⟩ = false := free_of z2
        have Z2 := Lib.hid z2; have Z3 := Lib.hid z3; have Z5 := Lib.hid z5; have Z6 := Lib.hid z6; have HB1 := Lib.hid hb1
        have x1 : w1.cell? ⟨b, 0, none⟩ = some (.slice (some ⟨gb, 0, none⟩) n cap) := (hb1.cell (p := ⟨b, 0, none⟩) hblt).trans X0.out
        have cb1 : w1.cell? ⟨gb, m, none⟩ = some (.int .u8 (48 + (x : Int))) := (hb1.cell (p := ⟨gb, m, none⟩) hgblt).trans CB.out
        clear z2 z3 z5 z6 hb1 hrw hc0
        have p0 : (m : Int) / 8 = (q : Int) := by omega
        have p4 : (q : Int) < (q : Int) + 1 := by omega
        have p1 : IntKind.i64.wrap (q : Int) = (q : Int) := IntWalk.i64_in _ (by omega)
        have HQ := Lib.hid hq; clear hq
        have p5 : IntKind.i64.wrap (7 - (m : Int) % 8) = 7 - (m : Int) % 8 := IntWalk.i64_in _ (by omega)
        go_wp2
        go_still_tail 23, (by kernel_rfl)
        change wpList _ _ _ _ _ w1.drew
        generalize hw2 : w1.drew = w2
        have C8 : w2.cell? ⟨g, q, none⟩ = some (.int .u8 (c : Int)) := by rw [← hw2]; exact hc1
        have F8 : w2.frozen? ⟨g, q, none⟩ = false := by rw [← hw2]; exact hf1
        have HW2 := Lib.hid hw2; clear hw2
        go_wp2
        have hpv : bits .or .u8 (c : Int) ((48 + (x : Int) - 48) * 2 ^ (7 - m % 8) % 256) = ((c + x * 2 ^ (7 - m % 8) : Nat) : Int) := by
          have e1 : (48 + (x : Int) - 48) * 2 ^ (7 - m % 8) = ((x * 2 ^ (7 - m % 8) : Nat) : Int) := by simp; congr 1; omega
          have hlt : x * 2 ^ (7 - m % 8) < 2 ^ (8 - m % 8) := by
            rw [show 8 - m % 8 = (7 - m % 8) + 1 by omega, Nat.pow_succ, Nat.mul_comm]
            exact Nat.mul_lt_mul_of_pos_left (by omega) (Nat.two_pow_pos _)
          have e2 : ((x * 2 ^ (7 - m % 8) : Nat) : Int) % 256 = ((x * 2 ^ (7 - m % 8) : Nat) : Int) := by omega
          rw [e1, e2, u8_or_add (8 - m % 8) S3.out hlt s4]
        rw [show min (7 - m % 8) 8 = 7 - m % 8 by omega, hpv]
        go_roundw
        case rel =>
          have hl : (packB (B.take (m + 1))).length = q + 1 := by rw [S5.out, List.length_set, S2.out]
          have hw2 := HW2.out
          have z2' : w2.heap[g]? = some (.cells cur 5 (0, 0)) := by rw [← hw2]; exact Z2.out
          have hb2 : Below w.heap.size w w2 := by rw [← hw2]; exact HB1.out.drew
          refine ⟨m + 1, by go_num, by omega, ⟨by simp, Or.inr ⟨g, cap', _, by rw [hl], z1, heap_setCell_self z2' q _, by rw [hl]; exact Z3.out, z4, by simpa using Z5.out, ?_⟩⟩, hb2.setCell z1 _⟩
          rw [hl, Nat.mul_one, row_set Z6.out (by omega) s4, S5.out]
        case measure => simp [intOf]; omega
    · obtain rfl : m = n := by omega
      have hT : packB (B.take m) = packB B := by rw [HN.out, List.take_length]
      rw [hT] at g2
      obtain ⟨sp2, cap2, rfl⟩ : ∃ sp2 cap2, u3 = Value.slice sp2 (packB B).length cap2 := by
        rcases g2.2 with ⟨rfl, e0⟩ | ⟨g, cp, cur, e1, _⟩
        · exact ⟨none, 0, by rw [e0]⟩
        · exact ⟨_, _, e1⟩
      have hcv := conv_bytes (P := Try.prog) (G := G) Try.underlying36 Try.underlying5 Try.underlying9 wr g2
      obtain ⟨pl, hpl⟩ : ∃ pl, pl = (packB B).length := ⟨_, rfl⟩
      obtain ⟨S, hS⟩ : ∃ S, S = pstr B := ⟨_, rfl⟩
      have e : (⟨(packB B).toArray⟩ : ByteArray) = S := hS.symm
      rw [e, ← hpl] at hcv
      rw [← hpl]
      have HS := Lib.hid hS
      clear g2 e hS hpl G2
      go_wp2
      refine bodyPost_ret (results_tmp rfl _ _ _) rfl ⟨?_, HH.out.same G3.out⟩
      rw [← HS.out]; rfl

/-- Put at a number that is written as an Int (a constant of the text). -/
theorem put_int {W w : World} {L : List AObj} {F : List (Nat × Obj)} (h : Hp W w L F) (k : Nat) {b : Nat} {B : List Bool} (hk : L[k]? = some (aWr b B)) (hB : B.length ≤ 2 ^ 40) (n v : Int) (h0 : 0 ≤ v) (hv : v < 18446744073709551616) :
    Calls Try.prog 22 #[.pointer (some ⟨b, 0, none⟩), .int .i64 n, .int .u64 v] w fun e w' => e = .returned (.int .i64 (pE n v.toNat)) ∧ Hp W w' (L.set k (aWr b (pB B n v.toNat))) F := by
  obtain ⟨m, rfl⟩ : ∃ m : Nat, v = (m : Int) := ⟨v.toNat, by omega⟩
  rw [Int.toNat_natCast]
  exact put_any h k hk hB n m (by omega)
theorem qput_int {W w : World} {L : List AObj} {F : List (Nat × Obj)} (h : Hp W w L F) (k : Nat) {b : Nat} {B : List Bool} (hk : L[k]? = some (aQwr b B)) (hB : B.length ≤ 2 ^ 40) (n v : Int) (h0 : 0 ≤ v) (hv : v < 18446744073709551616) :
    Calls Try.prog 29 #[.pointer (some ⟨b, 0, none⟩), .int .i64 n, .int .u64 v] w fun e w' => e = .returned (.int .i64 (pE n v.toNat)) ∧ Hp W w' (L.set k (aQwr b (pB B n v.toNat))) F := by
  obtain ⟨m, rfl⟩ : ∃ m : Nat, v = (m : Int) := ⟨v.toNat, by omega⟩
  rw [Int.toNat_natCast]
  exact qput_any h k hk hB n m (by omega)


theorem left_hp {W w : World} {L : List AObj} {F : List (Nat × Obj)} (h : Hp W w L F) (k : Nat) {b : Nat} {s : ByteArray} {i : Nat} (hk : L[k]? = some (aRd b s i)) :
    Calls Try.prog 65 #[.pointer (some ⟨b, 0, none⟩)] w fun e w' => e = .returned (.int .i64 ((8 * s.size - i : Nat) : Int)) ∧ Hp W w' L F :=
  (left_any h k hk).mono fun _ _ ⟨he, _, hw⟩ => ⟨he, hw ▸ h.drewN _⟩
theorem qleft_hp {W w : World} {L : List AObj} {F : List (Nat × Obj)} (h : Hp W w L F) (k : Nat) {b : Nat} {s : ByteArray} {i : Nat} (hk : L[k]? = some (aQrd b s i)) :
    Calls Try.prog 73 #[.pointer (some ⟨b, 0, none⟩)] w fun e w' => e = .returned (.int .i64 ((8 * s.size - i : Nat) : Int)) ∧ Hp W w' L F :=
  (qleft_any h k hk).mono fun _ _ ⟨he, _, hw⟩ => ⟨he, hw ▸ h.drewN _⟩
theorem len_hp {W w : World} {L : List AObj} {F : List (Nat × Obj)} (h : Hp W w L F) (k : Nat) {b : Nat} {B : List Bool} (hk : L[k]? = some (aWr b B)) (hB : B.length ≤ 2 ^ 41) :
    Calls Try.prog 62 #[.pointer (some ⟨b, 0, none⟩)] w fun e w' => e = .returned (.int .i64 (B.length : Nat)) ∧ Hp W w' L F :=
  (len_any h k hk hB).mono fun _ _ ⟨he, _, hw⟩ => ⟨he, hw ▸ h.drewN _⟩


theorem uE_ok {s : ByteArray} {i n : Nat} (h : n ≤ 64) (hl : i + n ≤ 8 * s.size) : uE s i (n : Int) = 0 := by
  unfold uE; rw [if_neg (by omega), if_neg (by omega)]
theorem uI_ok {s : ByteArray} {i n : Nat} (h : n ≤ 64) (hl : i + n ≤ 8 * s.size) : uI s i (n : Int) = i + n := by
  unfold uI; rw [if_pos (uE_ok h hl), Int.toNat_natCast]
theorem uV_ok {s : ByteArray} {i n : Nat} (h : n ≤ 64) (hl : i + n ≤ 8 * s.size) : uV s i (n : Int) = natB (seg (sbits s) i n) := by
  unfold uV; rw [if_pos (uE_ok h hl), Int.toNat_natCast]
theorem pE_ok {n v : Nat} (h : n ≤ 64) (hv : v < 2 ^ n) : pE (n : Int) v = 0 := by
  unfold pE; rw [if_neg (by omega), if_neg (fun hc => by have := hc.2; rw [Int.toNat_natCast] at this; omega)]
theorem pB_ok {B : List Bool} {n v : Nat} (h : n ≤ 64) (hv : v < 2 ^ n) : pB B (n : Int) v = B ++ bitsN n v := by
  unfold pB; rw [if_pos (pE_ok h hv), Int.toNat_natCast]

end Go.Proofs.Ytkaoeilijdeioaa
