/- The law's encoded. -/
import Derived.Test.YtnefiaghojojgaaVi
import Derived.Test.YtnefiaghojojgaaVa
namespace Go.Proofs.Ytnefiaghojojgaa
open Go.RowKit Go.Shelf
set_option linter.unusedVariables false
set_option maxRecDepth 100000
set_option linter.unusedSimpArgs false

/-- A call: its error and its bins. -/
structure Ask where
  (what V Most First Second N : Int) (vert : Bool)
@[reducible] def askV (a : Ask) : Value := .agg #[.int .u8 a.what, .int .i64 a.V, .int .i64 a.Most, .int .i64 a.First, .int .i64 a.Second, .int .i64 a.N, .bool a.vert]
def askE (a : Ask) : Int :=
  if a.what % 6 = 0 then unE a.V a.First a.Second a.N
  else if a.what % 6 = 1 then cutE a.V a.Most a.First a.Second
  else if a.what % 6 = 2 then escE (a.V % 18446744073709551616).toNat a.N
  else if a.what % 6 = 3 then mvE a.V a.N
  else if a.what % 6 = 4 then tyE a.V a.vert a.N
  else qpE a.V a.N
def askB (a : Ask) : List (Int × Int) :=
  if a.what % 6 = 0 then unB a.V a.First a.Second a.N
  else if a.what % 6 = 1 then cutB a.V a.Most a.First a.Second
  else if a.what % 6 = 2 then escB (a.V % 18446744073709551616).toNat a.N
  else if a.what % 6 = 3 then mvB a.V a.N a.vert
  else if a.what % 6 = 4 then tyB a.V a.vert a.N
  else qpB a.V a.N
structure AskOk (a : Ask) : Prop where
  w0 : 0 ≤ a.what
  w1 : a.what ≤ 255
  v0 : -9223372036854775808 ≤ a.V
  v1 : a.V < 9223372036854775808

theorem cells_ask {w : World} {b : Nat} {c0 c1 c2 c3 c4 c5 c6 : Value} {t : TypeId} (h : w.heap[b]? = some (.cells #[c0, c1, c2, c3, c4, c5, c6] t (0, 0))) :
    w.cell? ⟨b, 0, none⟩ = some c0 ∧ w.cell? ⟨b, 1, none⟩ = some c1 ∧ w.cell? ⟨b, 2, none⟩ = some c2 ∧ w.cell? ⟨b, 3, none⟩ = some c3 ∧ w.cell? ⟨b, 4, none⟩ = some c4 ∧ w.cell? ⟨b, 5, none⟩ = some c5 ∧ w.cell? ⟨b, 6, none⟩ = some c6 := by
  refine ⟨?_, ?_, ?_, ?_, ?_, ?_, ?_⟩ <;> simp [World.cell?, h]

section
variable {W w : World} {L : List AObj} {F : List (Nat × Obj)}
set_option maxHeartbeats 8000000 in
theorem enc0 (h : Hp W w L F) (what V M A B N : Int) (vert : Bool) (hw : what % 6 = 0) (w0 : 0 ≤ what) (w1 : what ≤ 255) (v1 : -9223372036854775808 ≤ V) (v2 : V < 9223372036854775808) :
    Calls Try.prog 14 #[askV ⟨what, V, M, A, B, N, vert⟩] w fun e w' => ∃ x y, e = .returned (.tuple #[x, y, .int .i64 (unE V A B N), .int .i64 (unE V A B N)]) ∧ Hp W w' (aBn y (unB V A B N) :: aBn x (unB V A B N) :: L) F := by
  have hx : ∀ (w : World) (L : List AObj) (F : List (Nat × Obj)), Hp W w L F → Calls Try.prog 11 #[.int .i64 V, .int .i64 A, .int .i64 B, .int .i64 N] w fun e w' => ∃ v', e = .returned (.tuple #[v', .int .i64 (unE V A B N)]) ∧ Hp W w' (aBn v' (unB V A B N) :: L) F := fun w L F h => unary_any h V A B N v1 v2
  have hy : ∀ (w : World) (L : List AObj) (F : List (Nat × Obj)), Hp W w L F → Calls Try.prog 26 #[.int .i64 V, .int .i64 A, .int .i64 B, .int .i64 N] w fun e w' => ∃ v', e = .returned (.tuple #[v', .int .i64 (unE V A B N)]) ∧ Hp W w' (aBn v' (unB V A B N) :: L) F := fun w L F h => qunary_any h V A B N
  generalize unE V A B N = E at *
  generalize unB V A B N = C at *
  have HX := Lib.hid hx
  have HY := Lib.hid hy
  have H := Lib.hid (h.alloc (.cells #[.int .u8 what, .int .i64 V, .int .i64 M, .int .i64 A, .int .i64 B, .int .i64 N, .bool vert] 40))
  clear h hx hy
  go_enter Try.func14, Try.ntmps14
  go_wp2_with (first | (go_at_call 11; (with_reducible refine (HX.out _ _ _ H.out).mono ?_); rintro e w1 ⟨x, rfl, h1⟩; obtain ⟨c0, c1, c2, c3, c4, c5, c6⟩ := cells_ask (b := w.heap.size) (h1.blk (.head _))) | (go_at_call 26; (with_reducible refine (HY.out _ _ _ h1).mono ?_); rintro e w2 ⟨y, rfl, h2⟩))
  exact bodyPost_ret (v := .tuple #[x, y, .int .i64 E, .int .i64 E]) (by simp [results, Try.results14, go_sem]) rfl ⟨x, y, rfl, h2.drop⟩
set_option maxHeartbeats 8000000 in
theorem enc1 (h : Hp W w L F) (what V M A B N : Int) (vert : Bool) (hw : what % 6 = 1) (w0 : 0 ≤ what) (w1 : what ≤ 255) (v1 : -9223372036854775808 ≤ V) (v2 : V < 9223372036854775808) :
    Calls Try.prog 14 #[askV ⟨what, V, M, A, B, N, vert⟩] w fun e w' => ∃ x y, e = .returned (.tuple #[x, y, .int .i64 (cutE V M A B), .int .i64 (cutE V M A B)]) ∧ Hp W w' (aBn y (cutB V M A B) :: aBn x (cutB V M A B) :: L) F := by
  have hx : ∀ (w : World) (L : List AObj) (F : List (Nat × Obj)), Hp W w L F → Calls Try.prog 27 #[.int .i64 V, .int .i64 M, .int .i64 A, .int .i64 B] w fun e w' => ∃ v', e = .returned (.tuple #[v', .int .i64 (cutE V M A B)]) ∧ Hp W w' (aBn v' (cutB V M A B) :: L) F := fun w L F h => cut_any h V M A B
  have hy : ∀ (w : World) (L : List AObj) (F : List (Nat × Obj)), Hp W w L F → Calls Try.prog 28 #[.int .i64 V, .int .i64 M, .int .i64 A, .int .i64 B] w fun e w' => ∃ v', e = .returned (.tuple #[v', .int .i64 (cutE V M A B)]) ∧ Hp W w' (aBn v' (cutB V M A B) :: L) F := fun w L F h => qcut_any h V M A B
  generalize cutE V M A B = E at *
  generalize cutB V M A B = C at *
  have HX := Lib.hid hx
  have HY := Lib.hid hy
  have H := Lib.hid (h.alloc (.cells #[.int .u8 what, .int .i64 V, .int .i64 M, .int .i64 A, .int .i64 B, .int .i64 N, .bool vert] 40))
  clear h hx hy
  go_enter Try.func14, Try.ntmps14
  go_wp2_with (first | (go_at_call 27; (with_reducible refine (HX.out _ _ _ H.out).mono ?_); rintro e w1 ⟨x, rfl, h1⟩; obtain ⟨c0, c1, c2, c3, c4, c5, c6⟩ := cells_ask (b := w.heap.size) (h1.blk (.head _))) | (go_at_call 28; (with_reducible refine (HY.out _ _ _ h1).mono ?_); rintro e w2 ⟨y, rfl, h2⟩))
  exact bodyPost_ret (v := .tuple #[x, y, .int .i64 E, .int .i64 E]) (by simp [results, Try.results14, go_sem]) rfl ⟨x, y, rfl, h2.drop⟩
set_option maxHeartbeats 8000000 in
theorem enc2 (h : Hp W w L F) (what V M A B N : Int) (vert : Bool) (hw : what % 6 = 2) (w0 : 0 ≤ what) (w1 : what ≤ 255) (v1 : -9223372036854775808 ≤ V) (v2 : V < 9223372036854775808) :
    Calls Try.prog 14 #[askV ⟨what, V, M, A, B, N, vert⟩] w fun e w' => ∃ x y, e = .returned (.tuple #[x, y, .int .i64 (escE (V % 18446744073709551616).toNat N), .int .i64 (escE (V % 18446744073709551616).toNat N)]) ∧ Hp W w' (aBn y (escB (V % 18446744073709551616).toNat N) :: aBn x (escB (V % 18446744073709551616).toNat N) :: L) F := by
  obtain ⟨U, hV⟩ : ∃ U : Nat, V % 18446744073709551616 = (U : Int) := ⟨(V % 18446744073709551616).toNat, by omega⟩
  have hU : U < 18446744073709551616 := by omega
  rw [hV, Int.toNat_natCast]
  have i0 : IntKind.u64.wrap V = (U : Int) := by rw [IntKind.wrap_u64]; exact hV
  have hx : ∀ (w : World) (L : List AObj) (F : List (Nat × Obj)), Hp W w L F → Calls Try.prog 12 #[.int .u64 U, .int .i64 N] w fun e w' => ∃ v', e = .returned (.tuple #[v', .int .i64 (escE U N)]) ∧ Hp W w' (aBn v' (escB U N) :: L) F := fun w L F h => escape_any h U N hU
  have hy : ∀ (w : World) (L : List AObj) (F : List (Nat × Obj)), Hp W w L F → Calls Try.prog 29 #[.int .u64 U, .int .i64 N] w fun e w' => ∃ v', e = .returned (.tuple #[v', .int .i64 (escE U N)]) ∧ Hp W w' (aBn v' (escB U N) :: L) F := fun w L F h => qescape_any h U N hU
  generalize escE U N = E at *
  generalize escB U N = C at *
  have HX := Lib.hid hx
  have HY := Lib.hid hy
  have H := Lib.hid (h.alloc (.cells #[.int .u8 what, .int .i64 V, .int .i64 M, .int .i64 A, .int .i64 B, .int .i64 N, .bool vert] 40))
  clear h hx hy hU
  go_enter Try.func14, Try.ntmps14
  go_wp2_with (first | (go_at_call 12; (with_reducible refine (HX.out _ _ _ H.out).mono ?_); rintro e w1 ⟨x, rfl, h1⟩; obtain ⟨c0, c1, c2, c3, c4, c5, c6⟩ := cells_ask (b := w.heap.size) (h1.blk (.head _))) | (go_at_call 29; (with_reducible refine (HY.out _ _ _ h1).mono ?_); rintro e w2 ⟨y, rfl, h2⟩))
  exact bodyPost_ret (v := .tuple #[x, y, .int .i64 E, .int .i64 E]) (by simp [results, Try.results14, go_sem]) rfl ⟨x, y, rfl, h2.drop⟩
set_option maxHeartbeats 8000000 in
theorem enc3 (h : Hp W w L F) (what V M A B N : Int) (vert : Bool) (hw : what % 6 = 3) (w0 : 0 ≤ what) (w1 : what ≤ 255) (v1 : -9223372036854775808 ≤ V) (v2 : V < 9223372036854775808) :
    Calls Try.prog 14 #[askV ⟨what, V, M, A, B, N, vert⟩] w fun e w' => ∃ x y, e = .returned (.tuple #[x, y, .int .i64 (mvE V N), .int .i64 (mvE V N)]) ∧ Hp W w' (aBn y (mvB V N vert) :: aBn x (mvB V N vert) :: L) F := by
  have hx : ∀ (w : World) (L : List AObj) (F : List (Nat × Obj)), Hp W w L F → Calls Try.prog 13 #[.int .i64 V, .int .i64 N, .bool vert] w fun e w' => ∃ v', e = .returned (.tuple #[v', .int .i64 (mvE V N)]) ∧ Hp W w' (aBn v' (mvB V N vert) :: L) F := fun w L F h => mvd_any h V N vert
  have hy : ∀ (w : World) (L : List AObj) (F : List (Nat × Obj)), Hp W w L F → Calls Try.prog 30 #[.int .i64 V, .int .i64 N, .bool vert] w fun e w' => ∃ v', e = .returned (.tuple #[v', .int .i64 (mvE V N)]) ∧ Hp W w' (aBn v' (mvB V N vert) :: L) F := fun w L F h => qmvd_any h V N vert
  generalize mvE V N = E at *
  generalize mvB V N vert = C at *
  have HX := Lib.hid hx
  have HY := Lib.hid hy
  have H := Lib.hid (h.alloc (.cells #[.int .u8 what, .int .i64 V, .int .i64 M, .int .i64 A, .int .i64 B, .int .i64 N, .bool vert] 40))
  clear h hx hy
  go_enter Try.func14, Try.ntmps14
  go_wp2_with (first | (go_at_call 13; (with_reducible refine (HX.out _ _ _ H.out).mono ?_); rintro e w1 ⟨x, rfl, h1⟩; obtain ⟨c0, c1, c2, c3, c4, c5, c6⟩ := cells_ask (b := w.heap.size) (h1.blk (.head _))) | (go_at_call 30; (with_reducible refine (HY.out _ _ _ h1).mono ?_); rintro e w2 ⟨y, rfl, h2⟩))
  exact bodyPost_ret (v := .tuple #[x, y, .int .i64 E, .int .i64 E]) (by simp [results, Try.results14, go_sem]) rfl ⟨x, y, rfl, h2.drop⟩
set_option maxHeartbeats 8000000 in
theorem enc4 (h : Hp W w L F) (what V M A B N : Int) (vert : Bool) (hw : what % 6 = 4) (w0 : 0 ≤ what) (w1 : what ≤ 255) (v1 : -9223372036854775808 ≤ V) (v2 : V < 9223372036854775808) :
    Calls Try.prog 14 #[askV ⟨what, V, M, A, B, N, vert⟩] w fun e w' => ∃ x y, e = .returned (.tuple #[x, y, .int .i64 (tyE V vert N), .int .i64 (tyE V vert N)]) ∧ Hp W w' (aBn y (tyB V vert N) :: aBn x (tyB V vert N) :: L) F := by
  have hx : ∀ (w : World) (L : List AObj) (F : List (Nat × Obj)), Hp W w L F → Calls Try.prog 7 #[.int .i64 V, .bool vert, .int .i64 N] w fun e w' => ∃ v', e = .returned (.tuple #[v', .int .i64 (tyE V vert N)]) ∧ Hp W w' (aBn v' (tyB V vert N) :: L) F := fun w L F h => type_any h V vert N
  have hy : ∀ (w : World) (L : List AObj) (F : List (Nat × Obj)), Hp W w L F → Calls Try.prog 31 #[.int .i64 V, .bool vert, .int .i64 N] w fun e w' => ∃ v', e = .returned (.tuple #[v', .int .i64 (tyE V vert N)]) ∧ Hp W w' (aBn v' (tyB V vert N) :: L) F := fun w L F h => qtype_any h V vert N
  generalize tyE V vert N = E at *
  generalize tyB V vert N = C at *
  have HX := Lib.hid hx
  have HY := Lib.hid hy
  have H := Lib.hid (h.alloc (.cells #[.int .u8 what, .int .i64 V, .int .i64 M, .int .i64 A, .int .i64 B, .int .i64 N, .bool vert] 40))
  clear h hx hy
  go_enter Try.func14, Try.ntmps14
  go_wp2_with (first | (go_at_call 7; (with_reducible refine (HX.out _ _ _ H.out).mono ?_); rintro e w1 ⟨x, rfl, h1⟩; obtain ⟨c0, c1, c2, c3, c4, c5, c6⟩ := cells_ask (b := w.heap.size) (h1.blk (.head _))) | (go_at_call 31; (with_reducible refine (HY.out _ _ _ h1).mono ?_); rintro e w2 ⟨y, rfl, h2⟩))
  exact bodyPost_ret (v := .tuple #[x, y, .int .i64 E, .int .i64 E]) (by simp [results, Try.results14, go_sem]) rfl ⟨x, y, rfl, h2.drop⟩
set_option maxHeartbeats 8000000 in
theorem enc5 (h : Hp W w L F) (what V M A B N : Int) (vert : Bool) (hw : what % 6 = 5) (w0 : 0 ≤ what) (w1 : what ≤ 255) (v1 : -9223372036854775808 ≤ V) (v2 : V < 9223372036854775808) :
    Calls Try.prog 14 #[askV ⟨what, V, M, A, B, N, vert⟩] w fun e w' => ∃ x y, e = .returned (.tuple #[x, y, .int .i64 (qpE V N), .int .i64 (qpE V N)]) ∧ Hp W w' (aBn y (qpB V N) :: aBn x (qpB V N) :: L) F := by
  have hx : ∀ (w : World) (L : List AObj) (F : List (Nat × Obj)), Hp W w L F → Calls Try.prog 32 #[.int .i64 V, .int .i64 N] w fun e w' => ∃ v', e = .returned (.tuple #[v', .int .i64 (qpE V N)]) ∧ Hp W w' (aBn v' (qpB V N) :: L) F := fun w L F h => qp_any h V N
  have hy : ∀ (w : World) (L : List AObj) (F : List (Nat × Obj)), Hp W w L F → Calls Try.prog 33 #[.int .i64 V, .int .i64 N] w fun e w' => ∃ v', e = .returned (.tuple #[v', .int .i64 (qpE V N)]) ∧ Hp W w' (aBn v' (qpB V N) :: L) F := fun w L F h => qqp_any h V N
  generalize qpE V N = E at *
  generalize qpB V N = C at *
  have HX := Lib.hid hx
  have HY := Lib.hid hy
  have H := Lib.hid (h.alloc (.cells #[.int .u8 what, .int .i64 V, .int .i64 M, .int .i64 A, .int .i64 B, .int .i64 N, .bool vert] 40))
  clear h hx hy
  go_enter Try.func14, Try.ntmps14
  go_wp2_with (first | (go_at_call 32; (with_reducible refine (HX.out _ _ _ H.out).mono ?_); rintro e w1 ⟨x, rfl, h1⟩; obtain ⟨c0, c1, c2, c3, c4, c5, c6⟩ := cells_ask (b := w.heap.size) (h1.blk (.head _))) | (go_at_call 33; (with_reducible refine (HY.out _ _ _ h1).mono ?_); rintro e w2 ⟨y, rfl, h2⟩))
  exact bodyPost_ret (v := .tuple #[x, y, .int .i64 E, .int .i64 E]) (by simp [results, Try.results14, go_sem]) rfl ⟨x, y, rfl, h2.drop⟩
theorem enc_any (h : Hp W w L F) (a : Ask) (ok : AskOk a) :
    Calls Try.prog 14 #[askV a] w fun e w' => ∃ x y, e = .returned (.tuple #[x, y, .int .i64 (askE a), .int .i64 (askE a)]) ∧ Hp W w' (aBn y (askB a) :: aBn x (askB a) :: L) F := by
  obtain ⟨what, V, M, A, B, N, vert⟩ := a
  obtain ⟨w0, w1, v1, v2⟩ := ok
  simp only at w0 w1 v1 v2 ⊢
  have h6 : what % 6 = 0 ∨ what % 6 = 1 ∨ what % 6 = 2 ∨ what % 6 = 3 ∨ what % 6 = 4 ∨ what % 6 = 5 := by omega
  rcases h6 with c | c | c | c | c | c
  · rw [show askE ⟨what, V, M, A, B, N, vert⟩ = unE V A B N by simp [askE, c], show askB ⟨what, V, M, A, B, N, vert⟩ = unB V A B N by simp [askB, c]]
    exact enc0 h what V M A B N vert c w0 w1 v1 v2
  · rw [show askE ⟨what, V, M, A, B, N, vert⟩ = cutE V M A B by simp [askE, c], show askB ⟨what, V, M, A, B, N, vert⟩ = cutB V M A B by simp [askB, c]]
    exact enc1 h what V M A B N vert c w0 w1 v1 v2
  · rw [show askE ⟨what, V, M, A, B, N, vert⟩ = escE (V % 18446744073709551616).toNat N by simp [askE, c], show askB ⟨what, V, M, A, B, N, vert⟩ = escB (V % 18446744073709551616).toNat N by simp [askB, c]]
    exact enc2 h what V M A B N vert c w0 w1 v1 v2
  · rw [show askE ⟨what, V, M, A, B, N, vert⟩ = mvE V N by simp [askE, c], show askB ⟨what, V, M, A, B, N, vert⟩ = mvB V N vert by simp [askB, c]]
    exact enc3 h what V M A B N vert c w0 w1 v1 v2
  · rw [show askE ⟨what, V, M, A, B, N, vert⟩ = tyE V vert N by simp [askE, c], show askB ⟨what, V, M, A, B, N, vert⟩ = tyB V vert N by simp [askB, c]]
    exact enc4 h what V M A B N vert c w0 w1 v1 v2
  · rw [show askE ⟨what, V, M, A, B, N, vert⟩ = qpE V N by simp [askE, c], show askB ⟨what, V, M, A, B, N, vert⟩ = qpB V N by simp [askB, c]]
    exact enc5 h what V M A B N vert c w0 w1 v1 v2
end

end Go.Proofs.Ytnefiaghojojgaa
