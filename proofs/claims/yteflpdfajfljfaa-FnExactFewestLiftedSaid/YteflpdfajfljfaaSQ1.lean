/-
Contracts of the functions that tell whether a square is valid. Conditions: numbers are of their kinds; slices can be read.
-/
import Derived.Test.YteflpdfajfljfaaSqL
set_option linter.unusedVariables false
set_option linter.unusedSimpArgs false
set_option maxRecDepth 100000
namespace Go.Proofs.Yteflpdfajfljfaa
open Go.RowKit
theorem edge_calls (n : Int) (w : World) : Calls Try.prog 157 #[.int .i64 n] w fun e w' => e = .returned (.bool (edgeB n)) ∧ w = w' := by
  go_enter Try.func157, Try.ntmps157
  go_wp2_with fail
  refine (within_calls _ _ _ _).mono ?_
  rintro e w1 ⟨rfl, rfl⟩
  go_wp2_with fail
  go_ret
  exact ⟨rfl, rfl⟩
theorem sedge_calls (n : Int) (w : World) : Calls Try.prog 148 #[.int .i64 n] w fun e w' => e = .returned (.bool (edgeB n)) ∧ w = w' := by
  go_enter Try.func148, Try.ntmps148
  go_wp2_with fail
  refine (in_calls _ _ _ _).mono ?_
  rintro e w1 ⟨rfl, rfl⟩
  go_wp2_with fail
  go_ret
  exact ⟨rfl, rfl⟩
theorem isIn_calls (s : Slab) (hs : s.ok) (w h : Int) (w0 : -128 ≤ w) (w1 : w ≤ 127) (h0 : -128 ≤ h) (h1 : h ≤ 127) (z : Value) (hz : ∃ A n c, z = .slice A n c) (W : World) :
    Calls Try.prog 158 #[s.v, .agg #[.int .i8 w, .int .i8 h, z]] W fun e w' => e = .returned (.bool (liesB w h s)) ∧ Below W.heap.size W w' := by
  obtain ⟨A, n, c, rfl⟩ := hz
  have hb := Lib.hid (ext_alloc ((Below.refl W.heap.size W).alloc (Nat.le_refl _) (.cells #[.int .i8 s.x, .int .i8 s.y, .int .i8 s.w, .int .i8 s.h] 127)) (.cells #[.int .i8 w, .int .i8 h, .slice A n c] 34))
  obtain ⟨x0, x1, y0, y1, a0, a1, b0, b1⟩ := hs
  unfold Slab.v
  go_enter Try.func158, Try.ntmps158
  go_wp2
  all_goals (go_ret; refine ⟨ret_bool ?_, hb.out⟩; simp [liesB, *]; try omega)
theorem meets_calls (s t : Slab) (hs : s.ok) (ht : t.ok) (W : World) :
    Calls Try.prog 160 #[s.v, t.v] W fun e w' => e = .returned (.bool (meetsB s t)) ∧ Below W.heap.size W w' := by
  have hb := Lib.hid (ext_alloc ((Below.refl W.heap.size W).alloc (Nat.le_refl _) (.cells #[.int .i8 s.x, .int .i8 s.y, .int .i8 s.w, .int .i8 s.h] 127)) (.cells #[.int .i8 t.x, .int .i8 t.y, .int .i8 t.w, .int .i8 t.h] 127))
  obtain ⟨x0, x1, y0, y1, a0, a1, b0, b1⟩ := hs
  obtain ⟨x2, x3, y2, y3, a2, a3, b2, b3⟩ := ht
  unfold Slab.v
  go_enter Try.func160, Try.ntmps160
  go_wp2
  all_goals (go_ret; refine ⟨ret_bool ?_, hb.out⟩; simp [meetsB, *]; try omega)
theorem covers_calls (s : Slab) (hs : s.ok) (x y : Int) (W : World) :
    Calls Try.prog 165 #[s.v, .int .i64 x, .int .i64 y] W fun e w' => e = .returned (.bool (covB s x y)) ∧ Below W.heap.size W w' := by
  have hb := Lib.hid ((Below.refl W.heap.size W).alloc (Nat.le_refl _) (.cells #[.int .i8 s.x, .int .i8 s.y, .int .i8 s.w, .int .i8 s.h] 127))
  obtain ⟨x0, x1, y0, y1, a0, a1, b0, b1⟩ := hs
  unfold Slab.v
  go_enter Try.func165, Try.ntmps165
  go_wp2
  all_goals (go_ret; refine ⟨ret_bool ?_, hb.out⟩; simp [covB, *]; try omega)
theorem nan8_calls (a : Int) (w : World) : Calls Try.prog 195 #[.int .i8 a] w fun e w' => e = .returned (.bool false) ∧ w = w' := by
  have hq : (a != a) = false := by simp
  go_enter Try.func195, Try.ntmps195
  go_wp2_with fail
  go_ret
  exact ⟨rfl, rfl⟩
def cmpI (a b : Int) : Int := if a < b then -1 else if b < a then 1 else 0
theorem cmp8_calls (a b : Int) (w : World) : Calls Try.prog 169 #[.int .i8 a, .int .i8 b] w fun e w' => e = .returned (.int .i64 (cmpI a b)) ∧ w = w' := by
  go_enter Try.func169, Try.ntmps169
  go_wp2_with (go_at_call 195; refine (nan8_calls _ _).mono ?_; rintro e w1 ⟨rfl, rfl⟩)
  all_goals (go_ret; refine ⟨ret_int ?_, rfl⟩; simp [cmpI, *]; try omega)
end Go.Proofs.Yteflpdfajfljfaa
