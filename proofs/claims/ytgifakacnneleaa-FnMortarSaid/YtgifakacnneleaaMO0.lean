/-
The small functions of the laws on bytes. Conditions: the bytes can be read.
-/
import Derived.Test.YtgifakacnneleaaSRC
set_option linter.unusedVariables false
set_option linter.unusedSimpArgs false
set_option maxRecDepth 100000
namespace Go.Proofs.Ytgifakacnneleaa
open Go.RowKit
theorem a2Long_calls (z y : Value) (xs ys : List Int) (B C : Nat) (W : World) (hz : Sl W B u8c 1 z xs) (hy : Sl W C u8c 1 y ys) :
    Calls Try.prog 24 #[z, y] W fun e w' => e = .returned (.bool (decide (3000 < xs.length) || decide (3000 < ys.length))) ∧ W = w' := by
  obtain ⟨A, c, rfl, -, hm, -⟩ := hz.u8
  obtain ⟨A2, c2, rfl, -, hm2, -⟩ := hy.u8
  by_cases h1 : 3000 < xs.length
  · have d1 : decide (3000 < xs.length) = true := decide_eq_true h1
    go_enter Try.func24, Try.ntmps24
    go_wp2_with fail
    go_ret
    exact ⟨by simp [d1]; try omega, rfl⟩
  · have d1 : decide (3000 < xs.length) = false := decide_eq_false h1
    by_cases h2 : 3000 < ys.length
    · have d2 : decide (3000 < ys.length) = true := decide_eq_true h2
      go_enter Try.func24, Try.ntmps24
      go_wp2_with fail
      go_ret
      exact ⟨by simp [d1, d2]; try omega, rfl⟩
    · have d2 : decide (3000 < ys.length) = false := decide_eq_false h2
      go_enter Try.func24, Try.ntmps24
      go_wp2_with fail
      go_ret
      exact ⟨by simp [d1, d2]; try omega, rfl⟩
theorem a2At_calls (z : Value) (xs : List Int) (B : Nat) (W : World) (hz : Bys W B z xs) (at_ n : Nat) (hat : at_ ≤ 1000000) (hn : 1 ≤ n) (hn2 : n ≤ 1000000) :
    Calls Try.prog 27 #[z, .int .i64 (at_ : Int), .int .i64 (n : Int)] W fun e w' => ∃ r : Nat, r < n ∧ e = .returned (.int .i64 (r : Int)) ∧ W = w' := by
  obtain ⟨A, c, rfl, -, hm, hcell⟩ := hz.sl.u8
  by_cases h1 : at_ < xs.length
  · obtain ⟨b, o, rfl, hbb, h0⟩ := hcell at_ h1
    obtain ⟨r, hr⟩ : ∃ r : Nat, xs[at_] = (r : Int) := ⟨_, (Int.toNat_of_nonneg (hz.ok _ (List.getElem_mem h1)).1).symm⟩
    have hr2 := hz.ok _ (List.getElem_mem h1)
    rw [hr] at h0 hr2
    clear hcell hz
    go_enter Try.func27, Try.ntmps27
    go_wp2_with fail
    go_ret
    exact ⟨r % n, Nat.mod_lt _ (by omega), by simp, rfl⟩
  · clear hcell hz
    go_enter Try.func27, Try.ntmps27
    go_wp2_with fail
    go_ret
    exact ⟨0, by omega, rfl, rfl⟩
theorem sameL_calls (xs : List Int) (v u : Value) (B C : Nat) (W : World) (hs : Sl W B i64c 1 v xs) (ht : Sl W C i64c 1 u xs) :
    Calls Try.prog 50 #[v, u] W fun e w' => e = .returned (.bool true) ∧ ∃ m, w' = W.drewN m := by
  obtain ⟨A, c, rfl, hl, hm, hcell⟩ := hs.i64
  obtain ⟨A2, c2, rfl, -, hm2, hcell2⟩ := ht.i64
  have HC := Lib.hid hcell
  have HC2 := Lib.hid hcell2
  clear hs ht hcell hcell2
  go_enter Try.func50, Try.ntmps50
  go_wp2_with fail
  go_loopw [5] (fun i wr => ∃ k m : Nat, k ≤ xs.length ∧ i = .int .i64 (k : Int) ∧ wr = W.drewN m) (fun i _ => xs.length - (intOf i).toNat)
  case atStart => exact ⟨0, 0, by omega, rfl, rfl⟩
  case round =>
    obtain ⟨k, m, hk, rfl, rfl⟩ := hrel
    by_cases hlt : k < xs.length
    · obtain ⟨b, o, rfl, -, h0⟩ := HC.out k hlt
      obtain ⟨b2, o2, rfl, -, h2⟩ := HC2.out k hlt
      generalize xs[k] = q at *
      go_wp2_with fail
      go_quiet (fail)
      go_wp2_with fail
      go_roundw
      case rel => exact ⟨k + 1, _, by omega, by go_num, by first | exact World.drewN_drewN _ _ _ | rfl⟩
      case measure => first | (simp [intOf]; done) | (simp [intOf]; omega)
    · obtain rfl : k = xs.length := by omega
      go_wp2_with fail
      go_ret
      exact ⟨rfl, _, rfl⟩
theorem a2Same_calls (xs : List Int) (v u : Value) (B C : Nat) (W : World) (hs : Sl W B i64c 1 v xs) (ht : Sl W C i64c 1 u xs) :
    Calls Try.prog 29 #[v, u] W fun e w' => e = .returned (.bool true) ∧ ∃ m, w' = W.drewN m := by
  have q := Lib.hid (sameL_calls xs v u B C W hs ht)
  obtain ⟨A, c, rfl, hl, hm, hcell⟩ := hs.i64
  obtain ⟨A2, c2, rfl, -, hm2, hcell2⟩ := ht.i64
  clear hs ht hcell hcell2
  go_enter Try.func29, Try.ntmps29
  go_wp2_with fail
  refine q.out.mono ?_
  rintro e w1 ⟨rfl, m, rfl⟩
  go_wp2_with fail
  go_ret
  exact ⟨rfl, _, rfl⟩
end Go.Proofs.Ytgifakacnneleaa
