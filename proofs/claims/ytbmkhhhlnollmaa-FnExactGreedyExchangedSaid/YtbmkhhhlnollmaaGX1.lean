/-
The greatest of a row of ints, and its first place. Conditions: slices can be read.
-/
import Derived.Test.YtbmkhhhlnollmaaGXL
import Derived.Test.YtbmkhhhlnollmaaAP
set_option linter.unusedVariables false
set_option linter.unusedSimpArgs false
set_option maxRecDepth 100000
namespace Go.Proofs.Ytbmkhhhlnollmaa
open Go.RowKit
theorem indexInt_calls (xs : List Int) (v : Value) (x : Int) (w : World) (hs : Sl w w.heap.size i64c 1 v xs) :
    Calls Try.prog 103 #[v, .int .i64 x] w fun e w' => e = .returned (.int .i64 (findI (fun y => y == x) xs)) ∧ w = w' := by
  obtain ⟨A, cap, rfl, hl, hm, hcell⟩ := hs.i64
  clear hs
  go_enter Try.func103, Try.ntmps103
  go_wp2_with fail
  go_loop [5, 8] (fun _ i => ∃ k : Nat, k ≤ xs.length ∧ i = .int .i64 k ∧ (xs.take k).all (fun y => !(y == x)) = true) (fun _ i => xs.length - (intOf i).toNat)
  case atStart => exact ⟨0, by omega, rfl, rfl⟩
  case round =>
    obtain ⟨k, hk, rfl, hall⟩ := hrel
    have HA := Lib.hid hall
    clear hall
    by_cases hlt : k < xs.length
    · obtain ⟨b, o, rfl, hbb, h0⟩ := hcell k hlt
      clear hcell
      by_cases he : xs[k] = x
      · have hE := Lib.hid (findI_at (fun y => y == x) xs k hlt HA.out (by simp [he]))
        have hq : (x == xs[k]) = true := by simp [he]
        clear he
        go_wp2_with fail
        go_ret
        exact ⟨ret_int hE.out.symm, rfl⟩
      · have hE := Lib.hid (take_all_succ _ xs k hlt HA.out (by simp [he]))
        have hq : (x == xs[k]) = false := by simp; omega
        clear he
        go_wp2_with fail
        go_round
        case rel => exact ⟨k + 1, by omega, by go_num, hE.out⟩
        case measure => simp [intOf]; omega
    · have hE := Lib.hid (findI_none _ xs (all_of_take _ xs k (by omega) HA.out))
      go_wp2_with fail
      go_ret
      exact ⟨ret_int hE.out.symm, rfl⟩
theorem maxInt_calls (xs : List Int) (v : Value) (w : World) (hs : Sl w w.heap.size i64c 1 v xs) (hp : 0 < xs.length) :
    Calls Try.prog 104 #[v] w fun e w' => e = .returned (.int .i64 (maxI xs)) ∧ w = w' := by
  obtain ⟨A, cap, rfl, hl, hm, hcell⟩ := hs.i64
  clear hs
  obtain ⟨b, o, rfl, hbb, h0⟩ := hcell 0 hp
  have HC := Lib.hid (show ∀ k (hk : k < xs.length), w.cell? ⟨b, o + k, none⟩ = some (.int .i64 xs[k]) from fun k hk => by
    obtain ⟨b', o', he, _, h⟩ := hcell k hk
    injection he with he
    injection he with e1 e2
    subst e1; subst e2
    exact h)
  have hf0 := Lib.hid (show xs[0] = maxI (xs.take 1) from by
    cases xs with
    | nil => simp at hp
    | cons x xs => simp [maxI])
  have hd : decide ((xs.length : Int) < 1) = false := by rw [decide_eq_false_iff_not]; omega
  clear hcell
  have h00 : w.cell? ⟨b, o, none⟩ = some (.int .i64 xs[0]) := by simpa using h0
  clear h0
  go_enter Try.func104, Try.ntmps104
  go_wp2_with fail
  go_loop [3, 4] (fun m i => ∃ k : Nat, 1 ≤ k ∧ k ≤ xs.length ∧ i = .int .i64 (k : Int) ∧ m = .int .i64 (maxI (xs.take k))) (fun _ i => xs.length - (intOf i).toNat)
  case atStart => exact ⟨1, by omega, hp, rfl, by rw [hf0.out]⟩
  case round =>
    obtain ⟨k, hk1, hk, rfl, rfl⟩ := hrel
    by_cases hlt : k < xs.length
    · have c0 := HC.out k hlt
      have hst := Lib.hid (maxI_take xs k hlt hk1)
      generalize xs[k] = x at *
      generalize maxI (xs.take k) = m at *
      by_cases hmx : x ≤ m
      · have hM := Lib.hid (hst.out.trans (show max m x = m from by omega))
        go_wp2_with fail
        go_round
        case rel => exact ⟨k + 1, by omega, by omega, by go_num, by rw [hM.out]⟩
        case measure => first | (simp [intOf]; done) | (simp [intOf]; omega)
      · have hM := Lib.hid (hst.out.trans (show max m x = x from by omega))
        go_wp2_with fail
        go_round
        case rel => exact ⟨k + 1, by omega, by omega, by go_num, by rw [hM.out]⟩
        case measure => first | (simp [intOf]; done) | (simp [intOf]; omega)
    · obtain rfl : k = xs.length := by omega
      have hE := Lib.hid (show xs.take xs.length = xs from List.take_length)
      go_wp2_with fail
      go_ret
      exact ⟨ret_int (by first | rfl | rw [hE.out]), rfl⟩
end Go.Proofs.Ytbmkhhhlnollmaa
