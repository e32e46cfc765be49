/-
The calendar, of both; the small functions of the laws on bytes. Conditions: the bytes can be read.
-/
import Derived.Test.YtgifakacnneleaaMO0
import Derived.Test.YtgifakacnneleaaMoP
set_option linter.unusedVariables false
set_option linter.unusedSimpArgs false
set_option maxRecDepth 100000
namespace Go.Proofs.Ytgifakacnneleaa
open Go.RowKit
def restB (s k : Nat) : Nat := if ((s : Int) + (k : Int)) % 7 = 6 then 1 else 0
theorem cal_rest {s d k l : Nat} (h : CalI (s : Int) d k (l + 1)) (hb : k + 2 * (l + 1) + restB s k ≤ 2 * d + 1) (hw : ((s : Int) + (k : Int)) % 7 = 6) : CalI (s : Int) d (k + 1) (l + 1) ∧ (k + 1) + 2 * (l + 1) + restB s (k + 1) ≤ 2 * d + 1 := by
  refine ⟨h.rest hw, ?_⟩
  unfold restB at *
  rw [if_pos hw] at hb
  rw [if_neg (by omega)]
  omega
theorem cal_work {s d k l : Nat} (h : CalI (s : Int) d k (l + 1)) (hb : k + 2 * (l + 1) + restB s k ≤ 2 * d + 1) (hw : ((s : Int) + (k : Int)) % 7 ≠ 6) : CalI (s : Int) d (k + 1) l ∧ (k + 1) + 2 * l + restB s (k + 1) ≤ 2 * d + 1 := by
  refine ⟨h.work hw, ?_⟩
  unfold restB at *
  rw [if_neg hw] at hb
  split <;> omega
theorem cal_start (s d : Nat) : CalI (s : Int) d 0 d ∧ 0 + 2 * d + restB s 0 ≤ 2 * d + 1 := by
  refine ⟨CalI.zero _ _, ?_⟩
  unfold restB
  split <;> omega
theorem implCal_calls (s d : Nat) (hs : s ≤ 6) (hd : d ≤ 1000) (W : World) :
    Calls Try.prog 30 #[.int .i64 (s : Int), .int .i64 (d : Int)] W fun e w' => ∃ k : Nat, Cal (s : Int) d k ∧ k ≤ 2 * d + 1 ∧ e = .returned (.tuple #[.int .i64 (k : Int), .int .i64 0]) ∧ W = w' := by
  have HS := Lib.hid (cal_start s d)
  have b1 : inB (s : Int) 0 6 = true := inB_true.2 (by omega)
  have b2 : inB (d : Int) 0 1000 = true := inB_true.2 (by omega)
  go_enter Try.func30, Try.ntmps30
  go_wp2_with (first | (go_at_call 43; refine (within_calls _ _ _ _).mono ?_; rintro e w' ⟨rfl, rfl⟩))
  go_loop [1, 6] (fun l k => ∃ l' k' : Nat, l = .int .i64 (l' : Int) ∧ k = .int .i64 (k' : Int) ∧ CalI (s : Int) d k' l' ∧ k' + 2 * l' + restB s k' ≤ 2 * d + 1) (fun _ k => 2 * d + 1 - (intOf k).toNat)
  case atStart => exact ⟨d, 0, rfl, rfl, HS.out.1, HS.out.2⟩
  case round =>
    clear HS
    obtain ⟨l, k, rfl, rfl, hI, hb⟩ := hrel
    have HI := Lib.hid hI
    clear hI
    cases l with
    | zero =>
      go_wp2_with fail
      go_ret2
      exact ⟨k, HI.out.fin, by omega, rfl, rfl⟩
    | succ l =>
      by_cases hw : ((s : Int) + (k : Int)) % 7 = 6
      · have hc := Lib.hid (cal_rest HI.out hb hw)
        have hq : (((s : Int) + (k : Int)) % 7 != 6) = false := by simp [hw]
        clear hw
        go_wp2_with (first | (go_at_call 51; refine (bit_calls _ _).mono ?_; rintro e w' ⟨rfl, rfl⟩))
        go_round
        case rel => exact ⟨l + 1, k + 1, by go_num, by go_num, hc.out.1, hc.out.2⟩
        case measure => first | (simp [intOf]; done) | (simp [intOf]; omega)
      · have hc := Lib.hid (cal_work HI.out hb hw)
        have hq : (((s : Int) + (k : Int)) % 7 != 6) = true := by simp [hw]
        clear hw
        go_wp2_with (first | (go_at_call 51; refine (bit_calls _ _).mono ?_; rintro e w' ⟨rfl, rfl⟩))
        go_round
        case rel => exact ⟨l, k + 1, by go_num, by go_num, hc.out.1, hc.out.2⟩
        case measure => first | (simp [intOf]; done) | (simp [intOf]; omega)
theorem specCal_calls (s d : Nat) (hs : s ≤ 6) (hd : d ≤ 1000) (W : World) :
    Calls Try.prog 31 #[.int .i64 (s : Int), .int .i64 (d : Int)] W fun e w' => ∃ k : Nat, Cal (s : Int) d k ∧ k ≤ 2 * d + 1 ∧ e = .returned (.tuple #[.int .i64 (k : Int), .int .i64 0]) ∧ W = w' := by
  have HS := Lib.hid (cal_start s d)
  have b1 : inB (s : Int) 0 6 = true := inB_true.2 (by omega)
  have b2 : inB (d : Int) 0 1000 = true := inB_true.2 (by omega)
  go_enter Try.func31, Try.ntmps31
  go_wp2_with (first | (go_at_call 41; refine (in_calls _ _ _ _).mono ?_; rintro e w' ⟨rfl, rfl⟩))
  go_loop [7, 6] (fun l k => ∃ l' k' : Nat, l = .int .i64 (l' : Int) ∧ k = .int .i64 (k' : Int) ∧ CalI (s : Int) d k' l' ∧ k' + 2 * l' + restB s k' ≤ 2 * d + 1) (fun _ k => 2 * d + 1 - (intOf k).toNat)
  case atStart => exact ⟨d, 0, rfl, rfl, HS.out.1, HS.out.2⟩
  case round =>
    clear HS
    obtain ⟨l, k, rfl, rfl, hI, hb⟩ := hrel
    have HI := Lib.hid hI
    clear hI
    cases l with
    | zero =>
      go_wp2_with fail
      go_ret2
      exact ⟨k, HI.out.fin, by omega, rfl, rfl⟩
    | succ l =>
      by_cases hw : ((s : Int) + (k : Int)) % 7 = 6
      · have hc := Lib.hid (cal_rest HI.out hb hw)
        have hq : (((s : Int) + (k : Int)) % 7 != 6) = false := by simp [hw]
        clear hw
        go_wp2_with fail
        go_round
        case rel => exact ⟨l + 1, k + 1, by go_num, by go_num, hc.out.1, hc.out.2⟩
        case measure => first | (simp [intOf]; done) | (simp [intOf]; omega)
      · have hc := Lib.hid (cal_work HI.out hb hw)
        have hq : (((s : Int) + (k : Int)) % 7 != 6) = true := by simp [hw]
        clear hw
        go_wp2_with fail
        go_round
        case rel => exact ⟨l, k + 1, by go_num, by go_num, hc.out.1, hc.out.2⟩
        case measure => first | (simp [intOf]; done) | (simp [intOf]; omega)
end Go.Proofs.Ytgifakacnneleaa
