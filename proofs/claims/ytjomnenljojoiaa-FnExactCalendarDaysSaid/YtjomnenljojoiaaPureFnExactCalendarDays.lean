/-
Proved here: for all start and days the program's CalendarDays answers what the reference's answers (pure form, over the printed functions). Conditions: none beside the kinds of the two numbers.
-/
import Derived.Test.YtjomnenljojoiaaPFnExactCalendarDaysx1
namespace Go.Proofs.Ytjomnenljojoiaa.Pure
open Go.RowKit Go.Proofs.Ytjomnenljojoiaa.PFnExactCalendarDays Go.Proofs.YtjomnenljojoiaaW.PrintWords Go.Proofs.YtjomnenljojoiaaW.PrintLast

theorem cal_wrap {x : Int} (h0 : -100000 ≤ x) (h1 : x ≤ 100000) : wrap64 x = x := by unfold wrap64; omega

theorem cal_loops (s : Int) (hs0 : 0 ≤ s) (hs1 : s ≤ 6) (d : Nat) : ∀ (k : Nat) (n l : Int), 0 ≤ n → 0 ≤ l → l ≤ 1000 → n + (d : Int) ≤ 4000 → 2 * l + (if (s + n) % 7 = 6 then 1 else 0) = d → d < k →
    ∃ r, spec_CalendarDays.l0 k s n l = some (r, 0) ∧ impl_CalendarDays.l0 k s l n = some (r, 0) := by
  induction d using Nat.strongRecOn with
  | ind d ih =>
  intro k n l hn hl hl2 hb hd hk
  obtain ⟨k, rfl⟩ : ∃ m, k = m + 1 := ⟨k - 1, by omega⟩
  simp only [spec_CalendarDays.l0, impl_CalendarDays.l0]
  by_cases hp : l > 0
  · rw [if_pos hp, if_pos hp]
    rw [cal_wrap (x := s + n) (by omega) (by omega), cal_wrap (x := n + 1) (by omega) (by omega)]
    have ht : Int.tmod (s + n) 7 = (s + n) % 7 := Int.tmod_eq_emod_of_nonneg (by omega)
    rw [ht]
    by_cases h6 : (s + n) % 7 = 6
    · rw [if_pos h6] at hd ⊢
      have e : ((s + n) % 7 != 6) = false := by simp [h6]
      rw [e]
      simp only [impl_bit.f, Bool.false_eq_true, if_false, Option.bind_some]
      rw [cal_wrap (x := l - 0) (by omega) (by omega), Int.sub_zero]
      refine ih (2 * l).toNat (by omega) k (n + 1) l (by omega) (by omega) (by omega) (by omega) ?_ (by omega)
      rw [if_neg (by omega)]
      omega
    · rw [if_neg h6] at hd ⊢
      have e : ((s + n) % 7 != 6) = true := by simp [h6]
      rw [e]
      simp only [impl_bit.f, if_true, Option.bind_some]
      rw [cal_wrap (x := l - 1) (by omega) (by omega)]
      refine ih (2 * (l - 1) + (if (s + (n + 1)) % 7 = 6 then 1 else 0)).toNat ?_ k (n + 1) (l - 1) (by omega) (by omega) (by omega) (by omega) ?_ ?_
      all_goals (split <;> omega)
  · rw [if_neg hp, if_neg hp]
    have : l = 0 := by omega
    subst this
    exact ⟨n, rfl, rfl⟩

theorem FnExactCalendarDays : laws_FnExactCalendarDays.Pure := by
  intro s d hs hd
  refine ⟨5000, ?_⟩
  unfold laws_FnExactCalendarDays.f spec_CalendarDays.f impl_CalendarDays.f spec_l00In.f impl_within.f
  by_cases h0 : 0 ≤ s ∧ s ≤ 6
  · by_cases h1 : 0 ≤ d ∧ d ≤ 1000
    · obtain ⟨r, hr1, hr2⟩ := cal_loops s h0.1 h0.2 (2 * d + (if (s + 0) % 7 = 6 then 1 else 0)).toNat 4998 0 d (by omega) (by omega) (by omega) (by omega) (by split <;> omega) (by split <;> omega)
      have k1 : spec_CalendarDays.j0 5000 s d false = some (r, 0) := by
        have := spec_CalendarDays.mono_l 4998
        have := this.2 s 0 d (r, 0) hr1
        show spec_CalendarDays.j0 (4999 + 1) s d false = some (r, 0)
        simp only [spec_CalendarDays.j0, Bool.false_eq_true, if_false]
        exact this
      have k2 : impl_CalendarDays.j0 5000 s d false = some (r, 0) := by
        have := impl_CalendarDays.mono_l 4998
        have := this.2 s d 0 (r, 0) hr2
        show impl_CalendarDays.j0 (4999 + 1) s d false = some (r, 0)
        simp only [impl_CalendarDays.j0, Bool.false_eq_true, if_false]
        exact this
      have a1 : decide (s ≤ 6) = true := by simp; omega
      have a2 : decide (d ≤ 1000) = true := by simp; omega
      simp only [ge_iff_le, if_pos h0.1, if_pos h1.1, Option.bind_some, a1, a2, if_true, Bool.not_true, k1, k2]
    · have h1' : (if 0 ≤ d then some (decide (d ≤ 1000)) else some false) = some false := by
        by_cases h : 0 ≤ d
        · rw [if_pos h]; congr 1; simp; omega
        · rw [if_neg h]
      have a1 : decide (s ≤ 6) = true := by simp; omega
      have k1 : spec_CalendarDays.j0 5000 s d true = some (0, 2) := rfl
      have k2 : impl_CalendarDays.j0 5000 s d true = some (0, 2) := rfl
      simp only [ge_iff_le, if_pos h0.1, h1', Option.bind_some, a1, if_true, Bool.not_false, k1, k2]
  · have h1' : (if 0 ≤ s then some (decide (s ≤ 6)) else some false) = some false := by
      by_cases h : 0 ≤ s
      · rw [if_pos h]; congr 1; simp; omega
      · rw [if_neg h]
    have k1 : spec_CalendarDays.j0 5000 s d true = some (0, 2) := rfl
    have k2 : impl_CalendarDays.j0 5000 s d true = some (0, 2) := rfl
    simp only [ge_iff_le, h1', Option.bind_some, Bool.false_eq_true, if_false, k1, k2, if_true]

end Go.Proofs.Ytjomnenljojoiaa.Pure
