/-
Plain facts on mixes and on the calendar. No condition.
-/
import Derived.Test.YtgifakacnneleaaG3
set_option linter.unusedVariables false
set_option linter.unusedSimpArgs false
set_option maxRecDepth 100000
namespace Go.Proofs.Ytgifakacnneleaa
open Go.RowKit
/-- One part of what is mixed: its share, rounded up at most. -/
def partOk (v low rest : Int) : Prop := (v = low ∨ v = low + 1) ∧ (rest = 0 → v = low)
theorem bump0 (o : Mix) (a b c : Int) : bump 0 o a b c = o := rfl
theorem idx3_case (a b c : Int) : (idx3 a b c = 0 ∧ b ≤ a ∧ c ≤ a) ∨ (idx3 a b c = 1 ∧ ¬ (b ≤ a ∧ c ≤ a) ∧ c ≤ b) ∨ (idx3 a b c = 2 ∧ ¬ (b ≤ a ∧ c ≤ a) ∧ ¬ c ≤ b) := by
  unfold idx3
  by_cases h1 : b ≤ a ∧ c ≤ a
  · left; exact ⟨if_pos h1, h1⟩
  · by_cases h2 : c ≤ b
    · right; left; exact ⟨by rw [if_neg h1, if_pos h2], h1, h2⟩
    · right; right; exact ⟨by rw [if_neg h1, if_neg h2], h1, h2⟩
theorem bump_s0 {n : Nat} {m : Mix} {a b c : Int} (h : idx3 a b c = 0) : bump (n + 1) m a b c = bump n ⟨m.x + 1, m.y, m.z⟩ (-1) b c := by rw [bump, h]; rfl
theorem bump_s1 {n : Nat} {m : Mix} {a b c : Int} (h : idx3 a b c = 1) : bump (n + 1) m a b c = bump n ⟨m.x, m.y + 1, m.z⟩ a (-1) c := by rw [bump, h]; rfl
theorem bump_s2 {n : Nat} {m : Mix} {a b c : Int} (h : idx3 a b c = 2) : bump (n + 1) m a b c = bump n ⟨m.x, m.y, m.z + 1⟩ a b (-1) := by rw [bump, h]; rfl
theorem bump_parts (k : Nat) (o : Mix) (a b c s : Int) (ha : 0 ≤ a ∧ a < s) (hb : 0 ≤ b ∧ b < s) (hc : 0 ≤ c ∧ c < s) (hs : a + b + c = k * s) :
    partOk (bump k o a b c).x o.x a ∧ partOk (bump k o a b c).y o.y b ∧ partOk (bump k o a b c).z o.z c ∧ (bump k o a b c).x + (bump k o a b c).y + (bump k o a b c).z = o.x + o.y + o.z + k := by
  have hk : k = 0 ∨ k = 1 ∨ k = 2 := by
    have : (k : Int) < 3 := by
      apply Int.lt_of_mul_lt_mul_right (a := s) _ (by omega)
      omega
    omega
  unfold partOk
  rcases hk with rfl | rfl | rfl
  · simp [bump]
  · have hs : a + b + c = s := by omega
    rcases idx3_case a b c with ⟨h, h1⟩ | ⟨h, h1⟩ | ⟨h, h1⟩
    · rw [bump_s0 h]; simp [bump]; omega
    · rw [bump_s1 h]; simp [bump]; omega
    · rw [bump_s2 h]; simp [bump]; omega
  · have hs : a + b + c = 2 * s := by omega
    rcases idx3_case a b c with ⟨h, h1⟩ | ⟨h, h1⟩ | ⟨h, h1⟩
    · rw [bump_s0 h]
      rcases idx3_case (-1) b c with ⟨h, h2⟩ | ⟨h, h2⟩ | ⟨h, h2⟩
      · omega
      · rw [bump_s1 h]; simp [bump]; omega
      · rw [bump_s2 h]; simp [bump]; omega
    · rw [bump_s1 h]
      rcases idx3_case a (-1) c with ⟨h, h2⟩ | ⟨h, h2⟩ | ⟨h, h2⟩
      · rw [bump_s0 h]; simp [bump]; omega
      · omega
      · rw [bump_s2 h]; simp [bump]; omega
    · rw [bump_s2 h]
      rcases idx3_case a b (-1) with ⟨h, h2⟩ | ⟨h, h2⟩ | ⟨h, h2⟩
      · rw [bump_s0 h]; simp [bump]; omega
      · rw [bump_s1 h]; simp [bump]; omega
      · omega
theorem ediv_share (n x s : Int) (hs : 1 ≤ s) : 0 ≤ n * x % s ∧ n * x % s < s ∧ n * x = n * x / s * s + n * x % s := by
  have h1 := Int.emod_nonneg (n * x) (show s ≠ 0 by omega)
  have h2 := Int.emod_lt_of_pos (n * x) (show 0 < s by omega)
  have h3 := Int.ediv_mul_add_emod (n * x) s
  exact ⟨h1, h2, h3.symm⟩
theorem forA_parts (m : Mix) (hv : vMixS m = true) (n : Int) (hn : 0 ≤ n) :
    partOk (forA m n).x (n * m.x / m.sum) (n * m.x % m.sum) ∧ partOk (forA m n).y (n * m.y / m.sum) (n * m.y % m.sum) ∧ partOk (forA m n).z (n * m.z / m.sum) (n * m.z % m.sum) ∧ (forA m n).x + (forA m n).y + (forA m n).z = n := by
  obtain ⟨x0, x1, y0, y1, z0, z1, s0, s1⟩ := vMix_bounds hv
  obtain ⟨a0, a1, a2⟩ := ediv_share n m.x m.sum s0
  obtain ⟨b0, b1, b2⟩ := ediv_share n m.y m.sum s0
  obtain ⟨c0, c1, c2⟩ := ediv_share n m.z m.sum s0
  have e : n * m.sum = n * m.x + n * m.y + n * m.z := by unfold Mix.sum; rw [Int.mul_add, Int.mul_add]
  have e2 : (n - n * m.x / m.sum - n * m.y / m.sum - n * m.z / m.sum) * m.sum = n * m.x % m.sum + n * m.y % m.sum + n * m.z % m.sum := by
    rw [Int.sub_mul, Int.sub_mul, Int.sub_mul]; omega
  have hk : 0 ≤ n - n * m.x / m.sum - n * m.y / m.sum - n * m.z / m.sum := by
    apply Int.le_of_mul_le_mul_right (a := m.sum) _ (by omega)
    omega
  have hb := bump_parts (n - n * m.x / m.sum - n * m.y / m.sum - n * m.z / m.sum).toNat ⟨n * m.x / m.sum, n * m.y / m.sum, n * m.z / m.sum⟩ (n * m.x % m.sum) (n * m.y % m.sum) (n * m.z % m.sum) m.sum ⟨a0, a1⟩ ⟨b0, b1⟩ ⟨c0, c1⟩ (by rw [Int.toNat_of_nonneg hk, e2])
  rw [Int.toNat_of_nonneg hk] at hb
  obtain ⟨p1, p2, p3, p4⟩ := hb
  exact ⟨p1, p2, p3, by rw [forA]; simp only at p4 ⊢; omega⟩
theorem forA_nonneg (m : Mix) (hv : vMixS m = true) (n : Int) (hn : 0 ≤ n) : 0 ≤ (forA m n).x ∧ 0 ≤ (forA m n).y ∧ 0 ≤ (forA m n).z := by
  obtain ⟨p1, p2, p3, _⟩ := forA_parts m hv n hn
  obtain ⟨x0, x1, y0, y1, z0, z1, s0, s1⟩ := vMix_bounds hv
  have d1 := Int.ediv_nonneg (Int.mul_nonneg hn x0) (show 0 ≤ m.sum by omega)
  have d2 := Int.ediv_nonneg (Int.mul_nonneg hn y0) (show 0 ≤ m.sum by omega)
  have d3 := Int.ediv_nonneg (Int.mul_nonneg hn z0) (show 0 ≤ m.sum by omega)
  unfold partOk at *
  omega
theorem fits_le {m s : Mix} {n : Int} (hv : vMixS m = true) (hn : 0 ≤ n) (h : fits (forA m n) s = true) : n ≤ s.x + s.y + s.z := by
  obtain ⟨_, _, _, p⟩ := forA_parts m hv n hn
  simp only [fits, Bool.and_eq_true, decide_eq_true_eq] at h
  omega
theorem mostN_fits (m s : Mix) (hv : vMixS m = true) (hs : 0 ≤ s.x ∧ 0 ≤ s.y ∧ 0 ≤ s.z) : ∀ k, 0 ≤ mostN m s k ∧ mostN m s k ≤ k ∧ fits (forA m (mostN m s k)) s = true ∧ ∀ j : Int, mostN m s k < j → j ≤ k → fits (forA m j) s = false
  | 0 => by
    refine ⟨Int.le_refl _, Int.le_refl _, ?_, fun j h1 h2 => ?_⟩
    · obtain ⟨p1, p2, p3, p4⟩ := forA_parts m hv 0 (Int.le_refl _)
      obtain ⟨q1, q2, q3⟩ := forA_nonneg m hv 0 (Int.le_refl _)
      have e1 : (forA m 0).x = 0 ∧ (forA m 0).y = 0 ∧ (forA m 0).z = 0 := by omega
      simp [mostN, fits, e1, hs]
    · simp only [mostN] at h1
      simp at h2
      omega
  | k + 1 => by
    rw [mostN]
    split
    · rename_i h
      exact ⟨by omega, by omega, h, fun j h1 h2 => by omega⟩
    · rename_i h
      obtain ⟨i1, i2, i3, i4⟩ := mostN_fits m s hv hs k
      refine ⟨i1, by omega, i3, fun j h1 h2 => ?_⟩
      by_cases hj : j ≤ k
      · exact i4 j h1 hj
      · have : j = ((k + 1 : Nat) : Int) := by omega
        subst this
        simpa using h
theorem mostA_facts (m s : Mix) (hv : vMixS m = true) (hs : (0 ≤ s.x ∧ s.x ≤ 99) ∧ (0 ≤ s.y ∧ s.y ≤ 99) ∧ (0 ≤ s.z ∧ s.z ≤ 99)) :
    0 ≤ mostA m s ∧ mostA m s ≤ 297 ∧ fits (forA m (mostA m s)) s = true ∧ fits (forA m (mostA m s + 1)) s = false := by
  obtain ⟨i1, i2, i3, i4⟩ := mostN_fits m s hv ⟨hs.1.1, hs.2.1.1, hs.2.2.1⟩ 5000
  have := fits_le hv i1 i3
  exact ⟨i1, by unfold mostA; omega, i3, i4 _ (by unfold mostA; omega) (by unfold mostA; omega)⟩
/-- The working days among the first k, from a day of the week on. -/
def wd (s : Int) : Nat → Nat
  | 0 => 0
  | k + 1 => if (s + (k : Int)) % 7 = 6 then wd s k else wd s k + 1
structure Cal (s : Int) (d k : Nat) : Prop where
  cnt : wd s k = d
  last : k = 0 ∨ (s + (k : Int) - 1) % 7 ≠ 6
theorem wd_le (s : Int) : ∀ k, wd s k ≤ k
  | 0 => Nat.le_refl _
  | k + 1 => by
    have := wd_le s k
    rw [wd]
    split <;> omega
theorem wd_mono (s : Int) (k : Nat) : ∀ j, wd s k ≤ wd s (k + j)
  | 0 => Nat.le_refl _
  | j + 1 => by
    have := wd_mono s k j
    rw [← Nat.add_assoc, wd]
    split <;> omega
theorem Cal.pos {s : Int} {d k : Nat} (h : Cal s d k) (hk : 0 < k) : wd s k = wd s (k - 1) + 1 := by
  obtain ⟨j, rfl⟩ : ∃ j, k = j + 1 := ⟨k - 1, by omega⟩
  have h2 := h.last
  have : ¬ (s + (j : Int)) % 7 = 6 := by
    rcases h2 with h2 | h2
    · omega
    · intro h3
      apply h2
      have e : s + ((j + 1 : Nat) : Int) - 1 = s + (j : Int) := by omega
      rw [e]; exact h3
  show wd s (j + 1) = wd s j + 1
  rw [wd, if_neg this]
theorem Cal.uniq {s : Int} {d k k' : Nat} (h : Cal s d k) (h' : Cal s d k') : k = k' := by
  have aux : ∀ {a b : Nat}, Cal s d a → Cal s d b → ¬ a < b := by
    intro a b ha hb hlt
    have h1 := hb.pos (by omega)
    have h2 := wd_mono s a (b - 1 - a)
    rw [show a + (b - 1 - a) = b - 1 by omega] at h2
    have h3 := ha.cnt
    have h4 := hb.cnt
    omega
  have h1 := aux h h'
  have h2 := aux h' h
  omega
theorem Cal.facts {s : Int} {d k : Nat} (h : Cal s d k) : d ≤ k ∧ (k = 0 ↔ d = 0) := by
  have h1 := wd_le s k
  have h2 := h.cnt
  refine ⟨by omega, ⟨fun hk => by subst hk; rw [← h2]; rfl, fun hd => ?_⟩⟩
  by_cases hk : k = 0
  · exact hk
  · have := h.pos (by omega)
    omega

theorem wd_succ_work {s : Int} {k : Nat} (h : (s + (k : Int)) % 7 ≠ 6) : wd s (k + 1) = wd s k + 1 := by rw [wd, if_neg h]
theorem wd_succ_rest {s : Int} {k : Nat} (h : (s + (k : Int)) % 7 = 6) : wd s (k + 1) = wd s k := by rw [wd, if_pos h]
/-- Where the count of the calendar stands. -/
structure CalI (s : Int) (d k l : Nat) : Prop where
  sum : wd s k + l = d
  last : l = 0 → k = 0 ∨ (s + (k : Int) - 1) % 7 ≠ 6
theorem CalI.zero (s : Int) (d : Nat) : CalI s d 0 d := ⟨by simp [wd], fun _ => .inl rfl⟩
theorem CalI.fin {s : Int} {d k : Nat} (h : CalI s d k 0) : Cal s d k := ⟨by have := h.sum; omega, h.last rfl⟩
theorem CalI.work {s : Int} {d k l : Nat} (h : CalI s d k (l + 1)) (hw : (s + (k : Int)) % 7 ≠ 6) : CalI s d (k + 1) l :=
  ⟨by rw [wd_succ_work hw]; have := h.sum; omega, fun _ => .inr (by rw [show s + ((k + 1 : Nat) : Int) - 1 = s + (k : Int) by omega]; exact hw)⟩
theorem CalI.rest {s : Int} {d k l : Nat} (h : CalI s d k (l + 1)) (hw : (s + (k : Int)) % 7 = 6) : CalI s d (k + 1) (l + 1) :=
  ⟨by rw [wd_succ_rest hw]; exact h.sum, fun h0 => by omega⟩
end Go.Proofs.Ytgifakacnneleaa
