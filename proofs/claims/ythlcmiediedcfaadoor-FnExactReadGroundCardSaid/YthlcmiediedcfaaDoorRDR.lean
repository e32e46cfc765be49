/-
Rows read from a text, plainly. No condition.
-/
import Derived.Test.YthlcmiediedcfaaDoorG1
import Derived.Test.YthlcmiediedcfaaDoorRDS
set_option linter.unusedVariables false
set_option linter.unusedSimpArgs false
set_option maxRecDepth 100000
namespace Go.Proofs.YthlcmiediedcfaaDoor
def rdRow (l : List UInt8) : Option Row := (pairS 9 2000 l).map fun p => ⟨p.1, p.2⟩
def rdRows : List (List UInt8) → Option (List Row)
  | [] => some []
  | w :: ws => match rdRow w with
    | none => none
    | some r => (rdRows ws).map (r :: ·)
theorem rdRows_snoc : ∀ (ws : List (List UInt8)) (w : List UInt8) (rs : List Row) (r : Row), rdRows ws = some rs → rdRow w = some r → rdRows (ws ++ [w]) = some (rs ++ [r])
  | [], w, rs, r, h, hr => by
    rw [rdRows] at h
    obtain rfl := Option.some.inj h
    rw [List.nil_append, rdRows, hr]
    rfl
  | x :: ws, w, rs, r, h, hr => by
    rw [rdRows] at h
    cases hx : rdRow x with
    | none => rw [hx] at h; cases h
    | some y =>
      rw [hx] at h
      cases hw : rdRows ws with
      | none => rw [hw] at h; cases h
      | some ys =>
        rw [hw] at h
        have h : y :: ys = rs := Option.some.inj h
        rw [List.cons_append, rdRows, hx]
        simp only
        rw [rdRows_snoc ws w ys r hw hr, ← h]
        rfl
theorem rdRows_none : ∀ (ws : List (List UInt8)) (w : List UInt8), w ∈ ws → rdRow w = none → rdRows ws = none
  | x :: ws, w, h, hr => by
    rw [rdRows]
    rcases List.mem_cons.1 h with rfl | h
    · rw [hr]
    · cases rdRow x with
      | none => rfl
      | some y =>
        simp only
        rw [rdRows_none ws w h hr]
        rfl
theorem numS_nonneg (l : List UInt8) : 0 ≤ (numS l).1 := by
  unfold numS
  split
  · simp
  · exact Int.le_refl _
theorem rdRow_facts {l : List UInt8} {r : Row} (h : rdRow l = some r) : 0 ≤ r.n ∧ r.n ≤ 9 ∧ 0 ≤ r.w ∧ r.w ≤ 2000 := by
  unfold rdRow pairS at h
  split at h
  · rename_i x y e
    by_cases hk : ((numS x).2 = true ∧ (numS x).1 ≤ 9) ∧ ((numS y).2 = true ∧ (numS y).1 ≤ 2000)
    · rw [if_pos hk] at h
      have h : (⟨(numS x).1, (numS y).1⟩ : Row) = r := Option.some.inj h
      subst h
      exact ⟨numS_nonneg x, hk.1.2, numS_nonneg y, hk.2.2⟩
    · rw [if_neg hk] at h
      cases h
  · cases h
theorem rdRows_facts : ∀ (ws : List (List UInt8)) (rs : List Row), rdRows ws = some rs → ∀ r ∈ rs, 0 ≤ r.n ∧ r.n ≤ 9 ∧ 0 ≤ r.w ∧ r.w ≤ 2000
  | [], rs, h => by
    rw [rdRows] at h
    obtain rfl := Option.some.inj h
    intro r hr
    cases hr
  | x :: ws, rs, h => by
    rw [rdRows] at h
    cases hx : rdRow x with
    | none => rw [hx] at h; cases h
    | some y =>
      rw [hx] at h
      cases hw : rdRows ws with
      | none => rw [hw] at h; cases h
      | some ys =>
        rw [hw] at h
        have h : y :: ys = rs := Option.some.inj h
        subst h
        intro r hr
        rcases List.mem_cons.1 hr with rfl | hr
        · exact rdRow_facts hx
        · exact rdRows_facts ws ys hw r hr
/-- What both return. -/
def readRowsF (l : List UInt8) : List Row × Int := if l = [] then ([], 0) else match rdRows (splitL 32 l) with
  | some rs => if vRowsB rs = true then (rs, 0) else ([], 5)
  | none => ([], 5)
end Go.Proofs.YthlcmiediedcfaaDoor
