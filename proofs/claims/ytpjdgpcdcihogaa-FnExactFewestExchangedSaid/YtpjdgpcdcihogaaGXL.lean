/-
The greedy choice of slabs, in plain lists. Nothing is proved here of the program itself.
-/
import Derived.Test.YtpjdgpcdcihogaaCT1
set_option linter.unusedVariables false
set_option linter.unusedSimpArgs false
set_option maxRecDepth 100000
namespace Go.Proofs.Ytpjdgpcdcihogaa
def hasE (k : Int) (p : Pair) : Bool := (p.a == k) || (p.b == k)
def remL (ts : List Pair) (us : List Int) : List Pair := ts.filter fun p => !covP us p
def cntE (ps : List Pair) (k : Int) : Nat := (ps.filter (hasE k)).length
/-- The first of the greatest among f 0 .. f (n - 1), and its value. -/
def bst (f : Nat → Nat) : Nat → Nat × Nat
  | 0 => (0, 0)
  | k + 1 => if (bst f k).2 < f k then (k, f k) else bst f k
theorem bst_spec (f : Nat → Nat) : ∀ n, 0 < n → (bst f n).1 < n ∧ f (bst f n).1 = (bst f n).2 ∧ (∀ k, k < n → f k ≤ (bst f n).2) ∧ ∀ k, k < (bst f n).1 → f k < (bst f n).2
  | 0, h => by omega
  | 1, _ => by
    have e : bst f 1 = if 0 < f 0 then (0, f 0) else (0, 0) := rfl
    rw [e]
    by_cases h : 0 < f 0
    · rw [if_pos h]
      refine ⟨by simp, rfl, fun k hk => ?_, fun k hk => ?_⟩
      · have : k = 0 := by omega
        subst this
        exact Nat.le_refl _
      · simp at hk
    · rw [if_neg h]
      have h0 : f 0 = 0 := by omega
      refine ⟨by simp, h0, fun k hk => ?_, fun k hk => ?_⟩
      · have : k = 0 := by omega
        subst this
        show f 0 ≤ 0
        omega
      · simp at hk
  | n + 2, _ => by
    obtain ⟨h1, h2, h3, h4⟩ := bst_spec f (n + 1) (by omega)
    rw [bst]
    generalize bst f (n + 1) = b at *
    split
    · rename_i h
      refine ⟨by simp, rfl, fun k hk => ?_, fun k hk => ?_⟩
      · by_cases hkn : k = n + 1
        · subst hkn; exact Nat.le_refl _
        · have := h3 k (by omega); simp only; omega
      · simp only at hk ⊢
        have := h3 k (by omega)
        omega
    · rename_i h
      refine ⟨by omega, h2, fun k hk => ?_, h4⟩
      by_cases hkn : k = n + 1
      · subst hkn; omega
      · exact h3 k (by omega)
def bestE (ps : List Pair) (n : Nat) : Int := ((bst (fun k => cntE ps (k : Int)) n).1 : Int)
def gr (ts : List Pair) (n : Nat) : Nat → List Int
  | 0 => []
  | k + 1 => if remL ts (gr ts n k) = [] then gr ts n k else gr ts n k ++ [bestE (remL ts (gr ts n k)) n]
def greedyL (ts : List Pair) (n : Nat) : List Int := gr ts n ts.length
theorem covP_snoc (us : List Int) (b : Int) (p : Pair) : covP (us ++ [b]) p = (covP us p || hasE b p) := by
  unfold covP hasE
  rw [Bool.eq_iff_iff]
  simp only [List.mem_append, List.mem_singleton, Bool.or_eq_true, decide_eq_true_eq, beq_iff_eq]
  constructor
  · rintro ((h | h) | h | h)
    · exact .inl (.inl h)
    · exact .inr (.inl h)
    · exact .inl (.inr h)
    · exact .inr (.inr h)
  · rintro ((h | h) | h | h)
    · exact .inl (.inl h)
    · exact .inr (.inl h)
    · exact .inl (.inr h)
    · exact .inr (.inr h)
theorem remL_snoc (ts : List Pair) (us : List Int) (b : Int) : remL ts (us ++ [b]) = (remL ts us).filter fun p => !hasE b p := by
  unfold remL
  rw [List.filter_filter]
  apply List.filter_congr
  intro p _
  rw [covP_snoc]
  cases covP us p <;> cases hasE b p <;> rfl
theorem remL_nil (ts : List Pair) : remL ts [] = ts := by
  unfold remL
  rw [List.filter_eq_self]
  intro p _
  simp [covP]
theorem remL_covers (ts : List Pair) (us : List Int) : (remL ts us = []) ↔ coversB ts us = true := by
  unfold remL coversB
  rw [List.filter_eq_nil_iff, List.all_eq_true]
  constructor
  · intro h p hp
    have := h p hp
    simpa using this
  · intro h p hp
    simp [h p hp]
theorem remL_mem {ts : List Pair} {us : List Int} {p : Pair} (h : p ∈ remL ts us) : p ∈ ts := (List.mem_filter.1 h).1
/-- One more slab covers one more pair. -/
theorem remL_dec {ts : List Pair} {us : List Int} {n : Nat} (hidx : ∀ p ∈ ts, idxP n p) (hne : remL ts us ≠ []) : (remL ts (us ++ [bestE (remL ts us) n])).length < (remL ts us).length := by
  rw [remL_snoc]
  obtain ⟨p, hp⟩ := List.exists_mem_of_ne_nil _ hne
  obtain ⟨h1, h2, -, -⟩ := hidx p (remL_mem hp)
  obtain ⟨hb1, hb2, hb3, -⟩ := bst_spec (fun k => cntE (remL ts us) (k : Int)) n (by omega)
  have hpa : cntE (remL ts us) p.a ≤ (bst (fun k => cntE (remL ts us) (k : Int)) n).2 := by
    have := hb3 p.a.toNat (by omega)
    rwa [Int.toNat_of_nonneg h1] at this
  have hpos : 0 < cntE (remL ts us) p.a := by
    unfold cntE
    rw [List.length_pos_iff_exists_mem]
    exact ⟨p, List.mem_filter.2 ⟨hp, by simp [hasE]⟩⟩
  have hpos2 : 0 < cntE (remL ts us) (bestE (remL ts us) n) := by
    have : cntE (remL ts us) (bestE (remL ts us) n) = (bst (fun k => cntE (remL ts us) (k : Int)) n).2 := hb2
    omega
  unfold cntE at hpos2
  obtain ⟨q, hq⟩ := List.length_pos_iff_exists_mem.1 hpos2
  obtain ⟨hq1, hq2⟩ := List.mem_filter.1 hq
  rcases Nat.lt_or_ge ((remL ts us).filter fun p => !hasE (bestE (remL ts us) n) p).length (remL ts us).length with h | h
  · exact h
  · exfalso
    have he : ((remL ts us).filter fun p => !hasE (bestE (remL ts us) n) p) = remL ts us := List.Sublist.eq_of_length_le List.filter_sublist h
    rw [← he] at hq1
    have := (List.mem_filter.1 hq1).2
    rw [hq2] at this
    cases this
theorem gr_bound {ts : List Pair} {n : Nat} (hidx : ∀ p ∈ ts, idxP n p) : ∀ k, remL ts (gr ts n k) = [] ∨ (remL ts (gr ts n k)).length + k ≤ ts.length
  | 0 => .inr (by simp only [gr, remL_nil]; omega)
  | k + 1 => by
    by_cases he : remL ts (gr ts n k) = []
    · left
      rw [gr, if_pos he]
      exact he
    · right
      rcases gr_bound hidx k with h | h
      · exact absurd h he
      · rw [gr, if_neg he]
        have := remL_dec hidx he
        omega
theorem gr_stable {ts : List Pair} {n k : Nat} (h : remL ts (gr ts n k) = []) : ∀ m, gr ts n (k + m) = gr ts n k
  | 0 => rfl
  | m + 1 => by
    have ih := gr_stable h m
    rw [← Nat.add_assoc, gr, ih, if_pos h]
/-- Where nothing is left, the choice is at its end. -/
theorem gr_end {ts : List Pair} {n k : Nat} (hidx : ∀ p ∈ ts, idxP n p) (hk : k ≤ ts.length) (h : remL ts (gr ts n k) = []) : gr ts n k = greedyL ts n := by
  have := gr_stable h (ts.length - k)
  rw [show k + (ts.length - k) = ts.length by omega] at this
  exact this.symm
theorem gr_next {ts : List Pair} {n k : Nat} (hidx : ∀ p ∈ ts, idxP n p) (hne : remL ts (gr ts n k) ≠ []) : gr ts n (k + 1) = gr ts n k ++ [bestE (remL ts (gr ts n k)) n] ∧ k + 1 ≤ ts.length := by
  refine ⟨by rw [gr, if_neg hne], ?_⟩
  rcases gr_bound hidx k with h | h
  · exact absurd h hne
  · have : 0 < (remL ts (gr ts n k)).length := List.length_pos_iff.2 hne
    omega
theorem gr_len {ts : List Pair} {n : Nat} : ∀ k, (gr ts n k).length ≤ k
  | 0 => by simp [gr]
  | k + 1 => by
    have := gr_len (ts := ts) (n := n) k
    rw [gr]
    split
    · omega
    · simp; omega
/-! ### Counting -/
def cntS (us : List Int) (ts : List Pair) (k : Int) : Nat := (ts.filter fun p => !covP us p && hasE k p).length
theorem cntS_eq (us : List Int) (ts : List Pair) (k : Int) : cntS us ts k = cntE (remL ts us) k := by
  unfold cntS cntE remL
  rw [List.filter_filter]
  congr 1
  apply List.filter_congr
  intro p _
  rw [Bool.and_comm]
theorem cntS_succ (us : List Int) (ts : List Pair) (k : Int) (i : Nat) (hi : i < ts.length) : cntS us (ts.take (i + 1)) k = if (!covP us ts[i] && hasE k ts[i]) = true then cntS us (ts.take i) k + 1 else cntS us (ts.take i) k := by
  unfold cntS
  rw [List.take_succ_eq_append_getElem hi, List.filter_append]
  by_cases h : (!covP us ts[i] && hasE k ts[i]) = true
  · rw [if_pos h, List.filter_cons_of_pos (by exact h)]; simp
  · rw [if_neg h, List.filter_cons_of_neg (by exact h)]; simp
def cA (ps : List Pair) (n : Nat) : List Int := (List.range n).map fun (k : Nat) => ((ps.countP (fun p => p.a == (k : Int)) + ps.countP (fun p => p.b == (k : Int)) : Nat) : Int)
def cB (ps : List Pair) (p : Pair) (n : Nat) : List Int := (List.range n).map fun (k : Nat) => (((ps ++ [p]).countP (fun p => p.a == (k : Int)) + ps.countP (fun p => p.b == (k : Int)) : Nat) : Int)
theorem cA_len (ps : List Pair) (n : Nat) : (cA ps n).length = n := by simp [cA]
theorem cB_len (ps : List Pair) (p : Pair) (n : Nat) : (cB ps p n).length = n := by simp [cB]
theorem cA_start (n : Nat) : cA [] n = List.replicate n 0 := by
  apply List.ext_getElem
  · simp [cA]
  · intro i h1 h2
    simp [cA]
theorem cA_get (ps : List Pair) (n k : Nat) (hk : k < n) : (cA ps n)[k]? = some (((ps.countP (fun p => p.a == (k : Int)) + ps.countP (fun p => p.b == (k : Int)) : Nat) : Int)) := by simp [cA, hk]
theorem cB_get (ps : List Pair) (p : Pair) (n k : Nat) (hk : k < n) : (cB ps p n)[k]? = some ((((ps ++ [p]).countP (fun p => p.a == (k : Int)) + ps.countP (fun p => p.b == (k : Int)) : Nat) : Int)) := by simp [cB, hk]
theorem cA_stepA (ps : List Pair) (p : Pair) (n a : Nat) (ha : p.a = (a : Int)) (han : a < n) (x : Int) (hx : (cA ps n)[a]? = some x) : (cA ps n).set a (x + 1) = cB ps p n := by
  apply List.ext_getElem?
  intro k
  by_cases hk : k < n
  · rw [cB_get _ _ _ _ hk]
    by_cases hka : k = a
    · subst hka
      rw [List.getElem?_set_self (by rw [cA_len]; exact hk)]
      rw [cA_get _ _ _ hk] at hx
      injection hx with hx
      rw [← hx, List.countP_append]
      simp [ha]
      omega
    · rw [List.getElem?_set_ne (by omega), cA_get _ _ _ hk, List.countP_append]
      have : (p.a == (k : Int)) = false := by rw [ha]; simp; omega
      simp [this]
  · rw [List.getElem?_eq_none (by rw [List.length_set, cA_len]; omega), List.getElem?_eq_none (by rw [cB_len]; omega)]
theorem cB_stepB (ps : List Pair) (p : Pair) (n b : Nat) (hb : p.b = (b : Int)) (hbn : b < n) (x : Int) (hx : (cB ps p n)[b]? = some x) : (cB ps p n).set b (x + 1) = cA (ps ++ [p]) n := by
  apply List.ext_getElem?
  intro k
  by_cases hk : k < n
  · rw [cA_get _ _ _ hk]
    by_cases hka : k = b
    · subst hka
      rw [List.getElem?_set_self (by rw [cB_len]; exact hk)]
      rw [cB_get _ _ _ _ hk] at hx
      injection hx with hx
      rw [← hx, List.countP_append (l₁ := ps) (p := fun p => p.b == (k : Int))]
      simp [hb]
      omega
    · rw [List.getElem?_set_ne (by omega), cB_get _ _ _ _ hk, List.countP_append (l₁ := ps) (p := fun p => p.b == (k : Int))]
      have : (p.b == (k : Int)) = false := by rw [hb]; simp; omega
      simp [this]
  · rw [List.getElem?_eq_none (by rw [List.length_set, cB_len]; omega), List.getElem?_eq_none (by rw [cA_len]; omega)]
/-- Pairs of two different slabs are counted once at each. -/
theorem cA_cnt (ps : List Pair) (n : Nat) (hne : ∀ p ∈ ps, p.a ≠ p.b) : cA ps n = (List.range n).map fun (k : Nat) => ((cntE ps (k : Int) : Nat) : Int) := by
  unfold cA
  apply List.map_congr_left
  intro k hk
  congr 1
  unfold cntE
  rw [← List.countP_eq_length_filter]
  clear hk n
  induction ps with
  | nil => rfl
  | cons p ps ih =>
    have ih := ih (fun q hq => hne q (by simp [hq]))
    have h := hne p (by simp)
    simp only [List.countP_cons]
    have : ((if (p.a == (k : Int)) = true then 1 else 0) + if (p.b == (k : Int)) = true then 1 else 0) = if hasE (k : Int) p = true then 1 else 0 := by
      unfold hasE
      by_cases h1 : p.a = (k : Int)
      · have h2 : ¬ p.b = (k : Int) := by intro h2; exact h (by rw [h1, h2])
        simp [h1, h2]
      · by_cases h2 : p.b = (k : Int) <;> simp [h1, h2]
    omega
def maxI (xs : List Int) : Int := xs.tail.foldl max (xs.headD 0)
theorem maxI_take (xs : List Int) (k : Nat) (hk : k < xs.length) (h0 : 0 < k) : maxI (xs.take (k + 1)) = max (maxI (xs.take k)) xs[k] := by
  cases xs with
  | nil => simp at hk
  | cons x xs =>
    obtain ⟨j, rfl⟩ : ∃ j, k = j + 1 := ⟨k - 1, by omega⟩
    simp only [List.take_succ_cons, maxI, List.tail_cons, List.headD_cons, List.getElem_cons_succ]
    rw [List.take_succ_eq_append_getElem (by simpa using hk), List.foldl_append]
    rfl
theorem foldl_max (xs : List Int) : ∀ m : Int, m ≤ xs.foldl max m ∧ (∀ x ∈ xs, x ≤ xs.foldl max m) ∧ (xs.foldl max m = m ∨ xs.foldl max m ∈ xs) := by
  induction xs with
  | nil => intro m; simp
  | cons x xs ih =>
    intro m
    obtain ⟨h1, h2, h3⟩ := ih (max m x)
    refine ⟨by simp only [List.foldl_cons]; omega, ?_, ?_⟩
    · intro y hy
      rcases List.mem_cons.1 hy with rfl | hy
      · simp only [List.foldl_cons]; omega
      · exact h2 y hy
    · simp only [List.foldl_cons]
      rcases h3 with h | h
      · rw [h]
        by_cases hm : m ≤ x
        · right
          rw [show max m x = x from by omega]
          simp
        · left; omega
      · right; simp [h]
theorem maxI_spec (xs : List Int) (h : 0 < xs.length) : maxI xs ∈ xs ∧ ∀ x ∈ xs, x ≤ maxI xs := by
  cases xs with
  | nil => simp at h
  | cons x xs =>
    obtain ⟨h1, h2, h3⟩ := foldl_max xs x
    refine ⟨?_, ?_⟩
    · show xs.foldl max x ∈ x :: xs
      rcases h3 with h | h
      · rw [h]; simp
      · simp [h]
    · intro y hy
      show y ≤ xs.foldl max x
      rcases List.mem_cons.1 hy with rfl | hy
      · exact h1
      · exact h2 y hy
/-- The first place of the greatest count is the best slab. -/
theorem best_index (ps : List Pair) (n : Nat) (hn : 0 < n) (hne : ∀ p ∈ ps, p.a ≠ p.b) : findI (fun y => y == maxI (cA ps n)) (cA ps n) = bestE ps n := by
  rw [cA_cnt ps n hne]
  obtain ⟨h1, h2, h3, h4⟩ := bst_spec (fun k => cntE ps (k : Int)) n hn
  have hl : ((List.range n).map fun (k : Nat) => ((cntE ps (k : Int) : Nat) : Int)).length = n := by simp
  obtain ⟨g1, g2⟩ := maxI_spec ((List.range n).map fun (k : Nat) => ((cntE ps (k : Int) : Nat) : Int)) (by rw [hl]; exact hn)
  have hmax : maxI ((List.range n).map fun (k : Nat) => ((cntE ps (k : Int) : Nat) : Int)) = (((bst (fun k => cntE ps (k : Int)) n).2 : Nat) : Int) := by
    have e1 := g2 (((cntE ps (((bst (fun k => cntE ps (k : Int)) n).1 : Nat) : Int)) : Nat) : Int) (List.mem_map.2 ⟨(bst (fun k => cntE ps (k : Int)) n).1, List.mem_range.2 h1, rfl⟩)
    obtain ⟨k, hk, hke⟩ := List.mem_map.1 g1
    have e2 := h3 k (List.mem_range.1 hk)
    have e3 : cntE ps (((bst (fun k => cntE ps (k : Int)) n).1 : Nat) : Int) = (bst (fun k => cntE ps (k : Int)) n).2 := h2
    have e4 : cntE ps (k : Int) ≤ (bst (fun k => cntE ps (k : Int)) n).2 := e2
    rw [e3] at e1
    omega
  rw [hmax]
  unfold bestE
  refine findI_at _ _ _ (by rw [hl]; exact h1) ?_ ?_
  · rw [List.all_eq_true]
    intro x hx
    obtain ⟨i, hi, rfl⟩ := List.getElem_of_mem hx
    rw [List.length_take, hl] at hi
    rw [List.getElem_take]
    simp only [List.getElem_map, List.getElem_range, Bool.not_eq_true', beq_eq_false_iff_ne]
    have h5 : cntE ps (i : Int) < (bst (fun k => cntE ps (k : Int)) n).2 := h4 i (by omega)
    omega
  · simp only [List.getElem_map, List.getElem_range, beq_iff_eq]
    have e3 : cntE ps (((bst (fun k => cntE ps (k : Int)) n).1 : Nat) : Int) = (bst (fun k => cntE ps (k : Int)) n).2 := h2
    rw [e3]
end Go.Proofs.Ytpjdgpcdcihogaa
