/-
Texts cut at a byte, plainly: the reference's cutting, the library's cutting and cutting once, and that pairs of numbers read out of both are the same. No condition.
-/
import Derived.Lib.Split
import Derived.Test.YthlcmiediedcfaaDoorRDL
set_option linter.unusedVariables false
set_option linter.unusedSimpArgs false
set_option maxRecDepth 100000
namespace Go.Proofs.YthlcmiediedcfaaDoor
/-- Cut at each byte c. -/
def splitL (c : UInt8) : List UInt8 → List (List UInt8)
  | [] => [[]]
  | b :: l => if b = c then [] :: splitL c l else match splitL c l with
    | p :: r => (b :: p) :: r
    | [] => [[b]]
theorem splitL_no (c : UInt8) : ∀ l : List UInt8, c ∉ l → splitL c l = [l]
  | [], _ => rfl
  | b :: l, h => by
    rw [splitL, if_neg (fun e => h (by simp [e])), splitL_no c l (fun hm => h (List.mem_cons_of_mem _ hm))]
theorem splitL_hit (c : UInt8) : ∀ a b : List UInt8, c ∉ a → splitL c (a ++ c :: b) = a :: splitL c b
  | [], b, _ => by rw [List.nil_append, splitL, if_pos rfl]
  | x :: a, b, h => by
    rw [List.cons_append, splitL, if_neg (fun e => h (by simp [e])), splitL_hit c a b (fun hm => h (List.mem_cons_of_mem _ hm))]
theorem splitL_len (c : UInt8) : ∀ l : List UInt8, (splitL c l).length ≤ l.length + 1
  | [] => Nat.le_refl _
  | b :: l => by
    have ih := splitL_len c l
    rw [splitL]
    split
    · simp only [List.length_cons]; omega
    · split
      · rename_i p r e
        rw [e] at ih
        simp only [List.length_cons] at ih ⊢
        omega
      · simp
theorem pre_one (c b : UInt8) (l : List UInt8) : List.isPrefixOf [c] (b :: l) = (c == b) := by
  rw [List.isPrefixOf]
  simp
theorem index_at (c : UInt8) : ∀ s : List UInt8, (Lib.index s [c] = -1 ∧ c ∉ s) ∨ ∃ a b, s = a ++ c :: b ∧ c ∉ a ∧ Lib.index s [c] = (a.length : Int)
  | [] => .inl ⟨rfl, by simp⟩
  | x :: s => by
    by_cases hx : c = x
    · subst hx
      exact .inr ⟨[], s, rfl, by simp, by rw [Lib.index, pre_one, if_pos (by simp)]; rfl⟩
    · have hn : ¬ (List.isPrefixOf [c] (x :: s) = true) := by rw [pre_one]; simpa using hx
      rcases index_at c s with ⟨h1, h2⟩ | ⟨a, b, h1, h2, h3⟩
      · refine .inl ⟨by rw [Lib.index, if_neg hn, h1]; rfl, fun hm => ?_⟩
        rcases List.mem_cons.1 hm with e | e
        · exact hx e
        · exact h2 e
      · refine .inr ⟨x :: a, b, by rw [h1]; rfl, fun hm => ?_, ?_⟩
        · rcases List.mem_cons.1 hm with e | e
          · exact hx e
          · exact h2 e
        · rw [Lib.index, if_neg hn, h3, if_neg (by rw [beq_iff_eq]; omega), List.length_cons]
          omega
theorem split_same (c : UInt8) : ∀ (n : Nat) (s : List UInt8), s.length ≤ n → Lib.splitK [c] 0 (Lib.count s [c]) s = splitL c s := by
  intro n
  induction n with
  | zero =>
    intro s h
    have := List.eq_nil_of_length_eq_zero (Nat.le_zero.1 h)
    subst this
    rw [Lib.count_miss rfl]
    rfl
  | succ n ih =>
    intro s h
    rcases index_at c s with ⟨h1, h2⟩ | ⟨a, b, h1, h2, h3⟩
    · rw [Lib.count_miss h1, splitL_no c s h2]
      rfl
    · rw [Lib.count_hit (by simp) h3, Nat.add_comm 1, Lib.splitK, if_neg (by rw [h3, beq_iff_eq]; omega), h3]
      have e1 : s.take ((a.length : Int).toNat + 0) = a := by rw [h1]; simp
      have e2 : s.drop ((a.length : Int).toNat + [c].length) = b := by
        rw [h1, Int.toNat_natCast, List.length_singleton, show a ++ c :: b = (a ++ [c]) ++ b by simp, List.drop_left' (by simp)]
      have e3 : s.drop (a.length + [c].length) = b := by rw [← e2]; rfl
      rw [e1, e2, e3, ih b (by rw [h1] at h; simp at h; omega), h1, splitL_hit c a b h2]
theorem cut_miss (c : UInt8) {s : List UInt8} (h : c ∉ s) : Lib.cut s [c] = (s, [], false) := by
  rcases index_at c s with ⟨h1, h2⟩ | ⟨a, b, h1, h2, h3⟩
  · unfold Lib.cut
    rw [h1, if_neg (by omega)]
  · exact absurd (by rw [h1]; simp) h
theorem cut_hit (c : UInt8) {a b : List UInt8} (h : c ∉ a) : Lib.cut (a ++ c :: b) [c] = (a, b, true) := by
  have hi : Lib.index (a ++ c :: b) [c] = (a.length : Int) := by
    rcases index_at c (a ++ c :: b) with ⟨h1, h2⟩ | ⟨a', b', h1, h2, h3⟩
    · exact absurd (by simp) h2
    · have hs := congrArg (splitL c) h1
      rw [splitL_hit c a b h, splitL_hit c a' b' h2] at hs
      rw [h3, (List.cons.inj hs).1]
  unfold Lib.cut
  rw [hi, if_pos (by omega)]
  simp
/-- A number has no other byte than digits. -/
theorem numS_no {l : List UInt8} {c : UInt8} (hc : digB c = false) (hm : c ∈ l) : (numS l).2 = false := by
  cases h : (numS l).2 with
  | false => rfl
  | true =>
    have := (numS_ok h).2.1.dig c hm
    rw [hc] at this
    cases this
/-- A pair of numbers, as the reference reads it. -/
def pairS (m1 m2 : Int) (l : List UInt8) : Option (Int × Int) := match splitL 58 l with
  | [x, y] => if ((numS x).2 = true ∧ (numS x).1 ≤ m1) ∧ ((numS y).2 = true ∧ (numS y).1 ≤ m2) then some ((numS x).1, (numS y).1) else none
  | _ => none
/-- A pair of numbers, as the program reads it. -/
def pairI (m1 m2 : Int) (l : List UInt8) : Option (Int × Int) :=
  if (Lib.cut l [58]).2.2 = true ∧ (numI (Lib.cut l [58]).1 m1).2 = true ∧ (numI (Lib.cut l [58]).2.1 m2).2 = true then some ((numI (Lib.cut l [58]).1 m1).1, (numI (Lib.cut l [58]).2.1 m2).1) else none
theorem numI_ok (l : List UInt8) (m : Int) (h0 : 0 ≤ m) (h1 : m ≤ 1000000000) : ((numI l m).2 = true ↔ (numS l).2 = true ∧ (numS l).1 ≤ m) ∧ ((numI l m).2 = true → (numI l m).1 = (numS l).1) := by
  rw [num_same l m h0 h1]
  split
  · rename_i h
    exact ⟨⟨fun _ => h, fun _ => rfl⟩, fun _ => rfl⟩
  · rename_i h
    exact ⟨⟨fun e => (by cases e), fun e => absurd e h⟩, fun e => (by cases e)⟩
theorem pair_same (m1 m2 : Int) (h1 : 0 ≤ m1) (g1 : m1 ≤ 1000000000) (h2 : 0 ≤ m2) (g2 : m2 ≤ 1000000000) (l : List UInt8) : pairI m1 m2 l = pairS m1 m2 l := by
  rcases index_at 58 l with ⟨i1, i2⟩ | ⟨a, b, rfl, i2, i3⟩
  · unfold pairI pairS
    rw [cut_miss 58 i2, splitL_no 58 l i2, if_neg (fun h => by cases h.1)]
  · unfold pairI pairS
    rw [cut_hit 58 i2, splitL_hit 58 a b i2]
    by_cases hb : (58 : UInt8) ∈ b
    · have hz : (numI b m2).2 ≠ true := fun e => by
        have := ((numI_ok b m2 h2 g2).1.1 e).1
        rw [numS_no (by decide) hb] at this
        cases this
      rw [if_neg (fun h => hz h.2.2)]
      obtain ⟨b1, b2, rfl, j2⟩ : ∃ b1 b2, b = b1 ++ 58 :: b2 ∧ (58 : UInt8) ∉ b1 := by
        rcases index_at 58 b with ⟨k1, k2⟩ | ⟨b1, b2, k1, k2, k3⟩
        · exact absurd hb k2
        · exact ⟨b1, b2, k1, k2⟩
      rw [splitL_hit 58 b1 b2 j2]
      cases hs : splitL 58 b2 with
      | nil =>
        have : ∀ l : List UInt8, splitL 58 l ≠ [] := fun l => by
          cases l with
          | nil => simp [splitL]
          | cons x l =>
            rw [splitL]
            split
            · simp
            · split <;> simp
        exact absurd hs (this b2)
      | cons p r => rfl
    · rw [splitL_no 58 b hb]
      obtain ⟨a1, a2⟩ := numI_ok a m1 h1 g1
      obtain ⟨b1, b2⟩ := numI_ok b m2 h2 g2
      simp only
      by_cases hk : ((numS a).2 = true ∧ (numS a).1 ≤ m1) ∧ ((numS b).2 = true ∧ (numS b).1 ≤ m2)
      · rw [if_pos hk, if_pos ⟨trivial, a1.2 hk.1, b1.2 hk.2⟩, a2 (a1.2 hk.1), b2 (b1.2 hk.2)]
      · rw [if_neg hk, if_neg (fun h => hk ⟨a1.1 h.2.1, b1.1 h.2.2⟩)]
end Go.Proofs.YthlcmiediedcfaaDoor
