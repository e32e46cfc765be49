/-
Lists of signed numbers read from texts, plainly: by the reference and by the program. No condition.
-/
import Derived.Lib.ParseIntBCases
import Derived.Lib.Fields
import Derived.Lib.Join
import Derived.Test.YthlcmiediedcfaaDoorRDS
set_option linter.unusedVariables false
set_option linter.unusedSimpArgs false
set_option maxRecDepth 100000
namespace Go.Proofs.YthlcmiediedcfaaDoor
/-- All of some texts, read by f. -/
def allF (f : List UInt8 → Option Int) : List (List UInt8) → Option (List Int)
  | [] => some []
  | w :: ws => match f w with
    | none => none
    | some r => (allF f ws).map (r :: ·)
theorem allF_snoc (f : List UInt8 → Option Int) : ∀ (ws : List (List UInt8)) (w : List UInt8) (rs : List Int) (r : Int), allF f ws = some rs → f w = some r → allF f (ws ++ [w]) = some (rs ++ [r])
  | [], w, rs, r, h, hr => by
    rw [allF] at h
    obtain rfl := Option.some.inj h
    rw [List.nil_append, allF, hr]
    rfl
  | x :: ws, w, rs, r, h, hr => by
    rw [allF] at h
    cases hx : f x with
    | none => rw [hx] at h; cases h
    | some y =>
      rw [hx] at h
      cases hw : allF f ws with
      | none => rw [hw] at h; cases h
      | some ys =>
        rw [hw] at h
        have h : y :: ys = rs := Option.some.inj h
        rw [List.cons_append, allF, hx]
        simp only
        rw [allF_snoc f ws w ys r hw hr, ← h]
        rfl
theorem allF_none (f : List UInt8 → Option Int) : ∀ (ws : List (List UInt8)) (w : List UInt8), w ∈ ws → f w = none → allF f ws = none
  | x :: ws, w, h, hr => by
    rw [allF]
    rcases List.mem_cons.1 h with rfl | h
    · rw [hr]
    · cases f x with
      | none => rfl
      | some y =>
        simp only
        rw [allF_none f ws w h hr]
        rfl
theorem allF_map (f : List UInt8 → Option Int) (g : Int → List UInt8) : ∀ xs : List Int, (∀ x ∈ xs, f (g x) = some x) → allF f (xs.map g) = some xs
  | [], _ => rfl
  | x :: xs, h => by
    rw [List.map_cons, allF, h x (by simp)]
    simp only
    rw [allF_map f g xs (fun y hy => h y (by simp [hy]))]
    rfl
/-- What the reference reads of a signed number. -/
def sgnS (l : List UInt8) : Int × Bool := if l.head? = some 45 then (-(numS l.tail).1, (numS l.tail).2 && decide (0 < (numS l.tail).1)) else numS l
def sgnF (l : List UInt8) : Option Int := if (sgnS l).2 = true then some (sgnS l).1 else none
/-- What the program reads of it. -/
def prsF (l : List UInt8) : Option Int := match Lib.parseIntB 64 l with
  | .ok n => some n
  | _ => none
theorem sgnF_of {l : List UInt8} {n : Int} (h : sgnS l = (n, true)) : sgnF l = some n := by rw [sgnF, h, if_pos rfl]
theorem sgnF_itoa {n : Int} (h : -100 ≤ n ∧ n ≤ 100) : sgnF (Lib.itoa n) = some n := by
  apply sgnF_of
  by_cases hn : n < 0
  · obtain ⟨a, rfl⟩ : ∃ a : Nat, n = -(a : Int) := ⟨n.natAbs, by omega⟩
    have : decide (0 < (a : Int)) = true := decide_eq_true (by omega)
    rw [Lib.itoa_neg a (by omega), sgnS, if_pos (show (45 :: Lib.decDigits a).head? = some 45 from rfl), List.tail_cons, numS_dec (by omega), this]
    rfl
  · obtain ⟨a, rfl⟩ : ∃ a : Nat, n = (a : Int) := ⟨n.toNat, by omega⟩
    obtain ⟨hc, -, -⟩ := canon_dec a
    rw [Lib.itoa_nonneg a, sgnS, if_neg, numS_dec (by omega)]
    intro h0
    have := hc.dig 45 (List.mem_of_mem_head? (by rw [h0]; rfl))
    exact absurd this (by decide)
theorem prsF_itoa {n : Int} (h : -100 ≤ n ∧ n ≤ 100) : prsF (Lib.itoa n) = some n := by
  by_cases hn : n < 0
  · obtain ⟨a, rfl⟩ : ∃ a : Nat, n = -(a : Int) := ⟨n.natAbs, by omega⟩
    obtain ⟨hc, hv, -⟩ := canon_dec a
    have hp := parseM_dig (Lib.decDigits a) 0 (2 ^ 64 - 1) hc.dig (by have : valF 0 (Lib.decDigits a) = a := hv; omega) (by omega) (by have : valF 0 (Lib.decDigits a) = a := hv; omega)
    have hv2 : valF 0 (Lib.decDigits a) = a := hv
    have hu : Lib.parseUintB 64 (Lib.decDigits a) = .ok a := by rw [Lib.parseUintB, if_neg hc.ne, hp, hv2]
    rw [Lib.itoa_neg a (by omega), prsF, Lib.parseIntB_minus, hu, Lib.signedC, if_neg (by omega)]
  · obtain ⟨a, rfl⟩ : ∃ a : Nat, n = (a : Int) := ⟨n.toNat, by omega⟩
    rw [Lib.itoa_nonneg a, prsF, parse_dec (by omega)]
/-- The bytes of a number are digits, or the sign at the head. -/
theorem itoa_byte {n : Int} (h : -100 ≤ n ∧ n ≤ 100) : Lib.itoa n ≠ [] ∧ ∀ b ∈ Lib.itoa n, b = 45 ∨ digB b = true := by
  by_cases hn : n < 0
  · obtain ⟨a, rfl⟩ : ∃ a : Nat, n = -(a : Int) := ⟨n.natAbs, by omega⟩
    obtain ⟨hc, -, -⟩ := canon_dec a
    rw [Lib.itoa_neg a (by omega)]
    refine ⟨by simp, fun b hb => ?_⟩
    rcases List.mem_cons.1 hb with rfl | hb
    · exact .inl rfl
    · exact .inr (hc.dig b hb)
  · obtain ⟨a, rfl⟩ : ∃ a : Nat, n = (a : Int) := ⟨n.toNat, by omega⟩
    obtain ⟨hc, -, -⟩ := canon_dec a
    rw [Lib.itoa_nonneg a]
    exact ⟨hc.ne, fun b hb => .inr (hc.dig b hb)⟩
theorem byte_facts {b : UInt8} (h : b = 45 ∨ digB b = true) : b ≠ 32 ∧ Lib.isSp b = false ∧ b.toNat < 128 := by
  have key : b.toNat = 45 ∨ (48 ≤ b.toNat ∧ b.toNat ≤ 57) := by
    rcases h with rfl | h
    · exact .inl rfl
    · exact .inr (digB_true.1 h)
  have ne : ∀ c : UInt8, c.toNat < 45 → b ≠ c := fun c hc e => by subst e; omega
  refine ⟨ne 32 (by decide), ?_, by omega⟩
  unfold Lib.isSp
  simp only [Bool.or_eq_false_iff, beq_eq_false_iff_ne]
  exact ⟨⟨⟨⟨⟨ne 9 (by decide), ne 10 (by decide)⟩, ne 11 (by decide)⟩, ne 12 (by decide)⟩, ne 13 (by decide)⟩, ne 32 (by decide)⟩
theorem splitL_join : ∀ (r : List (List UInt8)) (x : List UInt8), (∀ w ∈ x :: r, (32 : UInt8) ∉ w) → splitL 32 (Lib.join (x :: r) [32]) = x :: r
  | [], x, h => by
    rw [Lib.join_one]
    exact splitL_no 32 x (h x (by simp))
  | y :: r, x, h => by
    have ih := splitL_join r y (fun w hw => h w (by simp at hw ⊢; right; exact hw))
    rw [Lib.join_cons] at ih ⊢
    have e : Lib.joinTail [32] (y :: r) = 32 :: (y ++ Lib.joinTail [32] r) := by simp [Lib.joinTail]
    rw [e, splitL_hit 32 x _ (h x (by simp)), ih]
theorem fieldsGo_app : ∀ (x cur t : List UInt8), (∀ b ∈ x, Lib.isSp b = false) → Lib.fieldsGo cur (x ++ t) = Lib.fieldsGo (cur ++ x) t
  | [], cur, t, _ => by simp
  | b :: x, cur, t, h => by
    rw [List.cons_append, Lib.fieldsGo, h b (by simp), if_neg (by simp), fieldsGo_app x _ t (fun c hc => h c (by simp [hc]))]
    simp
theorem fields_join : ∀ (r : List (List UInt8)) (x : List UInt8), (∀ w ∈ x :: r, w ≠ [] ∧ ∀ b ∈ w, Lib.isSp b = false) → Lib.fieldsGo [] (Lib.join (x :: r) [32]) = x :: r
  | [], x, h => by
    rw [Lib.join_one]
    have := fieldsGo_app x [] [] (h x (by simp)).2
    rw [List.append_nil, List.nil_append] at this
    rw [this, Lib.fieldsGo, if_neg (by simpa using (h x (by simp)).1)]
  | y :: r, x, h => by
    have ih := fields_join r y (fun w hw => h w (by simp at hw ⊢; right; exact hw))
    rw [Lib.join_cons] at ih ⊢
    have e : Lib.joinTail [32] (y :: r) = 32 :: (y ++ Lib.joinTail [32] r) := by simp [Lib.joinTail]
    rw [e, fieldsGo_app x [] _ (h x (by simp)).2, List.nil_append, Lib.fieldsGo, if_pos (by decide), if_neg (by simpa using (h x (by simp)).1), ih]
/-- What both return of levels, p telling which are levels. -/
def rdLevS (p : List Int → Bool) (l : List UInt8) : List Int × Int := match allF sgnF (if l = [] then [] else splitL 32 l) with
  | some xs => if p xs = true ∧ Lib.join (xs.map Lib.itoa) [32] = l then (xs, 0) else ([], 5)
  | none => ([], 5)
def rdLevI (p : List Int → Bool) (ws : List (List UInt8)) (l : List UInt8) : List Int × Int := match allF prsF ws with
  | some xs => if p xs = true ∧ Lib.join (xs.map Lib.itoa) [32] = l then (xs, 0) else ([], 5)
  | none => ([], 5)
theorem join_ascii {xs : List Int} (h : ∀ n ∈ xs, -100 ≤ n ∧ n ≤ 100) : ∀ b ∈ Lib.join (xs.map Lib.itoa) [32], b.toNat < 128 := by
  have key : ∀ (r : List (List UInt8)) (x : List UInt8), (∀ w ∈ x :: r, ∀ b ∈ w, b.toNat < 128) → ∀ b ∈ Lib.join (x :: r) [32], b.toNat < 128 := by
    intro r
    induction r with
    | nil => intro x h; rw [Lib.join_one]; exact h x (by simp)
    | cons y r ih =>
      intro x h
      have ih := ih y (fun w hw => h w (by simp at hw ⊢; right; exact hw))
      rw [Lib.join_cons] at ih ⊢
      have e : Lib.joinTail [32] (y :: r) = 32 :: (y ++ Lib.joinTail [32] r) := by simp [Lib.joinTail]
      rw [e]
      intro b hb
      rcases List.mem_append.1 hb with hb | hb
      · exact h x (by simp) b hb
      · rcases List.mem_cons.1 hb with rfl | hb
        · decide
        · exact ih b hb
  cases xs with
  | nil => intro b hb; rw [List.map_nil, Lib.join_nil] at hb; cases hb
  | cons x xs =>
    rw [List.map_cons]
    refine key _ _ (fun w hw b hb => ?_)
    rw [← List.map_cons] at hw
    obtain ⟨n, hn, rfl⟩ := List.mem_map.1 hw
    exact (byte_facts ((itoa_byte (h n hn)).2 b hb)).2.2
theorem rdLev_same (p : List Int → Bool) (hp : ∀ xs, p xs = true → ∀ n ∈ xs, -100 ≤ n ∧ n ≤ 100) (l : List UInt8) (ws : List (List UInt8)) (hws : (∀ b ∈ l, b.toNat < 128) → ws = Lib.fields l) : rdLevI p ws l = rdLevS p l := by
  by_cases hk : ∃ xs, p xs = true ∧ Lib.join (xs.map Lib.itoa) [32] = l
  · obtain ⟨xs, h1, rfl⟩ := hk
    have hb := hp xs h1
    have hw := hws (join_ascii hb)
    have e1 : (if Lib.join (xs.map Lib.itoa) [32] = [] then [] else splitL 32 (Lib.join (xs.map Lib.itoa) [32])) = xs.map Lib.itoa := by
      cases xs with
      | nil => rfl
      | cons x xs =>
        rw [List.map_cons, splitL_join, if_neg]
        · rw [Lib.join_cons]
          intro h0
          exact (itoa_byte (hb x (by simp))).1 (List.append_eq_nil_iff.1 h0).1
        · intro w hw2 hm
          rw [← List.map_cons] at hw2
          obtain ⟨n, hn, rfl⟩ := List.mem_map.1 hw2
          exact (byte_facts ((itoa_byte (hb n hn)).2 _ hm)).1 rfl
    have e2 : ws = xs.map Lib.itoa := by
      rw [hw, Lib.fields]
      cases xs with
      | nil => rfl
      | cons x xs =>
        rw [List.map_cons]
        refine fields_join _ _ (fun w hw2 => ?_)
        rw [← List.map_cons] at hw2
        obtain ⟨n, hn, rfl⟩ := List.mem_map.1 hw2
        exact ⟨(itoa_byte (hb n hn)).1, fun b hb2 => (byte_facts ((itoa_byte (hb n hn)).2 b hb2)).2.1⟩
    unfold rdLevI rdLevS
    rw [e1, e2, allF_map prsF Lib.itoa xs (fun n hn => prsF_itoa (hb n hn)), allF_map sgnF Lib.itoa xs (fun n hn => sgnF_itoa (hb n hn))]
  · have a1 : rdLevI p ws l = ([], 5) := by
      unfold rdLevI
      split
      · rw [if_neg (fun h => hk ⟨_, h⟩)]
      · rfl
    have a2 : rdLevS p l = ([], 5) := by
      unfold rdLevS
      split
      · rw [if_neg (fun h => hk ⟨_, h⟩)]
      · rfl
    rw [a1, a2]
end Go.Proofs.YthlcmiediedcfaaDoor
