/-
Grounds read from a text, plainly: by the reference and by the program. No condition.
-/
import Derived.Test.YthlcmiediedcfaaDoorTX4
import Derived.Test.YthlcmiediedcfaaDoorRDV
set_option linter.unusedVariables false
set_option linter.unusedSimpArgs false
set_option maxRecDepth 100000
namespace Go.Proofs.YthlcmiediedcfaaDoor
/-- The reference's reading of a word: the height, and whether there is a gully. -/
def cellP (w : List UInt8) : Option (Int × Bool) :=
  if 1 < w.length ∧ w.getLast? = some 103 then (if (numS w.dropLast).2 = true ∧ (numS w.dropLast).1 ≤ 200 then some ((numS w.dropLast).1, true) else none)
  else (if (numS w).2 = true ∧ (numS w).1 ≤ 200 then some ((numS w).1, false) else none)
/-- What is cut off a word's end. -/
def cutG (w : List UInt8) : List UInt8 × Bool := if w.getLast? = some 103 then (w.dropLast, true) else (w, false)
/-- The program's reading. -/
def cellI (w : List UInt8) : Option (Int × Bool) := if (numI (cutG w).1 200).2 = true then some ((numI (cutG w).1 200).1, (cutG w).2) else none
theorem numS_nil : (numS []).2 = false := rfl
theorem cell_same (w : List UInt8) : cellI w = cellP w := by
  by_cases h : w.getLast? = some 103
  · have hc : cutG w = (w.dropLast, true) := if_pos h
    have hI : cellI w = if (numI w.dropLast 200).2 = true then some ((numI w.dropLast 200).1, true) else none := by rw [cellI, hc]
    obtain ⟨i1, i2⟩ := numI_ok w.dropLast 200 (by decide) (by decide)
    rw [hI]
    by_cases h1 : 1 < w.length
    · have hP : cellP w = (if (numS w.dropLast).2 = true ∧ (numS w.dropLast).1 ≤ 200 then some ((numS w.dropLast).1, true) else none) := if_pos ⟨h1, h⟩
      rw [hP]
      by_cases h2 : (numI w.dropLast 200).2 = true
      · rw [if_pos h2, if_pos (i1.1 h2), i2 h2]
      · rw [if_neg h2, if_neg (fun e => h2 (i1.2 e))]
    · have hd : w.dropLast = [] := by
        cases w with
        | nil => rfl
        | cons a r =>
          cases r with
          | nil => rfl
          | cons b r => simp at h1
      have hw : w = [103] := by
        cases w with
        | nil => cases h
        | cons a r =>
          cases r with
          | nil => simp at h; rw [h]
          | cons b r => simp at h1
      have hP : cellP w = (if (numS w).2 = true ∧ (numS w).1 ≤ 200 then some ((numS w).1, false) else none) := if_neg (fun e => h1 e.1)
      rw [hP, if_neg, if_neg]
      · rw [hw]
        intro e
        exact absurd e.1 (by decide)
      · rw [hd] at i1 ⊢
        intro e
        have := (i1.1 e).1
        cases this
  · have hc : cutG w = (w, false) := if_neg h
    have hI : cellI w = if (numI w 200).2 = true then some ((numI w 200).1, false) else none := by rw [cellI, hc]
    have hP : cellP w = (if (numS w).2 = true ∧ (numS w).1 ≤ 200 then some ((numS w).1, false) else none) := if_neg (fun e => h e.2)
    obtain ⟨i1, i2⟩ := numI_ok w 200 (by decide) (by decide)
    rw [hI, hP]
    by_cases h2 : (numI w 200).2 = true
    · rw [if_pos h2, if_pos (i1.1 h2), i2 h2]
    · rw [if_neg h2, if_neg (fun e => h2 (i1.2 e))]
theorem numS_dec_of {l : List UInt8} (h : (numS l).2 = true) : Lib.decDigits (numS l).1.toNat = l := by
  obtain ⟨-, h2, h3⟩ := numS_ok h
  rw [h3, Int.toNat_natCast]
  exact dec_val l h2
/-- A word that is read is the one that is written. -/
theorem cellP_word {w : List UInt8} {c : Int × Bool} (h : cellP w = some c) : w = Lib.decDigits c.1.toNat ++ (if c.2 = true then [103] else []) ∧ 0 ≤ c.1 ∧ c.1 ≤ 200 := by
  unfold cellP at h
  split at h
  · rename_i hk
    split at h
    · rename_i h2
      obtain rfl := Option.some.inj h
      show w = Lib.decDigits (numS w.dropLast).1.toNat ++ [103] ∧ _
      rw [numS_dec_of h2.1]
      refine ⟨?_, ?_, h2.2⟩
      · obtain ⟨ys, e⟩ := List.getLast?_eq_some_iff.1 hk.2
        rw [e]
        simp
      · obtain ⟨-, -, h3⟩ := numS_ok h2.1
        rw [h3]
        simp
    · cases h
  · split at h
    · rename_i h2
      obtain rfl := Option.some.inj h
      simp only
      rw [numS_dec_of h2.1]
      refine ⟨by simp, ?_, h2.2⟩
      obtain ⟨-, -, h3⟩ := numS_ok h2.1
      rw [h3]
      simp
    · cases h
abbrev St := List Int × List Cell
def stepC (y x : Nat) (st : St) (c : Int × Bool) : St := (st.1.set (y * 9 + x) c.1, if c.2 = true then st.2 ++ [⟨(x : Int), (y : Int)⟩] else st.2)
def rowR (y : Nat) : List (List UInt8) → Nat → St → Option St
  | [], _, st => some st
  | w :: ws, x, st => match cellP w with
    | none => none
    | some c => rowR y ws (x + 1) (stepC y x st c)
theorem rowR_snoc (y : Nat) : ∀ (ws : List (List UInt8)) (w : List UInt8) (x : Nat) (st st' : St) (c : Int × Bool), rowR y ws x st = some st' → cellP w = some c → rowR y (ws ++ [w]) x st = some (stepC y (x + ws.length) st' c)
  | [], w, x, st, st', c, h, hc => by
    rw [rowR] at h
    obtain rfl := Option.some.inj h
    rw [List.nil_append, rowR, hc]
    rfl
  | v :: ws, w, x, st, st', c, h, hc => by
    rw [rowR] at h
    rw [List.cons_append, rowR]
    cases hv : cellP v with
    | none => rw [hv] at h; cases h
    | some d =>
      rw [hv] at h
      have := rowR_snoc y ws w (x + 1) _ st' c h hc
      simp only
      rw [this, List.length_cons, show x + 1 + ws.length = x + (ws.length + 1) by omega]
theorem rowR_none (y : Nat) : ∀ (ws : List (List UInt8)) (w : List UInt8) (x : Nat) (st : St), w ∈ ws → cellP w = none → rowR y ws x st = none
  | v :: ws, w, x, st, h, hc => by
    rw [rowR]
    rcases List.mem_cons.1 h with rfl | h
    · rw [hc]
    · cases cellP v with
      | none => rfl
      | some d => exact rowR_none y ws w (x + 1) _ h hc
/-- Rows of n words each. -/
def gridR (n : Nat) : List (List UInt8) → Nat → St → Option St
  | [], _, st => some st
  | l :: ls, y, st => if (splitL 32 l).length = n then (match rowR y (splitL 32 l) 0 st with
    | none => none
    | some s => gridR n ls (y + 1) s) else none
theorem gridR_snoc (n : Nat) : ∀ (ls : List (List UInt8)) (l : List UInt8) (y : Nat) (st st' st2 : St), gridR n ls y st = some st' → (splitL 32 l).length = n → rowR (y + ls.length) (splitL 32 l) 0 st' = some st2 → gridR n (ls ++ [l]) y st = some st2
  | [], l, y, st, st', st2, h, hn, hr => by
    rw [gridR] at h
    obtain rfl := Option.some.inj h
    rw [List.nil_append, gridR, if_pos hn]
    rw [List.length_nil, Nat.add_zero] at hr
    rw [hr]
    rfl
  | v :: ls, l, y, st, st', st2, h, hn, hr => by
    rw [gridR] at h
    rw [List.cons_append, gridR]
    split at h
    · rename_i hv
      rw [if_pos hv]
      cases hw : rowR y (splitL 32 v) 0 st with
      | none => rw [hw] at h; cases h
      | some s =>
        rw [hw] at h
        exact gridR_snoc n ls l (y + 1) s st' st2 h hn (by rw [List.length_cons, show y + (ls.length + 1) = y + 1 + ls.length by omega] at hr; exact hr)
    · cases h
/-- A row that is not as the others. -/
theorem gridR_len (n : Nat) : ∀ (ls : List (List UInt8)) (l : List UInt8) (y : Nat) (st : St), l ∈ ls → (splitL 32 l).length ≠ n → gridR n ls y st = none
  | v :: ls, l, y, st, h, hn => by
    rw [gridR]
    rcases List.mem_cons.1 h with rfl | h
    · rw [if_neg hn]
    · split
      · cases rowR y (splitL 32 v) 0 st with
        | none => rfl
        | some s => exact gridR_len n ls l (y + 1) s h hn
      · rfl
/-- A row with a word that cannot be read. -/
theorem gridR_word (n : Nat) : ∀ (ls : List (List UInt8)) (l w : List UInt8) (y : Nat) (st : St), l ∈ ls → w ∈ splitL 32 l → cellP w = none → gridR n ls y st = none
  | v :: ls, l, w, y, st, h, hw, hc => by
    rw [gridR]
    rcases List.mem_cons.1 h with rfl | h
    · split
      · rw [rowR_none y _ w 0 st hw hc]
      · rfl
    · split
      · cases rowR y (splitL 32 v) 0 st with
        | none => rfl
        | some s => exact gridR_word n ls l w (y + 1) s h hw hc
      · rfl
/-- The program's: rows of n words at most. -/
def gridI (n : Nat) : List (List UInt8) → Nat → St → Option St
  | [], _, st => some st
  | l :: ls, y, st => if (splitL 32 l).length ≤ n then (match rowR y (splitL 32 l) 0 st with
    | none => none
    | some s => gridI n ls (y + 1) s) else none
theorem gridI_snoc (n : Nat) : ∀ (ls : List (List UInt8)) (l : List UInt8) (y : Nat) (st st' st2 : St), gridI n ls y st = some st' → (splitL 32 l).length ≤ n → rowR (y + ls.length) (splitL 32 l) 0 st' = some st2 → gridI n (ls ++ [l]) y st = some st2
  | [], l, y, st, st', st2, h, hn, hr => by
    rw [gridI] at h
    obtain rfl := Option.some.inj h
    rw [List.nil_append, gridI, if_pos hn]
    rw [List.length_nil, Nat.add_zero] at hr
    rw [hr]
    rfl
  | v :: ls, l, y, st, st', st2, h, hn, hr => by
    rw [gridI] at h
    rw [List.cons_append, gridI]
    split at h
    · rename_i hv
      rw [if_pos hv]
      cases hw : rowR y (splitL 32 v) 0 st with
      | none => rw [hw] at h; cases h
      | some s =>
        rw [hw] at h
        exact gridI_snoc n ls l (y + 1) s st' st2 h hn (by rw [List.length_cons, show y + (ls.length + 1) = y + 1 + ls.length by omega] at hr; exact hr)
    · cases h
theorem gridI_len (n : Nat) : ∀ (ls : List (List UInt8)) (l : List UInt8) (y : Nat) (st : St), l ∈ ls → ¬ (splitL 32 l).length ≤ n → gridI n ls y st = none
  | v :: ls, l, y, st, h, hn => by
    rw [gridI]
    rcases List.mem_cons.1 h with rfl | h
    · rw [if_neg hn]
    · split
      · cases rowR y (splitL 32 v) 0 st with
        | none => rfl
        | some s => exact gridI_len n ls l (y + 1) s h hn
      · rfl
theorem gridI_word (n : Nat) : ∀ (ls : List (List UInt8)) (l w : List UInt8) (y : Nat) (st : St), l ∈ ls → w ∈ splitL 32 l → cellP w = none → gridI n ls y st = none
  | v :: ls, l, w, y, st, h, hw, hc => by
    rw [gridI]
    rcases List.mem_cons.1 h with rfl | h
    · split
      · rw [rowR_none y _ w 0 st hw hc]
      · rfl
    · split
      · cases rowR y (splitL 32 v) 0 st with
        | none => rfl
        | some s => exact gridI_word n ls l w (y + 1) s h hw hc
      · rfl
theorem grid_to_I (n : Nat) : ∀ (ls : List (List UInt8)) (y : Nat) (st st' : St), gridR n ls y st = some st' → gridI n ls y st = some st'
  | [], y, st, st', h => h
  | v :: ls, y, st, st', h => by
    rw [gridR] at h
    rw [gridI]
    split at h
    · rename_i hv
      rw [if_pos (by omega)]
      cases hw : rowR y (splitL 32 v) 0 st with
      | none => rw [hw] at h; cases h
      | some s =>
        rw [hw] at h
        exact grid_to_I n ls (y + 1) s st' h
    · cases h
theorem grid_to_R (n : Nat) : ∀ (ls : List (List UInt8)) (y : Nat) (st st' : St), gridI n ls y st = some st' → (∀ l ∈ ls, (splitL 32 l).length = n) → gridR n ls y st = some st'
  | [], y, st, st', h, _ => h
  | v :: ls, y, st, st', h, hl => by
    rw [gridI] at h
    rw [gridR, if_pos (hl v (by simp))]
    split at h
    · cases hw : rowR y (splitL 32 v) 0 st with
      | none => rw [hw] at h; cases h
      | some s =>
        rw [hw] at h
        exact grid_to_R n ls (y + 1) s st' h (fun l hm => hl l (by simp [hm]))
    · cases h
/-- What a state holds of a point. -/
def valC (st : St) (y x : Nat) : Int × Bool := (st.1.getD (y * 9 + x) 0, decide ((⟨(x : Int), (y : Int)⟩ : Cell) ∈ st.2))
theorem stepC_len (y x : Nat) (st : St) (c : Int × Bool) : (stepC y x st c).1.length = st.1.length := by simp [stepC]
theorem stepC_oth {y x y' x' : Nat} (st : St) (c : Int × Bool) (hx : x < 9) (hx' : x' < 9) (h : ¬ (y' = y ∧ x' = x)) : valC (stepC y x st c) y' x' = valC st y' x' := by
  have hne : y * 9 + x ≠ y' * 9 + x' := by omega
  have hc : (⟨(x' : Int), (y' : Int)⟩ : Cell) ≠ ⟨(x : Int), (y : Int)⟩ := by
    intro e
    injection e with e1 e2
    omega
  unfold valC stepC
  congr 1
  · rw [List.getD_eq_getElem?_getD, List.getD_eq_getElem?_getD, List.getElem?_set_ne hne]
  · by_cases h2 : c.2 = true
    · simp only [if_pos h2, List.mem_append, List.mem_singleton, hc, or_false]
    · simp only [if_neg h2]
theorem stepC_at {y x : Nat} (st : St) (c : Int × Bool) (hx : x < 9) (hy : y < 9) (hl : st.1.length = 81) (hn : (⟨(x : Int), (y : Int)⟩ : Cell) ∉ st.2) : valC (stepC y x st c) y x = c := by
  unfold valC stepC
  apply Prod.ext
  · simp only
    rw [List.getD_eq_getElem?_getD, List.getElem?_set_self (by omega)]
    rfl
  · simp only
    by_cases h2 : c.2 = true
    · rw [if_pos h2, h2]; simp
    · rw [if_neg h2]
      simp only [hn, decide_false]
      simpa using h2
theorem rowR_val (y : Nat) (hy : y < 9) : ∀ (ws : List (List UInt8)) (x : Nat) (st st' : St), rowR y ws x st = some st' → x + ws.length ≤ 9 → st.1.length = 81 → (∀ x' : Nat, x ≤ x' → (⟨(x' : Int), (y : Int)⟩ : Cell) ∉ st.2) →
    st'.1.length = 81 ∧ (∀ y' x' : Nat, x' < 9 → (y' ≠ y ∨ x' < x) → valC st' y' x' = valC st y' x') ∧ (∀ (k : Nat) (hk : k < ws.length), cellP ws[k] = some (valC st' y (x + k))) ∧ (∀ (y' x' : Nat), y' ≠ y → (⟨(x' : Int), (y' : Int)⟩ : Cell) ∈ st'.2 → (⟨(x' : Int), (y' : Int)⟩ : Cell) ∈ st.2)
  | [], x, st, st', h, hx, hl, hn => by
    rw [rowR] at h
    obtain rfl := Option.some.inj h
    exact ⟨hl, fun _ _ _ _ => rfl, fun k hk => by simp at hk, fun _ _ _ h => h⟩
  | w :: ws, x, st, st', h, hx, hl, hn => by
    rw [rowR] at h
    rw [List.length_cons] at hx
    cases hw : cellP w with
    | none => rw [hw] at h; cases h
    | some c =>
      rw [hw] at h
      have hmem : ∀ (y' x' : Nat), ¬ (y' = y ∧ x' = x) → (⟨(x' : Int), (y' : Int)⟩ : Cell) ∈ (stepC y x st c).2 → (⟨(x' : Int), (y' : Int)⟩ : Cell) ∈ st.2 := by
        intro y' x' hne hm
        unfold stepC at hm
        simp only at hm
        by_cases h2 : c.2 = true
        · rw [if_pos h2] at hm
          rcases List.mem_append.1 hm with hm | hm
          · exact hm
          · exfalso
            have := List.mem_singleton.1 hm
            injection this with e1 e2
            exact hne ⟨by omega, by omega⟩
        · rw [if_neg h2] at hm
          exact hm
      obtain ⟨a1, a2, a3, a4⟩ := rowR_val y hy ws (x + 1) (stepC y x st c) st' h (by omega) (by rw [stepC_len]; exact hl) (fun x' hx' hm => hn x' (by omega) (hmem y x' (by omega) hm))
      refine ⟨a1, fun y' x' hx' ho => ?_, fun k hk => ?_, fun y' x' hne hm => hmem y' x' (fun e => hne e.1) (a4 y' x' hne hm)⟩
      · rw [a2 y' x' hx' (by omega), stepC_oth st c (by omega) hx' (by omega)]
      · cases k with
        | zero =>
          rw [List.getElem_cons_zero, Nat.add_zero, a2 y x (by omega) (by omega), stepC_at st c (by omega) hy hl (hn x (Nat.le_refl _))]
          exact hw
        | succ k =>
          have := a3 k (by simpa using hk)
          rw [List.getElem_cons_succ, this, show x + 1 + k = x + (k + 1) by omega]
theorem gridR_val (n : Nat) (hn9 : n ≤ 9) : ∀ (ls : List (List UInt8)) (y : Nat) (st st' : St), gridR n ls y st = some st' → y + ls.length ≤ 9 → st.1.length = 81 → (∀ y' x' : Nat, y ≤ y' → (⟨(x' : Int), (y' : Int)⟩ : Cell) ∉ st.2) →
    st'.1.length = 81 ∧ (∀ y' x' : Nat, x' < 9 → y' < y → valC st' y' x' = valC st y' x') ∧ (∀ (i : Nat) (hi : i < ls.length), (splitL 32 ls[i]).length = n ∧ ∀ (k : Nat) (hk : k < (splitL 32 ls[i]).length), cellP (splitL 32 ls[i])[k] = some (valC st' (y + i) k))
  | [], y, st, st', h, hx, hl, hn => by
    rw [gridR] at h
    obtain rfl := Option.some.inj h
    exact ⟨hl, fun _ _ _ _ => rfl, fun i hi => by simp at hi⟩
  | l :: ls, y, st, st', h, hx, hl, hn => by
    rw [gridR] at h
    rw [List.length_cons] at hx
    split at h
    · rename_i hlen
      cases hw : rowR y (splitL 32 l) 0 st with
      | none => rw [hw] at h; cases h
      | some s =>
        rw [hw] at h
        obtain ⟨a1, a2, a3, a4⟩ := rowR_val y (by omega) (splitL 32 l) 0 st s hw (by omega) hl (fun x' _ => hn y x' (Nat.le_refl _))
        obtain ⟨b1, b2, b3⟩ := gridR_val n hn9 ls (y + 1) s st' h (by omega) a1 (fun y' x' hy' hm => hn y' x' (by omega) (a4 y' x' (by omega) hm))
        refine ⟨b1, fun y' x' hx' hy' => ?_, fun i hi => ?_⟩
        · rw [b2 y' x' hx' (by omega), a2 y' x' hx' (by omega)]
        · cases i with
          | zero =>
            simp only [List.getElem_cons_zero, Nat.add_zero]
            refine ⟨hlen, fun k hk => ?_⟩
            rw [a3 k hk, Nat.zero_add, b2 y k (by omega) (by omega)]
          | succ i =>
            have := b3 i (by simpa using hi)
            simp only [List.getElem_cons_succ]
            rw [show y + (i + 1) = y + 1 + i by omega]
            exact this
    · cases h
theorem join_split (c : UInt8) : ∀ l : List UInt8, Lib.join (splitL c l) [c] = l
  | [] => by rw [splitL, Lib.join_one]
  | b :: l => by
    have ih := join_split c l
    rw [splitL]
    by_cases hb : b = c
    · rw [if_pos hb]
      cases hs : splitL c l with
      | nil => rw [hs, Lib.join_nil] at ih; subst ih; cases hs
      | cons p r =>
        rw [hs, Lib.join_cons] at ih
        rw [Lib.join_cons]
        have e : Lib.joinTail [c] (p :: r) = c :: (p ++ Lib.joinTail [c] r) := by simp [Lib.joinTail]
        rw [e, ih, hb]
        rfl
    · rw [if_neg hb]
      cases hs : splitL c l with
      | nil =>
        rw [hs, Lib.join_nil] at ih
        subst ih
        cases hs
      | cons p r =>
        rw [hs, Lib.join_cons] at ih
        simp only
        rw [Lib.join_cons, List.cons_append, ih]
theorem join_close (c : UInt8) : ∀ ls : List (List UInt8), Lib.join (ls ++ [[]]) [c] = ls.flatMap (· ++ [c])
  | [] => by rw [List.nil_append, Lib.join_one]; rfl
  | l :: ls => by
    have ih := join_close c ls
    rw [List.cons_append, Lib.join_cons, List.flatMap_cons]
    cases hs : ls ++ [[]] with
    | nil => simp at hs
    | cons p r =>
      rw [hs, Lib.join_cons] at ih
      have e : Lib.joinTail [c] (p :: r) = c :: (p ++ Lib.joinTail [c] r) := by simp [Lib.joinTail]
      rw [e, ih]
      simp
theorem gtN_flat (hs : List Int) (gl : List Cell) (nw : Nat) : ∀ m, gtN hs gl nw m = ((List.range m).map fun y => growN hs gl nw y nw).flatMap (· ++ [10])
  | 0 => rfl
  | m + 1 => by rw [gtN, gtN_flat hs gl nw m, List.range_succ, List.map_append, List.flatMap_append]; simp
theorem split_flat (c : UInt8) : ∀ ls : List (List UInt8), (∀ l ∈ ls, c ∉ l) → splitL c (ls.flatMap (· ++ [c])) = ls ++ [[]]
  | [], _ => rfl
  | l :: ls, h => by
    rw [List.flatMap_cons, List.append_assoc, List.singleton_append, splitL_hit c l _ (h l (by simp)), split_flat c ls (fun m hm => h m (by simp [hm]))]
    rfl
theorem gword_byte (hs : List Int) (gl : List Cell) (y x : Nat) : ∀ b ∈ gword hs gl y x, b = 103 ∨ digB b = true := by
  intro b hb
  unfold gword at hb
  rcases List.mem_append.1 hb with hb | hb
  · exact .inr ((canon_dec _).1.dig b hb)
  · split at hb
    · exact .inl (List.mem_singleton.1 hb)
    · cases hb
theorem digB_ne {b c : UInt8} (h : b = 103 ∨ digB b = true) (hc : c.toNat < 48) : b ≠ c := by
  rcases h with rfl | h
  · intro e; subst e; exact absurd hc (by decide)
  · have := digB_true.1 h
    intro e; subst e; omega
theorem grow_eq (hs : List Int) (gl : List Cell) (n y : Nat) : growN hs gl n y n = Lib.join ((List.range n).map (gword hs gl y)) [32] := by
  unfold growN joinN
  rw [List.take_of_length_le (by simp)]
theorem grow_split (hs : List Int) (gl : List Cell) (n y : Nat) (hn : 1 ≤ n) : splitL 32 (growN hs gl n y n) = (List.range n).map (gword hs gl y) := by
  rw [grow_eq]
  cases hr : (List.range n).map (gword hs gl y) with
  | nil =>
    have := congrArg List.length hr
    simp at this
    omega
  | cons p r =>
    refine splitL_join r p (fun w hw hm => ?_)
    rw [← hr] at hw
    obtain ⟨x, -, rfl⟩ := List.mem_map.1 hw
    exact digB_ne (gword_byte hs gl y x _ hm) (by decide) rfl
theorem grow_no10 (hs : List Int) (gl : List Cell) (n y : Nat) : (10 : UInt8) ∉ growN hs gl n y n := by
  rw [grow_eq]
  have key : ∀ (r : List (List UInt8)), (∀ w ∈ r, (10 : UInt8) ∉ w) → (10 : UInt8) ∉ Lib.join r [32] := by
    intro r
    induction r with
    | nil => intro _ h; rw [Lib.join_nil] at h; cases h
    | cons x r ih =>
      intro h
      have ih := ih (fun w hw => h w (by simp [hw]))
      rw [Lib.join_cons]
      cases r with
      | nil => simpa [Lib.joinTail] using h x (by simp)
      | cons y r =>
        rw [Lib.join_cons] at ih
        have e : Lib.joinTail [32] (y :: r) = 32 :: (y ++ Lib.joinTail [32] r) := by simp [Lib.joinTail]
        rw [e]
        intro hm
        rcases List.mem_append.1 hm with hm | hm
        · exact h x (by simp) hm
        · rcases List.mem_cons.1 hm with hm | hm
          · cases hm
          · exact ih hm
  refine key _ (fun w hw hm => ?_)
  obtain ⟨x, -, rfl⟩ := List.mem_map.1 hw
  exact digB_ne (gword_byte hs gl y x _ hm) (by decide) rfl
end Go.Proofs.YthlcmiediedcfaaDoor
