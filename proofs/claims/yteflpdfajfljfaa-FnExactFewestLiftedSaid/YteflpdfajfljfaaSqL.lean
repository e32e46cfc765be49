/-
Squares in plain lists: which slabs lie rightly, which slab covers a place, where joints are. Nothing is proved here of the program itself.
-/
import Derived.Test.YteflpdfajfljfaaGen
set_option linter.unusedVariables false
set_option linter.unusedSimpArgs false
set_option maxRecDepth 100000
namespace Go.Proofs.Yteflpdfajfljfaa
def liesB (w h : Int) (s : Slab) : Bool := decide (0 ≤ s.x ∧ 0 ≤ s.y ∧ 1 ≤ s.w ∧ 1 ≤ s.h ∧ s.x + s.w ≤ w ∧ s.y + s.h ≤ h)
def covB (s : Slab) (x y : Int) : Bool := decide (s.x ≤ x ∧ x < s.x + s.w ∧ s.y ≤ y ∧ y < s.y + s.h)
def meetsB (s t : Slab) : Bool := decide (s.x < t.x + t.w ∧ t.x < s.x + s.w ∧ s.y < t.y + t.h ∧ t.y < s.y + s.h)
def beforeB (a b : Slab) : Bool := decide (a.y < b.y ∨ a.y = b.y ∧ a.x < b.x)
/-- Which slab covers a place, -1 for none. -/
def atI (sl : List Slab) (x y : Int) : Int := findI (fun s => covB s x y) sl
def s0 : Slab := ⟨0, 0, 0, 0⟩
/-- The k-th slab lies within, behind the one before it, and meets none of those before it. -/
def slabOk (w h : Int) (sl : List Slab) (k : Nat) : Bool :=
  liesB w h (sl.getD k s0) && (decide (k = 0) || beforeB (sl.getD (k - 1) s0) (sl.getD k s0)) && !(sl.take k).any (fun t => meetsB (sl.getD k s0) t)
def slabsOk (w h : Int) (sl : List Slab) : Nat → Bool
  | 0 => true
  | k + 1 => slabsOk w h sl k && slabOk w h sl k
def edgeB (n : Int) : Bool := decide (1 ≤ n ∧ n ≤ 12)
def sqOk (w h : Int) (sl : List Slab) : Bool := edgeB w && edgeB h && decide (sl.length ≤ 60) && slabsOk w h sl sl.length
theorem findI_bounds {α : Type} (p : α → Bool) (xs : List α) : -1 ≤ findI p xs ∧ findI p xs < xs.length := by
  unfold findI
  cases h : xs.findIdx? p with
  | none => exact ⟨Int.le_refl _, by show (-1 : Int) < _; omega⟩
  | some i =>
    obtain ⟨hi, _⟩ := List.findIdx?_eq_some_iff_getElem.1 h
    simp; omega
theorem findI_append {α : Type} (p : α → Bool) (xs : List α) (x : α) : findI p (xs ++ [x]) = if findI p xs = -1 then (if p x = true then (xs.length : Int) else -1) else findI p xs := by
  unfold findI
  rw [List.findIdx?_append]
  cases h : xs.findIdx? p with
  | none =>
    cases hp : p x <;> simp [List.findIdx?_cons, hp]
  | some i => simp
theorem findI_neg {α : Type} (p : α → Bool) (xs : List α) : findI p xs = -1 ↔ ∀ x ∈ xs, p x = false := by
  unfold findI
  cases h : xs.findIdx? p with
  | none =>
    rw [List.findIdx?_eq_none_iff] at h
    simp
    intro x hx
    simpa using h x hx
  | some i =>
    obtain ⟨hi, hp, _⟩ := List.findIdx?_eq_some_iff_getElem.1 h
    constructor
    · intro h; simp at h
    · intro h; rw [h _ (List.getElem_mem hi)] at hp; cases hp
theorem take_succ_getD {α : Type} (xs : List α) (k : Nat) (d : α) (h : k < xs.length) : xs.take (k + 1) = xs.take k ++ [xs.getD k d] := by
  rw [List.take_succ_eq_append_getElem h]
  simp [List.getD_eq_getElem?_getD, h]
theorem atI_succ (sl : List Slab) (k : Nat) (hk : k < sl.length) (x y : Int) : atI (sl.take (k + 1)) x y = if atI (sl.take k) x y = -1 then (if covB (sl.getD k s0) x y = true then (k : Int) else -1) else atI (sl.take k) x y := by
  unfold atI
  rw [take_succ_getD sl k s0 hk, findI_append]
  simp [List.length_take, Nat.min_eq_left (Nat.le_of_lt hk)]
/-- Two slabs that lie within meet where both cover a place. -/
theorem meets_iff {w h : Int} {s t : Slab} (hs : liesB w h s = true) (ht : liesB w h t = true) : meetsB s t = true ↔ ∃ x y, covB s x y = true ∧ covB t x y = true := by
  simp only [liesB, meetsB, covB, decide_eq_true_eq] at *
  constructor
  · intro hm
    refine ⟨max s.x t.x, max s.y t.y, ?_, ?_⟩ <;> omega
  · rintro ⟨x, y, h1, h2⟩
    omega
theorem slabsOk_at {w h : Int} {sl : List Slab} {n : Nat} (hn : slabsOk w h sl n = true) {k : Nat} (hk : k < n) : slabOk w h sl k = true := by
  induction n with
  | zero => omega
  | succ n ih =>
    rw [slabsOk, Bool.and_eq_true] at hn
    by_cases h : k = n
    · subst h; exact hn.2
    · exact ih hn.1 (by omega)
theorem slabsOk_no {w h : Int} {sl : List Slab} {k n : Nat} (hk : k < n) (hf : slabOk w h sl k = false) : slabsOk w h sl n = false := by
  cases hh : slabsOk w h sl n
  · rfl
  · rw [slabsOk_at hh hk] at hf; cases hf
theorem slabOk_lies {w h : Int} {sl : List Slab} {k : Nat} (hk : slabOk w h sl k = true) : liesB w h (sl.getD k s0) = true := by
  simp only [slabOk, Bool.and_eq_true] at hk
  exact hk.1.1
theorem slabsOk_lies {w h : Int} {sl : List Slab} {n : Nat} (hn : slabsOk w h sl n = true) (hl : n ≤ sl.length) : ∀ t ∈ sl.take n, liesB w h t = true := by
  intro t ht
  obtain ⟨i, hi, rfl⟩ := List.getElem_of_mem ht
  rw [List.length_take] at hi
  have := slabOk_lies (slabsOk_at hn (k := i) (by omega))
  rw [List.getElem_take]
  simpa [List.getD_eq_getElem?_getD, show i < sl.length by omega] using this
/-- No slab before it meets the k-th one just where it covers free places only. -/
theorem free_iff {w h : Int} {sl : List Slab} {k : Nat} (hn : slabsOk w h sl k = true) (hk : k < sl.length) (hs : liesB w h (sl.getD k s0) = true) :
    (sl.take k).any (fun t => meetsB (sl.getD k s0) t) = false ↔ ∀ x y, covB (sl.getD k s0) x y = true → atI (sl.take k) x y = -1 := by
  constructor
  · intro ha x y hc
    unfold atI
    rw [findI_neg]
    intro t ht
    cases hct : covB t x y
    · rfl
    · have := (meets_iff hs (slabsOk_lies hn (Nat.le_of_lt hk) t ht)).2 ⟨x, y, hc, hct⟩
      rw [List.any_eq_false] at ha
      exact absurd this (ha t ht)
  · intro hf
    rw [List.any_eq_false]
    intro t ht hm
    obtain ⟨x, y, h1, h2⟩ := (meets_iff hs (slabsOk_lies hn (Nat.le_of_lt hk) t ht)).1 hm
    have := hf x y h1
    unfold atI at this
    rw [findI_neg] at this
    rw [this t ht] at h2
    cases h2

/-! ### The grid, while slabs are laid -/
def gridL (sl : List Slab) : List Int := (List.range 144).map fun p => atI sl ((p % 12 : Nat) : Int) ((p / 12 : Nat) : Int) + 1
def part (sl : List Slab) (k : Nat) (yy xx x y : Int) : Int :=
  if covB (sl.getD k s0) x y = true ∧ (y < yy ∨ y = yy ∧ x < xx) then (k : Int) + 1 else atI (sl.take k) x y + 1
def partL (sl : List Slab) (k : Nat) (yy xx : Int) : List Int := (List.range 144).map fun p => part sl k yy xx ((p % 12 : Nat) : Int) ((p / 12 : Nat) : Int)
theorem gridL_len (sl : List Slab) : (gridL sl).length = 144 := by simp [gridL]
theorem partL_len (sl : List Slab) (k : Nat) (yy xx : Int) : (partL sl k yy xx).length = 144 := by simp [partL]
theorem gridL_get (sl : List Slab) (x y : Nat) (hx : x < 12) (hy : y < 12) : (gridL sl)[y * 12 + x]? = some (atI sl x y + 1) := by
  have h1 : (y * 12 + x) % 12 = x := by omega
  have h2 : (y * 12 + x) / 12 = y := by omega
  simp only [gridL, List.getElem?_map, List.getElem?_range (show y * 12 + x < 144 by omega), Option.map_some, h1, h2]
theorem partL_get (sl : List Slab) (k : Nat) (yy xx : Int) (x y : Nat) (hx : x < 12) (hy : y < 12) : (partL sl k yy xx)[y * 12 + x]? = some (part sl k yy xx x y) := by
  have h1 : (y * 12 + x) % 12 = x := by omega
  have h2 : (y * 12 + x) / 12 = y := by omega
  simp only [partL, List.getElem?_map, List.getElem?_range (show y * 12 + x < 144 by omega), Option.map_some, h1, h2]
theorem list144 (f g : Nat → Int) (h : ∀ x y : Nat, x < 12 → y < 12 → f (y * 12 + x) = g (y * 12 + x)) : (List.range 144).map f = (List.range 144).map g := by
  apply List.map_congr_left
  intro p hp
  rw [List.mem_range] at hp
  have := h (p % 12) (p / 12) (by omega) (by omega)
  rwa [show p / 12 * 12 + p % 12 = p by omega] at this
theorem gridL_nil : gridL [] = List.replicate 144 0 := by decide
theorem partL_start (sl : List Slab) (k : Nat) : partL sl k (sl.getD k s0).y (sl.getD k s0).x = gridL (sl.take k) := by
  refine List.map_congr_left fun p _ => ?_
  unfold part
  rw [if_neg]
  rintro ⟨h1, h2⟩
  simp only [covB, decide_eq_true_eq] at h1
  omega
theorem partL_row (sl : List Slab) (k : Nat) (yy : Int) : partL sl k yy ((sl.getD k s0).x + (sl.getD k s0).w) = partL sl k (yy + 1) (sl.getD k s0).x := by
  refine List.map_congr_left fun p _ => ?_
  unfold part
  have : ∀ x y : Int, (covB (sl.getD k s0) x y = true ∧ (y < yy ∨ y = yy ∧ x < (sl.getD k s0).x + (sl.getD k s0).w)) ↔ (covB (sl.getD k s0) x y = true ∧ (y < yy + 1 ∨ y = yy + 1 ∧ x < (sl.getD k s0).x)) := by
    intro x y
    simp only [covB, decide_eq_true_eq]
    omega
  simp only [this]
theorem partL_set (sl : List Slab) (k : Nat) (xx yy : Nat) (hx : xx < 12) (hy : yy < 12) (hc : covB (sl.getD k s0) xx yy = true) : partL sl k yy ((xx : Int) + 1) = (partL sl k yy xx).set (yy * 12 + xx) ((k : Int) + 1) := by
  apply List.ext_getElem?
  intro p
  by_cases hp : p < 144
  · by_cases he : p = yy * 12 + xx
    · subst he
      rw [partL_get _ _ _ _ _ _ hx hy, List.getElem?_set_self (by rw [partL_len]; omega)]
      unfold part
      rw [if_pos ⟨hc, Or.inr ⟨rfl, by omega⟩⟩]
    · have e : p = p / 12 * 12 + p % 12 := by omega
      rw [List.getElem?_set_ne (by omega), e, partL_get _ _ _ _ _ _ (by omega) (by omega), partL_get _ _ _ _ _ _ (by omega) (by omega)]
      unfold part
      have : (covB (sl.getD k s0) ((p % 12 : Nat) : Int) ((p / 12 : Nat) : Int) = true ∧ (((p / 12 : Nat) : Int) < yy ∨ ((p / 12 : Nat) : Int) = yy ∧ ((p % 12 : Nat) : Int) < (xx : Int) + 1)) ↔ (covB (sl.getD k s0) ((p % 12 : Nat) : Int) ((p / 12 : Nat) : Int) = true ∧ (((p / 12 : Nat) : Int) < yy ∨ ((p / 12 : Nat) : Int) = yy ∧ ((p % 12 : Nat) : Int) < (xx : Int))) := by
        constructor
        · rintro ⟨h1, h2⟩; exact ⟨h1, by omega⟩
        · rintro ⟨h1, h2⟩; exact ⟨h1, by omega⟩
      simp only [this]
  · rw [List.getElem?_eq_none (by rw [partL_len]; omega), List.getElem?_eq_none (by rw [List.length_set, partL_len]; omega)]
theorem partL_read (sl : List Slab) (k : Nat) (xx yy : Nat) (hx : xx < 12) (hy : yy < 12) : (partL sl k yy xx)[yy * 12 + xx]? = some (atI (sl.take k) xx yy + 1) := by
  rw [partL_get _ _ _ _ _ _ hx hy]
  unfold part
  rw [if_neg (by rintro ⟨_, h⟩; omega)]
theorem partL_end (sl : List Slab) (k : Nat) (hk : k < sl.length) (hf : ∀ x y, covB (sl.getD k s0) x y = true → atI (sl.take k) x y = -1) : partL sl k ((sl.getD k s0).y + (sl.getD k s0).h) (sl.getD k s0).x = gridL (sl.take (k + 1)) := by
  refine List.map_congr_left fun p _ => ?_
  unfold part
  rw [atI_succ sl k hk]
  cases hc : covB (sl.getD k s0) ((p % 12 : Nat) : Int) ((p / 12 : Nat) : Int)
  · rw [if_neg (by simp)]
    split
    · rename_i h; rw [h]; simp
    · rfl
  · rw [hf _ _ hc]
    rw [if_pos ⟨rfl, by
      simp only [covB, decide_eq_true_eq] at hc
      omega⟩]
    simp
/-- All places that a slab covers, before one, are free. -/
def freeTo (sl : List Slab) (k : Nat) (yy xx : Int) : Prop := ∀ x y, covB (sl.getD k s0) x y = true → (y < yy ∨ y = yy ∧ x < xx) → atI (sl.take k) x y = -1
theorem freeTo_start (sl : List Slab) (k : Nat) : freeTo sl k (sl.getD k s0).y (sl.getD k s0).x := by
  intro x y hc h
  simp only [covB, decide_eq_true_eq] at hc
  omega
theorem freeTo_row {sl : List Slab} {k : Nat} {yy : Int} (h : freeTo sl k yy ((sl.getD k s0).x + (sl.getD k s0).w)) : freeTo sl k (yy + 1) (sl.getD k s0).x := by
  intro x y hc hb
  have hc2 := hc
  simp only [covB, decide_eq_true_eq] at hc
  exact h x y hc2 (by omega)
theorem freeTo_step {sl : List Slab} {k : Nat} {yy xx : Int} (h : freeTo sl k yy xx) (h2 : atI (sl.take k) xx yy = -1) : freeTo sl k yy (xx + 1) := by
  intro x y hc hb
  by_cases he : y = yy ∧ x = xx
  · rw [he.1, he.2]; exact h2
  · exact h x y hc (by omega)
theorem freeTo_end {sl : List Slab} {k : Nat} (h : freeTo sl k ((sl.getD k s0).y + (sl.getD k s0).h) (sl.getD k s0).x) : ∀ x y, covB (sl.getD k s0) x y = true → atI (sl.take k) x y = -1 := by
  intro x y hc
  have hc2 := hc
  simp only [covB, decide_eq_true_eq] at hc
  exact h x y hc2 (by omega)

/-! ### Joints -/
def jointB (sl : List Slab) (x y u v : Int) : Bool := decide (0 ≤ atI sl x y) && decide (0 ≤ atI sl u v) && decide (atI sl x y ≠ atI sl u v)
def edgeOf (sl : List Slab) (x y way : Int) : Bool :=
  if way = 0 then jointB sl x (y - 1) (x - 1) (y - 1) else if way = 1 then jointB sl x y x (y - 1) else if way = 2 then jointB sl x y (x - 1) y else jointB sl (x - 1) y (x - 1) (y - 1)
theorem atI_bounds (sl : List Slab) (x y : Int) : -1 ≤ atI sl x y ∧ atI sl x y < sl.length := findI_bounds _ _
theorem atI_out {w h : Int} {sl : List Slab} (hl : ∀ t ∈ sl, liesB w h t = true) {x y : Int} (ho : x < 0 ∨ y < 0 ∨ w ≤ x ∨ h ≤ y) : atI sl x y = -1 := by
  unfold atI
  rw [findI_neg]
  intro t ht
  have := hl t ht
  simp only [liesB, decide_eq_true_eq] at this
  simp only [covB, decide_eq_false_iff_not]
  omega
theorem jointB_out1 {w h : Int} {sl : List Slab} (hl : ∀ t ∈ sl, liesB w h t = true) {x y : Int} (u v : Int) (ho : x < 0 ∨ y < 0 ∨ w ≤ x ∨ h ≤ y) : jointB sl x y u v = false := by
  unfold jointB
  rw [atI_out hl ho]
  simp
theorem jointB_out2 {w h : Int} {sl : List Slab} (hl : ∀ t ∈ sl, liesB w h t = true) {u v : Int} (x y : Int) (ho : u < 0 ∨ v < 0 ∨ w ≤ u ∨ h ≤ v) : jointB sl x y u v = false := by
  unfold jointB
  rw [atI_out hl ho]
  simp
def waysOf (sl : List Slab) (x y : Int) : List Int := [0, 1, 2, 3].filter (edgeOf sl x y)
theorem waysOf_mem (sl : List Slab) (x y w : Int) (h0 : 0 ≤ w) (h3 : w ≤ 3) : w ∈ waysOf sl x y ↔ edgeOf sl x y w = true := by
  unfold waysOf
  rw [List.mem_filter]
  constructor
  · exact fun h => h.2
  · intro h
    refine ⟨?_, h⟩
    have : w = 0 ∨ w = 1 ∨ w = 2 ∨ w = 3 := by omega
    rcases this with rfl | rfl | rfl | rfl <;> simp
end Go.Proofs.Yteflpdfajfljfaa
