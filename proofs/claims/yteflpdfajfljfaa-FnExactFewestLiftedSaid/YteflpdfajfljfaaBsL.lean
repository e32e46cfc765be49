/-
Slabs beside each other, in plain lists. Nothing is proved here of the program itself.
-/
import Derived.Test.YteflpdfajfljfaaSqL
set_option linter.unusedVariables false
set_option linter.unusedSimpArgs false
set_option maxRecDepth 100000
namespace Go.Proofs.Yteflpdfajfljfaa
def widerS (a : Slab) : Slab := ⟨a.x - 1, a.y, a.w + 2, a.h⟩
def higherS (a : Slab) : Slab := ⟨a.x, a.y - 1, a.w, a.h + 2⟩
theorem meetsB_iff (s t : Slab) : meetsB s t = true ↔ s.x < t.x + t.w ∧ t.x < s.x + s.w ∧ s.y < t.y + t.h ∧ t.y < s.y + s.h := by unfold meetsB; exact decide_eq_true_iff
theorem meetsB_no (s t : Slab) : meetsB s t = false ↔ ¬ (s.x < t.x + t.w ∧ t.x < s.x + s.w ∧ s.y < t.y + t.h ∧ t.y < s.y + s.h) := by unfold meetsB; exact decide_eq_false_iff_not
def besB (a b : Slab) : Bool := !decide (a = b) && (meetsB (widerS a) b || meetsB (higherS a) b)
def besN (sl : List Slab) (i k : Nat) : List Int := ((List.range k).filter fun j => besB (sl.getD i s0) (sl.getD j s0)).map (fun (j : Nat) => (j : Int))
def besL (sl : List Slab) (i : Nat) : List Int := besN sl i sl.length
theorem besN_succ (sl : List Slab) (i k : Nat) : besN sl i (k + 1) = if besB (sl.getD i s0) (sl.getD k s0) = true then besN sl i k ++ [(k : Int)] else besN sl i k := by
  unfold besN
  rw [List.range_succ, List.filter_append, List.map_append]
  by_cases h : besB (sl.getD i s0) (sl.getD k s0) = true
  · rw [if_pos h, List.filter_cons_of_pos (by exact h)]; rfl
  · rw [if_neg h, List.filter_cons_of_neg (by exact h)]; simp
theorem besN_len (sl : List Slab) (i k : Nat) : (besN sl i k).length ≤ k := by
  unfold besN
  rw [List.length_map]
  exact Nat.le_trans (List.length_filter_le _ _) (by simp)
theorem besN_mem (sl : List Slab) (i k : Nat) (x : Int) (h : x ∈ besN sl i k) : 0 ≤ x ∧ x < k := by
  simp only [besN, List.mem_map, List.mem_filter, List.mem_range] at h
  obtain ⟨j, ⟨h1, _⟩, rfl⟩ := h
  omega
theorem findI_is {α : Type} (p : α → Bool) (xs : List α) (k : Nat) (h : findI p xs = (k : Int)) : ∃ hk : k < xs.length, p xs[k] = true := by
  unfold findI at h
  cases hf : xs.findIdx? p with
  | none => rw [hf] at h; simp at h
  | some i =>
    rw [hf] at h
    obtain ⟨hi, hp, _⟩ := List.findIdx?_eq_some_iff_getElem.1 hf
    have : i = k := by simp at h; omega
    subst this
    exact ⟨hi, hp⟩
theorem getD_at (sl : List Slab) (k : Nat) (hk : k < sl.length) : sl.getD k s0 = sl[k] := by simp [List.getD_eq_getElem?_getD, hk]
theorem atI_ok {w h : Int} {sl : List Slab} (hn : slabsOk w h sl sl.length = true) {k : Nat} (hk : k < sl.length) (x y : Int) : atI sl x y = (k : Int) ↔ covB (sl.getD k s0) x y = true := by
  constructor
  · intro h
    obtain ⟨_, hp⟩ := findI_is _ _ _ h
    rw [getD_at sl k hk]
    exact hp
  · intro hc
    have hok := slabsOk_at hn hk
    refine findI_at _ _ _ hk ?_ (by rw [getD_at sl k hk] at hc; exact hc)
    rw [List.all_eq_true]
    intro t ht
    cases hct : covB t x y
    · rfl
    · exfalso
      have hlk : ∀ n, slabsOk w h sl n = true → n ≤ sl.length → ∀ t ∈ sl.take n, liesB w h t = true := fun n h1 h2 => slabsOk_lies h1 h2
      have ht2 : t ∈ sl.take sl.length := by
        rw [List.take_length]
        exact List.mem_of_mem_take ht
      have hl1 := hlk _ hn (Nat.le_refl _) t ht2
      have hl2 := slabOk_lies hok
      have hm := (meets_iff hl2 hl1).2 ⟨x, y, hc, hct⟩
      simp only [slabOk, Bool.and_eq_true, Bool.not_eq_true'] at hok
      have := List.any_eq_false.1 hok.2 t ht
      exact this hm
theorem lies_at {w h : Int} {sl : List Slab} (hn : slabsOk w h sl sl.length = true) {k : Nat} (hk : k < sl.length) : liesB w h (sl.getD k s0) = true := slabOk_lies (slabsOk_at hn hk)
/-- Two slabs of a square do not meet. -/
theorem apart {w h : Int} {sl : List Slab} (hn : slabsOk w h sl sl.length = true) {i j : Nat} (hi : i < sl.length) (hj : j < sl.length) (hne : i ≠ j) : meetsB (sl.getD i s0) (sl.getD j s0) = false := by
  cases hm : meetsB (sl.getD i s0) (sl.getD j s0)
  · rfl
  · exfalso
    obtain ⟨x, y, h1, h2⟩ := (meets_iff (lies_at hn hi) (lies_at hn hj)).1 hm
    have e1 := (atI_ok hn hi x y).2 h1
    have e2 := (atI_ok hn hj x y).2 h2
    rw [e1] at e2
    exact hne (by exact_mod_cast e2)
theorem besB_iff {w h : Int} {sl : List Slab} (hn : slabsOk w h sl sl.length = true) {i j : Nat} (hi : i < sl.length) (hj : j < sl.length) :
    besB (sl.getD i s0) (sl.getD j s0) = (!decide (i = j) && (meetsB (widerS (sl.getD i s0)) (sl.getD j s0) || meetsB (higherS (sl.getD i s0)) (sl.getD j s0))) := by
  unfold besB
  by_cases hij : i = j
  · subst hij; simp
  · have : sl.getD i s0 ≠ sl.getD j s0 := by
      intro he
      have ha := apart hn hi hj hij
      rw [← he] at ha
      have hl := lies_at hn hi
      simp only [meetsB, liesB, decide_eq_true_eq, decide_eq_false_iff_not] at ha hl
      omega
    rw [decide_eq_false this, decide_eq_false hij]

/-! ### The marks of the reference -/
def gv (sl : List Slab) (x y : Int) : Int := atI sl x y + 1
def tch (sl : List Slab) (i : Int) (x y v : Int) : Prop :=
  (0 < x ∧ gv sl x y = i + 1 ∧ v = gv sl (x - 1) y) ∨ (0 < x ∧ gv sl (x - 1) y = i + 1 ∧ v = gv sl x y) ∨ (0 < y ∧ gv sl x y = i + 1 ∧ v = gv sl x (y - 1)) ∨ (0 < y ∧ gv sl x (y - 1) = i + 1 ∧ v = gv sl x y)
def mkd (sl : List Slab) (i w yy xx v : Int) : Prop := ∃ x y, 0 ≤ x ∧ x < w ∧ 0 ≤ y ∧ (y < yy ∨ y = yy ∧ x < xx) ∧ tch sl i x y v
noncomputable def mkB (sl : List Slab) (i w yy xx v : Int) : Bool := @decide (mkd sl i w yy xx v) (Classical.propDecidable _)
theorem mkB_iff (sl : List Slab) (i w yy xx v : Int) : mkB sl i w yy xx v = true ↔ mkd sl i w yy xx v := by unfold mkB; exact @decide_eq_true_iff _ (Classical.propDecidable _)
noncomputable def mkL (sl : List Slab) (i w yy xx : Int) : List Bool := (List.range (sl.length + 1)).map fun v => mkB sl i w yy xx ((v : Nat) : Int)
theorem mkL_len (sl : List Slab) (i w yy xx : Int) : (mkL sl i w yy xx).length = sl.length + 1 := by simp [mkL]
theorem mkL_get (sl : List Slab) (i w yy xx : Int) (k : Nat) (hk : k < sl.length + 1) : (mkL sl i w yy xx)[k]? = some (mkB sl i w yy xx (k : Int)) := by
  simp [mkL, hk]
theorem mkL_start (sl : List Slab) (i w : Int) : mkL sl i w 0 0 = List.replicate (sl.length + 1) false := by
  apply List.ext_getElem?
  intro k
  by_cases hk : k < sl.length + 1
  · rw [mkL_get _ _ _ _ _ _ hk, List.getElem?_replicate, if_pos hk]
    congr 1
    cases h : mkB sl i w 0 0 (k : Int)
    · rfl
    · obtain ⟨x, y, h1, _, h3, h4, _⟩ := (mkB_iff _ _ _ _ _ _).1 h
      omega
  · rw [List.getElem?_eq_none (by rw [mkL_len]; omega), List.getElem?_eq_none (by simp; omega)]
theorem mkL_row (sl : List Slab) (i w yy : Int) : mkL sl i w yy w = mkL sl i w (yy + 1) 0 := by
  unfold mkL
  refine List.map_congr_left fun v _ => ?_
  rw [Bool.eq_iff_iff, mkB_iff, mkB_iff]
  constructor
  · rintro ⟨x, y, h1, h2, h3, h4, h5⟩
    exact ⟨x, y, h1, h2, h3, by omega, h5⟩
  · rintro ⟨x, y, h1, h2, h3, h4, h5⟩
    exact ⟨x, y, h1, h2, h3, by omega, h5⟩
def put (c : Bool) (v : Int) (M : List Bool) : List Bool := if c = true then M.set v.toNat true else M
theorem put_len (c : Bool) (v : Int) (M : List Bool) : (put c v M).length = M.length := by unfold put; split <;> simp
theorem put_get (c : Bool) (v : Int) (M : List Bool) (k : Nat) (h0 : 0 ≤ v) : (put c v M)[k]? = M[k]?.map fun b => b || (c && decide (v = (k : Int))) := by
  unfold put
  cases c
  · simp
  · rw [if_pos rfl]
    by_cases hk : k < M.length
    · by_cases he : v = (k : Int)
      · subst he
        rw [Int.toNat_natCast, List.getElem?_set_self hk, List.getElem?_eq_getElem hk]
        simp
      · rw [List.getElem?_set_ne (by omega), List.getElem?_eq_getElem hk]
        simp [he]
    · rw [List.getElem?_eq_none (by simp; omega), List.getElem?_eq_none (by omega)]; rfl
def tA (sl : List Slab) (i x y : Int) : Bool := decide (0 < x) && decide (gv sl x y = i + 1)
def tB (sl : List Slab) (i x y : Int) : Bool := decide (0 < x) && decide (gv sl (x - 1) y = i + 1)
def tC (sl : List Slab) (i x y : Int) : Bool := decide (0 < y) && decide (gv sl x y = i + 1)
def tD (sl : List Slab) (i x y : Int) : Bool := decide (0 < y) && decide (gv sl x (y - 1) = i + 1)
theorem gv_nonneg (sl : List Slab) (x y : Int) : 0 ≤ gv sl x y ∧ gv sl x y ≤ sl.length := by
  have := atI_bounds sl x y
  unfold gv; omega
theorem mkL_step (sl : List Slab) (i w yy xx : Int) (h0 : 0 ≤ xx) (h1 : xx < w) (h2 : 0 ≤ yy) :
    mkL sl i w yy (xx + 1) = put (tD sl i xx yy) (gv sl xx yy) (put (tC sl i xx yy) (gv sl xx (yy - 1)) (put (tB sl i xx yy) (gv sl xx yy) (put (tA sl i xx yy) (gv sl (xx - 1) yy) (mkL sl i w yy xx)))) := by
  apply List.ext_getElem?
  intro k
  rw [put_get _ _ _ _ (gv_nonneg ..).1, put_get _ _ _ _ (gv_nonneg ..).1, put_get _ _ _ _ (gv_nonneg ..).1, put_get _ _ _ _ (gv_nonneg ..).1]
  by_cases hk : k < sl.length + 1
  · rw [mkL_get _ _ _ _ _ _ hk, mkL_get _ _ _ _ _ _ hk]
    simp only [Option.map_some, Option.some.injEq]
    rw [Bool.eq_iff_iff]
    simp only [Bool.or_eq_true, Bool.and_eq_true, mkB_iff, tA, tB, tC, tD, decide_eq_true_eq]
    constructor
    · rintro ⟨x, y, g1, g2, g3, g4, g5⟩
      by_cases he : y = yy ∧ x = xx
      · obtain ⟨rfl, rfl⟩ := he
        rcases g5 with ⟨a, b, c⟩ | ⟨a, b, c⟩ | ⟨a, b, c⟩ | ⟨a, b, c⟩
        · exact .inl (.inl (.inl (.inr ⟨⟨a, b⟩, c.symm⟩)))
        · exact .inl (.inl (.inr ⟨⟨a, b⟩, c.symm⟩))
        · exact .inl (.inr ⟨⟨a, b⟩, c.symm⟩)
        · exact .inr ⟨⟨a, b⟩, c.symm⟩
      · exact .inl (.inl (.inl (.inl ⟨x, y, g1, g2, g3, by omega, g5⟩)))
    · rintro ((((⟨x, y, g1, g2, g3, g4, g5⟩ | ⟨⟨a, b⟩, c⟩) | ⟨⟨a, b⟩, c⟩) | ⟨⟨a, b⟩, c⟩) | ⟨⟨a, b⟩, c⟩)
      · exact ⟨x, y, g1, g2, g3, by omega, g5⟩
      · exact ⟨xx, yy, h0, h1, h2, .inr ⟨rfl, by omega⟩, .inl ⟨a, b, c.symm⟩⟩
      · exact ⟨xx, yy, h0, h1, h2, .inr ⟨rfl, by omega⟩, .inr (.inl ⟨a, b, c.symm⟩)⟩
      · exact ⟨xx, yy, h0, h1, h2, .inr ⟨rfl, by omega⟩, .inr (.inr (.inl ⟨a, b, c.symm⟩))⟩
      · exact ⟨xx, yy, h0, h1, h2, .inr ⟨rfl, by omega⟩, .inr (.inr (.inr ⟨a, b, c.symm⟩))⟩
  · rw [List.getElem?_eq_none (by rw [mkL_len]; omega), List.getElem?_eq_none (by rw [mkL_len]; omega)]; rfl
/-- What the marks say at the end: which slabs are beside one. -/
theorem mkB_end {w h : Int} {sl : List Slab} (hn : slabsOk w h sl sl.length = true) {i j : Nat} (hi : i < sl.length) (hj : j < sl.length) (hne : i ≠ j) :
    mkB sl (i : Int) w h 0 ((j : Int) + 1) = besB (sl.getD i s0) (sl.getD j s0) := by
  rw [besB_iff hn hi hj, Bool.eq_iff_iff, mkB_iff]
  have hg : ∀ (k : Nat) (hk : k < sl.length) (x y : Int), gv sl x y = (k : Int) + 1 ↔ covB (sl.getD k s0) x y = true := by
    intro k hk x y
    rw [← atI_ok hn hk x y]
    unfold gv; omega
  have hl1 := lies_at hn hi
  have hl2 := lies_at hn hj
  have hap := apart hn hi hj hne
  have hgs : ∀ (k : Nat) (hk : k < sl.length) (x y : Int), (k : Int) + 1 = gv sl x y ↔ covB (sl.getD k s0) x y = true := fun k hk x y => by rw [← hg k hk x y]; exact eq_comm
  simp only [mkd, tch, hg i hi, hgs j hj]
  generalize sl.getD i s0 = a at *
  generalize sl.getD j s0 = b at *
  simp only [hne, decide_false, Bool.not_false, Bool.true_and, Bool.or_eq_true, meetsB_iff, meetsB_no, covB, liesB, decide_eq_true_eq] at *
  simp only [widerS, higherS]
  constructor
  · rintro ⟨x, y, g1, g2, g3, g4, g5⟩
    rcases g5 with g | g | g | g
    · left; omega
    · left; omega
    · right; omega
    · right; omega
  · rintro (g | g)
    · by_cases hc : b.x + b.w = a.x
      · exact ⟨a.x, max a.y b.y, by omega, by omega, by omega, by omega, .inl (by omega)⟩
      · exact ⟨b.x, max a.y b.y, by omega, by omega, by omega, by omega, .inr (.inl (by omega))⟩
    · by_cases hc : b.y + b.h = a.y
      · exact ⟨max a.x b.x, a.y, by omega, by omega, by omega, by omega, .inr (.inr (.inl (by omega)))⟩
      · exact ⟨max a.x b.x, b.y, by omega, by omega, by omega, by omega, .inr (.inr (.inr (by omega)))⟩
/-- The list that the reference draws from the marks, k slabs looked at. -/
def outN (M : List Bool) (i k : Nat) : List Int := ((List.range k).filter fun j => M.getD (j + 1) false && !decide (j = i)).map (fun (j : Nat) => (j : Int))
theorem outN_succ (M : List Bool) (i k : Nat) : outN M i (k + 1) = if (M.getD (k + 1) false && !decide (k = i)) = true then outN M i k ++ [(k : Int)] else outN M i k := by
  unfold outN
  rw [List.range_succ, List.filter_append, List.map_append]
  by_cases h : (M.getD (k + 1) false && !decide (k = i)) = true
  · rw [if_pos h, List.filter_cons_of_pos (by exact h)]; rfl
  · rw [if_neg h, List.filter_cons_of_neg (by exact h)]; simp
theorem outN_len (M : List Bool) (i k : Nat) : (outN M i k).length ≤ k := by
  unfold outN
  rw [List.length_map]
  exact Nat.le_trans (List.length_filter_le _ _) (by simp)
theorem outN_bes {w h : Int} {sl : List Slab} (hn : slabsOk w h sl sl.length = true) {i : Nat} (hi : i < sl.length) : outN (mkL sl (i : Int) w h 0) i sl.length = besL sl i := by
  unfold outN besL besN
  congr 1
  apply List.filter_congr
  intro j hj
  rw [List.mem_range] at hj
  rw [List.getD_eq_getElem?_getD, mkL_get _ _ _ _ _ _ (by omega)]
  by_cases hij : j = i
  · subst hij
    simp [besB]
  · rw [← mkB_end hn hi hj (fun e => hij e.symm)]
    simp [hij]

/-! ### Pairs, trips -/
def prsIn (i : Int) (l : List Int) : List Pair := (l.filter fun k => decide (i < k)).map fun k => ⟨i, k⟩
def prsN (sl : List Slab) (k : Nat) : List Pair := (List.range k).flatMap fun (i : Nat) => prsIn (i : Int) (besL sl i)
def prsL (sl : List Slab) : List Pair := prsN sl sl.length
theorem prsN_succ (sl : List Slab) (k : Nat) : prsN sl (k + 1) = prsN sl k ++ prsIn (k : Int) (besL sl k) := by
  unfold prsN
  rw [List.range_succ, List.flatMap_append]
  simp only [List.flatMap_cons, List.flatMap_nil, List.append_nil]
theorem prsIn_succ (i : Int) (l : List Int) (k : Nat) (hk : k < l.length) : prsIn i (l.take (k + 1)) = if i < l[k] then prsIn i (l.take k) ++ [⟨i, l[k]⟩] else prsIn i (l.take k) := by
  unfold prsIn
  rw [List.take_succ_eq_append_getElem hk, List.filter_append, List.map_append]
  by_cases h : i < l[k]
  · rw [if_pos h, List.filter_cons_of_pos (by simpa using h)]; rfl
  · rw [if_neg h, List.filter_cons_of_neg (by simpa using h)]; simp
theorem prsIn_len (i : Int) (l : List Int) : (prsIn i l).length ≤ l.length := by
  unfold prsIn
  rw [List.length_map]
  exact List.length_filter_le _ _
theorem prsN_len (sl : List Slab) : ∀ k, (prsN sl k).length ≤ k * sl.length
  | 0 => by simp [prsN]
  | k + 1 => by
    rw [prsN_succ, List.length_append, Nat.add_mul, Nat.one_mul]
    have h1 := prsN_len sl k
    have h2 := prsIn_len (k : Int) (besL sl k)
    have h3 := besN_len sl k sl.length
    unfold besL at h2
    unfold besL
    omega
theorem prsN_mem (sl : List Slab) (k : Nat) (p : Pair) (h : p ∈ prsN sl k) : 0 ≤ p.a ∧ p.a < k ∧ p.a < p.b ∧ p.b < sl.length := by
  simp only [prsN, prsIn, List.mem_flatMap, List.mem_range, List.mem_map, List.mem_filter, decide_eq_true_eq] at h
  obtain ⟨i, hi, x, ⟨hx, hlt⟩, rfl⟩ := h
  have := besN_mem _ _ _ _ hx
  exact ⟨by simp, by simpa using hi, hlt, this.2⟩
theorem prsL_mem (sl : List Slab) (p : Pair) (h : p ∈ prsL sl) : 0 ≤ p.a ∧ p.a < sl.length ∧ 0 ≤ p.b ∧ p.b < sl.length := by
  obtain ⟨h1, h2, h3, h4⟩ := prsN_mem _ _ _ h
  exact ⟨h1, h2, by omega, h4⟩
end Go.Proofs.Yteflpdfajfljfaa
