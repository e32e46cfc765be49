/-
The plain law of slabs that are lifted, as the two programs keep it. No program in sight.
-/
import Derived.Test.YteflpdfajfljfaaFLL
set_option linter.unusedVariables false
set_option linter.unusedSimpArgs false
set_option maxRecDepth 100000
namespace Go.Proofs.Yteflpdfajfljfaa
open Go.RowKit
/-! ### Tables over twelve by twelve -/
def cel (i : Nat) : Cell := ⟨((i % 12 : Nat) : Int), ((i / 12 : Nat) : Int)⟩
def idxT (c : Cell) : Nat := (c.y * 12 + c.x).toNat
def atT (L : List Int) (c : Cell) : Int := L.getD (idxT c) 0
theorem idx_cel {w h : Int} {c : Cell} (hw : w ≤ 12) (hh : h ≤ 12) (hc : gpB w h c = true) : idxT c < 144 ∧ cel (idxT c) = c := by
  obtain ⟨x, y⟩ := c
  obtain ⟨h1, h2, h3, h4⟩ := gpB_true.1 hc
  simp only at h1 h2 h3 h4
  unfold idxT cel
  simp only
  refine ⟨by omega, ?_⟩
  congr 1 <;> omega
theorem cel_idx (i : Nat) : idxT (cel i) = i := by
  unfold idxT cel
  simp only
  omega
theorem atT_same {w h : Int} {L : List Int} {c : Cell} (hl : L.length = 144) (hw : w ≤ 12) (hh : h ≤ 12) (hc : gpB w h c = true) (n : Int) : atT (L.set (idxT c) n) c = n := by
  have h1 := (idx_cel hw hh hc).1
  unfold atT
  rw [List.getD_eq_getElem?_getD, List.getElem?_set_self (by omega)]
  rfl
theorem atT_oth {w h : Int} {L : List Int} {c d : Cell} (hw : w ≤ 12) (hh : h ≤ 12) (hc : gpB w h c = true) (hd : gpB w h d = true) (hne : d ≠ c) (n : Int) : atT (L.set (idxT c) n) d = atT L d := by
  have h1 := idx_cel hw hh hc
  have h2 := idx_cel hw hh hd
  have : idxT c ≠ idxT d := fun e => hne (by rw [← h2.2, ← h1.2, e])
  unfold atT
  rw [List.getD_eq_getElem?_getD, List.getD_eq_getElem?_getD, List.getElem?_set_ne this]
theorem atT_get {w h : Int} {L : List Int} {c : Cell} (hl : L.length = 144) (hw : w ≤ 12) (hh : h ≤ 12) (hc : gpB w h c = true) : L[idxT c]? = some (atT L c) := by
  have h1 := (idx_cel hw hh hc).1
  unfold atT
  rw [List.getD_eq_getElem?_getD, List.getElem?_eq_getElem (by omega)]
  rfl
theorem pot_le {f g : Nat → Nat} : ∀ n, (∀ i, i < n → f i ≤ g i) → pot f n ≤ pot g n
  | 0, _ => Nat.le_refl _
  | n + 1, h => by
    unfold pot
    have := pot_le n (fun i hi => h i (by omega))
    have := h n (by omega)
    omega
theorem pot_const (k : Nat) : ∀ n, pot (fun _ => k) n = n * k
  | 0 => by simp [pot]
  | n + 1 => by unfold pot; rw [pot_const k n, Nat.add_mul]; omega
/-! ### What the program keeps: a map -/
def cntM (M : Cell → Option Int) : Nat := pot (fun i => if (M (cel i)).isSome then 1 else 0) 144
def potA (M : Cell → Option Int) : Nat := pot (fun i => match M (cel i) with | none => 145 | some n => n.toNat) 144
theorem cntM_le (M : Cell → Option Int) : cntM M ≤ 144 := by
  have := pot_le (f := fun i => if (M (cel i)).isSome then 1 else 0) (g := fun _ => 1) 144 (fun i _ => by split <;> omega)
  rw [pot_const] at this
  exact this
structure AhI (w h : Int) (cv : Cell → Int) (tg : Cell) (M : Cell → Option Int) : Prop where
  att : ∀ c n, M c = some n → WayC w h cv tg c n
  to0 : ∃ n, M tg = some n ∧ n ≤ 0
  bd : ∀ c n, M c = some n → n + 1 ≤ cntM M
section
variable {w h : Int} {cv : Cell → Int} {tg a c : Cell} {xs ys : List Cell} {M0 M : Cell → Option Int} {k j : Nat} {ch : Bool} {n m : Int}
theorem AhI.put (hw : w ≤ 12) (hh : h ≤ 12) (ht : gpB w h tg = true) (t : AhI w h cv tg M) (ha : WayC w h cv tg a n) (hb : n + 1 ≤ cntM M) (hc : c ∈ aroundL w h a) (hlt : ∀ now, M c = some now → n + entI cv c a < now) (f : Cell → Option Int) (hf : f = fun y => if y = c then some (n + entI cv c a) else M y) :
    AhI w h cv tg f ∧ potA f < potA M ∧ cntM M ≤ cntM f := by
  subst hf
  have hcp := around_pt hc
  have hst := WayC.step a c n ha hc
  have hp := hst.pos
  have hi := idx_cel hw hh hcp
  have he := entI_01 cv c a
  have hle := cntM_le M
  have hmono : cntM M ≤ cntM (fun y => if y = c then some (n + entI cv c a) else M y) := by
    refine pot_le 144 (fun i _ => ?_)
    by_cases e : cel i = c
    · simp only [if_pos e, Option.isSome_some, if_true]
      split <;> omega
    · simp only [if_neg e]
      exact Nat.le_refl _
  have hnew : M c = none → cntM M + 1 ≤ cntM (fun y => if y = c then some (n + entI cv c a) else M y) := by
    intro hm
    refine pot_lt (k := idxT c) 144 hi.1 ?_ (fun i hi2 hne => ?_)
    · simp [hi.2, hm]
    · have : cel i ≠ c := fun e => hne (by rw [← e, cel_idx])
      simp [this]
  refine ⟨⟨fun d m hd => ?_, ?_, fun d m hd => ?_⟩, ?_, hmono⟩
  · by_cases e : d = c
    · subst e
      simp at hd
      subst hd
      exact hst
    · simp only [if_neg e] at hd
      exact t.att d m hd
  · obtain ⟨m, hm, hl⟩ := t.to0
    by_cases e : tg = c
    · subst e
      refine ⟨_, if_pos rfl, ?_⟩
      have := hlt m hm
      omega
    · exact ⟨m, by simp only [if_neg e]; exact hm, hl⟩
  · by_cases e : d = c
    · subst e
      simp at hd
      subst hd
      cases hm : M d with
      | none => have := hnew hm; omega
      | some now =>
        have := hlt now hm
        have := t.bd d now hm
        omega
    · simp only [if_neg e] at hd
      have := t.bd d m hd
      omega
  · refine pot_lt (k := idxT c) 144 hi.1 ?_ (fun i hi2 hne => ?_)
    · rw [hi.2]
      simp only [if_true]
      cases hm : M c with
      | none => simp only; omega
      | some now =>
        have h1 := hlt now hm
        simp only
        omega
    · have : cel i ≠ c := fun e => hne (by rw [← e, cel_idx])
      simp only [if_neg this]
def closA (w h : Int) (cv : Cell → Int) (M : Cell → Option Int) (a : Cell) : Prop := ∀ n, M a = some n → ∀ c ∈ aroundL w h a, ∃ m, M c = some m ∧ m ≤ n + entI cv c a
structure A3 (w h : Int) (cv : Cell → Int) (tg : Cell) (M0 : Cell → Option Int) (xs : List Cell) (k : Nat) (ch : Bool) (M : Cell → Option Int) : Prop where
  tab : AhI w h cv tg M
  no : ch = false → M = M0 ∧ ∀ i (hi : i < xs.length), i < k → closA w h cv M xs[i]
  yes : ch = true → potA M < potA M0
structure A4 (w h : Int) (cv : Cell → Int) (tg : Cell) (M0 : Cell → Option Int) (xs : List Cell) (k : Nat) (a : Cell) (n : Int) (ys : List Cell) (j : Nat) (ch : Bool) (M : Cell → Option Int) : Prop where
  tab : AhI w h cv tg M
  att : WayC w h cv tg a n
  bd : n + 1 ≤ cntM M
  no : ch = false → M = M0 ∧ (∀ i (hi : i < xs.length), i < k → closA w h cv M xs[i]) ∧ M a = some n ∧ ∀ i (hi : i < ys.length), i < j → ∃ m, M ys[i] = some m ∧ m ≤ n + entI cv ys[i] a
  yes : ch = true → potA M < potA M0
theorem A3.zero (t : AhI w h cv tg M) : A3 w h cv tg M xs 0 false M := ⟨t, fun _ => ⟨rfl, fun i _ h => by omega⟩, fun h => by cases h⟩
theorem A3.skip (q : A3 w h cv tg M0 xs k ch M) (hk : k < xs.length) (hm : M xs[k] = none) : A3 w h cv tg M0 xs (k + 1) ch M := by
  refine ⟨q.tab, fun h => ⟨(q.no h).1, fun i hi h2 => ?_⟩, q.yes⟩
  by_cases e : i = k
  · subst e
    intro n hn
    rw [hm] at hn
    cases hn
  · exact (q.no h).2 i hi (by omega)
theorem A4.zero (q : A3 w h cv tg M0 xs k ch M) (hm : M a = some n) : A4 w h cv tg M0 xs k a n ys 0 ch M := ⟨q.tab, q.tab.att a n hm, q.tab.bd a n hm, fun h => ⟨(q.no h).1, (q.no h).2, hm, fun i _ h => by omega⟩, q.yes⟩
theorem A4.keep (q : A4 w h cv tg M0 xs k a n ys j ch M) (hj : j < ys.length) (hm : M ys[j] = some m) (hle : m ≤ n + entI cv ys[j] a) : A4 w h cv tg M0 xs k a n ys (j + 1) ch M := by
  refine ⟨q.tab, q.att, q.bd, fun h => ⟨(q.no h).1, (q.no h).2.1, (q.no h).2.2.1, fun i hi h2 => ?_⟩, q.yes⟩
  by_cases e : i = j
  · subst e
    exact ⟨m, hm, hle⟩
  · exact (q.no h).2.2.2 i hi (by omega)
theorem A4.put (hw : w ≤ 12) (hh : h ≤ 12) (ht : gpB w h tg = true) (q : A4 w h cv tg M0 xs k a n ys j ch M) (hc : c ∈ aroundL w h a) (hlt : ∀ now, M c = some now → n + entI cv c a < now) (f : Cell → Option Int) (hf : f = fun y => if y = c then some (n + entI cv c a) else M y) : A4 w h cv tg M0 xs k a n ys (j + 1) true f := by
  obtain ⟨t, hp, hm⟩ := q.tab.put hw hh ht q.att q.bd hc hlt f hf
  refine ⟨t, q.att, by have := q.bd; omega, fun h => (by cases h), fun _ => ?_⟩
  cases ch with
  | false => rw [← (q.no rfl).1]; exact hp
  | true => exact Nat.lt_trans hp (q.yes rfl)
theorem A4.fin (hk : k < xs.length) (e : xs[k] = a) (q : A4 w h cv tg M0 xs k a n (aroundL w h a) (aroundL w h a).length ch M) : A3 w h cv tg M0 xs (k + 1) ch M := by
  refine ⟨q.tab, fun h => ⟨(q.no h).1, fun i hi h2 => ?_⟩, q.yes⟩
  by_cases e2 : i = k
  · subst e2
    rw [e]
    intro n' hn' c hc
    rw [(q.no h).2.2.1] at hn'
    injection hn' with hn'
    subst hn'
    obtain ⟨j, hj, rfl⟩ := List.getElem_of_mem hc
    exact (q.no h).2.2.2 j hj hj
  · exact (q.no h).2.1 i hi (by omega)
theorem A3.fin (q : A3 w h cv tg M0 xs xs.length ch M) : (ch = false → ∀ a ∈ xs, closA w h cv M a) ∧ 2 * potA M + (if ch then 1 else 0) ≤ 2 * potA M0 := by
  refine ⟨fun h a ha => ?_, ?_⟩
  · obtain ⟨i, hi, rfl⟩ := List.getElem_of_mem ha
    exact (q.no h).2 i hi hi
  · cases ch with
    | false => rw [(q.no rfl).1]; simp
    | true => have := q.yes rfl; simp; omega
theorem A4.range (q : A4 w h cv tg M0 xs k a n ys j ch M) : 0 ≤ n ∧ n ≤ 143 := by
  have := q.att.pos
  have := q.bd
  have := cntM_le M
  omega
/-- All cells, in a list. -/
theorem AhI.isD (ht : gpB w h tg = true) (t : AhI w h cv tg M) (all : List Cell) (hall : ∀ c, gpB w h c = true → c ∈ all) (hcl : ∀ a ∈ all, closA w h cv M a) :
    IsD w h cv tg (fun c => (M c).getD 0) ∧ ∀ c, (M c).isSome = true ↔ gpB w h c = true := by
  have hpt : ∀ c n, M c = some n → gpB w h c = true := fun c n hc => (t.att c n hc).pt ht
  obtain ⟨h1, h2⟩ := isD_of_map M ht t.att t.to0 (fun c n x hc hx => hcl c (hall c (hpt c n hc)) n hc x hx)
  refine ⟨h2, fun c => ⟨fun hs => ?_, fun hc => ?_⟩⟩
  · obtain ⟨n, hn⟩ := Option.isSome_iff_exists.1 hs
    exact hpt c n hn
  · obtain ⟨n, hn⟩ := h1 c hc
    simp [hn]
theorem AhI.first (ht : gpB w h tg = true) (hw : w ≤ 12) (hh : h ≤ 12) : AhI w h cv tg (fun c => if c = tg then some 0 else none) := by
  have hi := idx_cel hw hh ht
  have h1 : 0 < cntM (fun c => if c = tg then some 0 else none) := by
    have h0 : pot (fun _ => 0) 144 = 0 := pot_const 0 144
    have : pot (fun _ => 0) 144 < cntM (fun c => if c = tg then some 0 else none) := by
      refine pot_lt (k := idxT tg) 144 hi.1 ?_ (fun i hi2 hne => ?_)
      · simp [hi.2]
      · have : cel i ≠ tg := fun e => hne (by rw [← e, cel_idx])
        simp [this]
    omega
  refine ⟨fun c n hc => ?_, ⟨0, if_pos rfl, Int.le_refl _⟩, fun c n hc => ?_⟩
  · split at hc
    · rename_i e; subst e; injection hc with hc; subst hc; exact .here
    · cases hc
  · split at hc
    · injection hc with hc; subst hc; omega
    · cases hc
end
/-! ### What the reference keeps: a table, the own slab counted -/
/-- 1 if one leaves a slab, or a cell of it, by going from a tg x. -/
def lvI (cv : Cell → Int) (a x : Cell) : Int := if 0 ≤ cv a ∧ cv a ≠ cv x then 1 else 0
structure CoI (w h : Int) (cv : Cell → Int) (tg : Cell) (L : List Int) : Prop where
  len : L.length = 144
  att : ∀ c, gpB w h c = true → atT L c = 1000 ∨ atT L c < 1000 ∧ WayC w h cv tg c (atT L c - onI cv c)
  to0 : atT L tg ≤ onI cv tg
def potT (L : List Int) : Nat := pot (fun i => (L.getD i 0).toNat) 144
section
variable {w h : Int} {cv : Cell → Int} {tg a c : Cell} {xs ys : List Cell} {L0 L : List Int} {k j : Nat} {ch : Bool}
theorem CoI.bd (t : CoI w h cv tg L) (hc : gpB w h c = true) : 0 ≤ atT L c ∧ atT L c ≤ 1000 := by
  have h0 := onI_01 cv c
  rcases t.att c hc with h1 | ⟨h1, h2⟩
  · omega
  · have := h2.pos
    omega
theorem CoI.put (hcv : ∀ c, -1 ≤ cv c) (hw : w ≤ 12) (hh : h ≤ 12) (ht : gpB w h tg = true) (t : CoI w h cv tg L) (ha : gpB w h a = true) (hc : c ∈ aroundL w h a) (hlt : atT L c + lvI cv a c < atT L a) :
    CoI w h cv tg (L.set (idxT a) (atT L c + lvI cv a c)) ∧ potT (L.set (idxT a) (atT L c + lvI cv a c)) < potT L := by
  have hcp := around_pt hc
  have b1 := t.bd ha
  have b2 := t.bd hcp
  have hi := idx_cel hw hh ha
  have hl0 : 0 ≤ lvI cv a c := by unfold lvI; split <;> omega
  have hon := ent_on cv hcv a c
  have hwy : WayC w h cv tg a (atT L c + lvI cv a c - onI cv a) := by
    rcases t.att c hcp with h1 | ⟨h1, h2⟩
    · omega
    · have := WayC.step c a _ h2 (around_symm ha hc)
      rw [show atT L c + lvI cv a c - onI cv a = atT L c - onI cv c + entI cv a c by unfold lvI; omega]
      exact this
  refine ⟨⟨by rw [List.length_set]; exact t.len, fun d hd => ?_, ?_⟩, ?_⟩
  · by_cases e : d = a
    · subst e
      rw [atT_same t.len hw hh ha]
      exact .inr ⟨by omega, hwy⟩
    · rw [atT_oth hw hh ha hd e]
      exact t.att d hd
  · by_cases e : tg = a
    · subst e
      rw [atT_same t.len hw hh ht]
      have := t.to0
      omega
    · rw [atT_oth hw hh ha ht e]
      exact t.to0
  · refine pot_lt (k := idxT a) 144 hi.1 ?_ (fun i hi2 hne => ?_)
    · rw [List.getD_eq_getElem?_getD, List.getElem?_set_self (by rw [t.len]; exact hi.1)]
      have e : L.getD (idxT a) 0 = atT L a := rfl
      rw [e]
      simp only [Option.getD_some]
      omega
    · rw [List.getD_eq_getElem?_getD, List.getElem?_set_ne (Ne.symm hne), ← List.getD_eq_getElem?_getD]
def closC (w h : Int) (cv : Cell → Int) (L : List Int) (a : Cell) : Prop := ∀ c ∈ aroundL w h a, atT L a ≤ atT L c + lvI cv a c
structure C3 (w h : Int) (cv : Cell → Int) (tg : Cell) (L0 : List Int) (xs : List Cell) (k : Nat) (ch : Bool) (L : List Int) : Prop where
  tab : CoI w h cv tg L
  no : ch = false → L = L0 ∧ ∀ i (hi : i < xs.length), i < k → closC w h cv L xs[i]
  yes : ch = true → potT L < potT L0
structure C4 (w h : Int) (cv : Cell → Int) (tg : Cell) (L0 : List Int) (xs : List Cell) (k : Nat) (a : Cell) (ys : List Cell) (j : Nat) (ch : Bool) (L : List Int) : Prop where
  tab : CoI w h cv tg L
  no : ch = false → L = L0 ∧ (∀ i (hi : i < xs.length), i < k → closC w h cv L xs[i]) ∧ ∀ i (hi : i < ys.length), i < j → atT L a ≤ atT L ys[i] + lvI cv a ys[i]
  yes : ch = true → potT L < potT L0
theorem C3.zero (t : CoI w h cv tg L) : C3 w h cv tg L xs 0 false L := ⟨t, fun _ => ⟨rfl, fun i _ h => by omega⟩, fun h => by cases h⟩
theorem C4.zero (q : C3 w h cv tg L0 xs k ch L) : C4 w h cv tg L0 xs k a ys 0 ch L := ⟨q.tab, fun h => ⟨(q.no h).1, (q.no h).2, fun i _ h => by omega⟩, q.yes⟩
theorem C4.keep (q : C4 w h cv tg L0 xs k a ys j ch L) (hj : j < ys.length) (hle : ¬ atT L ys[j] + lvI cv a ys[j] < atT L a) : C4 w h cv tg L0 xs k a ys (j + 1) ch L := by
  refine ⟨q.tab, fun h => ⟨(q.no h).1, (q.no h).2.1, fun i hi h2 => ?_⟩, q.yes⟩
  by_cases e : i = j
  · subst e
    omega
  · exact (q.no h).2.2 i hi (by omega)
theorem C4.put (hcv : ∀ c, -1 ≤ cv c) (hw : w ≤ 12) (hh : h ≤ 12) (ht : gpB w h tg = true) (q : C4 w h cv tg L0 xs k a ys j ch L) (ha : gpB w h a = true) (hc : c ∈ aroundL w h a) (hlt : atT L c + lvI cv a c < atT L a) : C4 w h cv tg L0 xs k a ys (j + 1) true (L.set (idxT a) (atT L c + lvI cv a c)) := by
  obtain ⟨t, hp⟩ := q.tab.put hcv hw hh ht ha hc hlt
  refine ⟨t, fun h => (by cases h), fun _ => ?_⟩
  cases ch with
  | false => rw [← (q.no rfl).1]; exact hp
  | true => exact Nat.lt_trans hp (q.yes rfl)
theorem C4.fin (hk : k < xs.length) (e : xs[k] = a) (q : C4 w h cv tg L0 xs k a (aroundL w h a) (aroundL w h a).length ch L) : C3 w h cv tg L0 xs (k + 1) ch L := by
  refine ⟨q.tab, fun h => ⟨(q.no h).1, fun i hi h2 => ?_⟩, q.yes⟩
  by_cases e2 : i = k
  · subst e2
    rw [e]
    intro c hc
    obtain ⟨j, hj, rfl⟩ := List.getElem_of_mem hc
    exact (q.no h).2.2 j hj hj
  · exact (q.no h).2.1 i hi (by omega)
theorem C3.fin (q : C3 w h cv tg L0 xs xs.length ch L) : (ch = false → ∀ a ∈ xs, closC w h cv L a) ∧ 2 * potT L + (if ch then 1 else 0) ≤ 2 * potT L0 := by
  refine ⟨fun h a ha => ?_, ?_⟩
  · obtain ⟨i, hi, rfl⟩ := List.getElem_of_mem ha
    exact (q.no h).2 i hi hi
  · cases ch with
    | false => rw [(q.no rfl).1]; simp
    | true => have := q.yes rfl; simp; omega
theorem CoI.isD (hcv : ∀ c, -1 ≤ cv c) (hw : w ≤ 12) (hh : h ≤ 12) (ht : gpB w h tg = true) (t : CoI w h cv tg L) (all : List Cell) (hall : ∀ c, gpB w h c = true → c ∈ all) (hcl : ∀ a ∈ all, closC w h cv L a) : IsD w h cv tg (fun c => atT L c - onI cv c) :=
  isD_of_tab (atT L) hcv hw hh ht t.att t.to0 (fun c x hc hx => hcl c (hall c hc) x hx)
end
end Go.Proofs.Yteflpdfajfljfaa
