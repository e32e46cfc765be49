/-
The plain law of slabs that are lifted: lists of cells that are come tg, the search for the next slab. No program in sight.
-/
import Derived.Test.YteflpdfajfljfaaFLM
set_option linter.unusedVariables false
set_option linter.unusedSimpArgs false
set_option maxRecDepth 100000
namespace Go.Proofs.Yteflpdfajfljfaa
open Go.RowKit
/-! ### No more cells than there are -/
theorem len_of_inj : ∀ (n : Nat) (l : List Nat), l.Nodup → (∀ x ∈ l, x < n) → l.length ≤ n
  | 0, l, _, h => by
    cases l with
    | nil => simp
    | cons a r => exact absurd (h a (by simp)) (by omega)
  | n + 1, l, hn, h => by
    by_cases hm : n ∈ l
    · have h1 := List.length_erase_of_mem hm
      have h2 := len_of_inj n (l.erase n) (hn.erase n) (fun x hx => by
        have h3 := h x (List.mem_of_mem_erase hx)
        have h4 : x ≠ n := fun e => by subst e; exact (List.Nodup.not_mem_erase hn) hx
        omega)
      have : 0 < l.length := List.length_pos_of_mem hm
      omega
    · have := len_of_inj n l hn (fun x hx => by
        have h3 := h x hx
        have h4 : x ≠ n := fun e => by subst e; exact hm hx
        omega)
      omega
theorem cells_len {w h : Int} (hw : w ≤ 12) (hh : h ≤ 12) (l : List Cell) (hn : l.Nodup) (hp : ∀ c ∈ l, gpB w h c = true) : l.length ≤ 144 := by
  have h1 := len_of_inj 144 (l.map idxT) (by
    rw [List.nodup_iff_pairwise_ne] at hn ⊢
    rw [List.pairwise_map]
    refine hn.imp_of_mem (fun {a b} ha hb hab e => hab ?_)
    rw [← (idx_cel hw hh (hp a ha)).2, ← (idx_cel hw hh (hp b hb)).2, e]) (fun x hx => by
    obtain ⟨c, hc, rfl⟩ := List.mem_map.1 hx
    exact (idx_cel hw hh (hp c hc)).1)
  simpa using h1
/-! ### All that can be come tg without a further slab, in a list -/
structure ReI (w h : Int) (cv : Cell → Int) (L0 R : List Cell) (i : Nat) : Prop where
  sh : ∃ T, R = L0 ++ T ∧ T.Nodup
  snd : ∀ c ∈ R, R0 w h cv (fun x => x ∈ L0) c
  cl : ∀ k (hk : k < R.length), k < i → ∀ x ∈ aroundL w h R[k], entI cv R[k] x = 0 → x ∈ R
structure ReJ (w h : Int) (cv : Cell → Int) (L0 R : List Cell) (i : Nat) (a : Cell) (ys : List Cell) (j : Nat) : Prop where
  re : ReI w h cv L0 R i
  at_ : R[i]? = some a
  now : ∀ k (hk : k < ys.length), k < j → entI cv a ys[k] = 0 → ys[k] ∈ R
section
variable {w h : Int} {cv : Cell → Int} {L0 R ys : List Cell} {i j : Nat} {a x : Cell}
theorem ReI.zero (w h : Int) (cv : Cell → Int) (L0 : List Cell) : ReI w h cv L0 L0 0 := ⟨⟨[], by simp, List.nodup_nil⟩, fun c hc => .base c hc, fun k _ hk => by omega⟩
theorem ReI.pt (q : ReI w h cv L0 R i) (h0 : ∀ c ∈ L0, gpB w h c = true) : ∀ c ∈ R, gpB w h c = true := fun c hc => (q.snd c hc).pt h0
theorem ReI.len (q : ReI w h cv L0 R i) (hw : w ≤ 12) (hh : h ≤ 12) (h0 : ∀ c ∈ L0, gpB w h c = true) : R.length ≤ L0.length + 144 := by
  obtain ⟨T, rfl, hn⟩ := q.sh
  have := cells_len hw hh T hn (fun c hc => q.pt h0 c (List.mem_append_right _ hc))
  simp; omega
theorem ReJ.zero (q : ReI w h cv L0 R i) (ha : R[i]? = some a) : ReJ w h cv L0 R i a ys 0 := ⟨q, ha, fun k _ hk => by omega⟩
theorem ReJ.skip (q : ReJ w h cv L0 R i a ys j) (hj : j < ys.length) (hs : entI cv a ys[j] = 0 → ys[j] ∈ R) : ReJ w h cv L0 R i a ys (j + 1) := by
  refine ⟨q.re, q.at_, fun k hk hkj he => ?_⟩
  by_cases e : k = j
  · subst e; exact hs he
  · exact q.now k hk (by omega) he
theorem ReJ.put (q : ReJ w h cv L0 R i a ys j) (hj : j < ys.length) (hy : ys[j] ∈ aroundL w h a) (he : entI cv a ys[j] = 0) (hn : ys[j] ∉ R) : ReJ w h cv L0 (R ++ [ys[j]]) i a ys (j + 1) := by
  obtain ⟨T, hR, hT⟩ := q.re.sh
  obtain ⟨hi, hia⟩ := List.getElem?_eq_some_iff.1 q.at_
  have ham : a ∈ R := by rw [← hia]; exact List.getElem_mem hi
  refine ⟨⟨⟨T ++ [ys[j]], by rw [hR, List.append_assoc], ?_⟩, fun c hc => ?_, fun k hk hki z hz hez => ?_⟩, ?_, fun k hk hkj hek => ?_⟩
  · rw [List.nodup_append]
    refine ⟨hT, by simp, fun b hb b' hb' e => ?_⟩
    rw [List.mem_singleton] at hb'
    subst hb'
    subst e
    exact hn (by rw [hR]; exact List.mem_append_right _ hb)
  · rcases List.mem_append.1 hc with hc | hc
    · exact q.re.snd c hc
    · rw [List.mem_singleton] at hc
      subst hc
      exact .step a _ (q.re.snd a ham) hy he
  · have hkR : k < R.length := by omega
    have e : (R ++ [ys[j]])[k] = R[k] := List.getElem_append_left hkR
    rw [e] at hz hez
    exact List.mem_append_left _ (q.re.cl k hkR hki z hz hez)
  · rw [List.getElem?_append_left hi]; exact q.at_
  · by_cases e : k = j
    · subst e; simp
    · exact List.mem_append_left _ (q.now k hk (by omega) hek)
theorem ReJ.fin (q : ReJ w h cv L0 R i a (aroundL w h a) (aroundL w h a).length) : ReI w h cv L0 R (i + 1) := by
  refine ⟨q.re.sh, q.re.snd, fun k hk hki x hx he => ?_⟩
  by_cases e : k = i
  · subst e
    obtain ⟨_, hia⟩ := List.getElem?_eq_some_iff.1 q.at_
    rw [hia] at hx he
    obtain ⟨j, hj, rfl⟩ := List.getElem_of_mem hx
    exact q.now j hj hj he
  · exact q.re.cl k hk (by omega) x hx he
theorem ReI.fin (q : ReI w h cv L0 R R.length) : ∀ c, c ∈ R ↔ R0 w h cv (fun x => x ∈ L0) c := by
  intro c
  refine ⟨q.snd c, fun hc => ?_⟩
  induction hc with
  | base c hc =>
    obtain ⟨T, hR, _⟩ := q.sh
    rw [hR]; exact List.mem_append_left _ hc
  | step c x hc hx he ih =>
    obtain ⟨k, hk, rfl⟩ := List.getElem_of_mem ih
    exact q.cl k hk hk x hx he
end
/-! ### The program's search for the next slab -/
structure ScI (cv : Cell → Int) (Pr : Cell → Prop) (best : Int) (cells : List Cell) : Prop where
  none : best < 0 → best = -1 ∧ cells = [] ∧ ∀ x, ¬ Pr x
  some : 0 ≤ best → (∀ x, Pr x → best ≤ cv x) ∧ (∀ x, x ∈ cells ↔ Pr x ∧ cv x = best) ∧ ∃ x, Pr x ∧ cv x = best
section
variable {cv : Cell → Int} {Pr Pr' : Cell → Prop} {best : Int} {cells : List Cell} {x : Cell}
theorem ScI.iff (q : ScI cv Pr best cells) (hP : ∀ x, Pr x ↔ Pr' x) : ScI cv Pr' best cells := by
  refine ⟨fun h => ⟨(q.none h).1, (q.none h).2.1, fun x hx => (q.none h).2.2 x ((hP x).2 hx)⟩, fun h => ?_⟩
  obtain ⟨h1, h2, y, h3, h4⟩ := q.some h
  exact ⟨fun x hx => h1 x ((hP x).2 hx), fun x => by rw [h2 x, hP x], y, (hP y).1 h3, h4⟩
theorem ScI.zero (cv : Cell → Int) : ScI cv (fun _ => False) (-1) [] := ⟨fun _ => ⟨rfl, rfl, fun _ h => h⟩, fun h => by omega⟩
theorem ScI.less (q : ScI cv Pr best cells) (h0 : 0 ≤ best) (hx : best < cv x) : ScI cv (fun y => Pr y ∨ y = x) best cells := by
  refine ⟨fun h => by omega, fun _ => ?_⟩
  obtain ⟨h1, h2, y, h3, h4⟩ := q.some h0
  refine ⟨fun z hz => ?_, fun z => ?_, y, .inl h3, h4⟩
  · rcases hz with hz | hz
    · exact h1 z hz
    · subst hz; omega
  · rw [h2 z]
    constructor
    · rintro ⟨a, b⟩; exact ⟨.inl a, b⟩
    · rintro ⟨a | a, b⟩
      · exact ⟨a, b⟩
      · subst a; omega
theorem ScI.add (q : ScI cv Pr best cells) (h0 : 0 ≤ best) (hx : cv x = best) : ScI cv (fun y => Pr y ∨ y = x) best (cells ++ [x]) := by
  refine ⟨fun h => by omega, fun _ => ?_⟩
  obtain ⟨h1, h2, y, h3, h4⟩ := q.some h0
  refine ⟨fun z hz => ?_, fun z => ?_, y, .inl h3, h4⟩
  · rcases hz with hz | hz
    · exact h1 z hz
    · subst hz; omega
  · rw [List.mem_append, h2 z, List.mem_singleton]
    constructor
    · rintro (⟨a, b⟩ | a)
      · exact ⟨.inl a, b⟩
      · subst a; exact ⟨.inr rfl, hx⟩
    · rintro ⟨a | a, b⟩
      · exact .inl ⟨a, b⟩
      · exact .inr a
theorem ScI.new (q : ScI cv Pr best cells) (h0 : 0 ≤ cv x) (hx : best < 0 ∨ cv x < best) : ScI cv (fun y => Pr y ∨ y = x) (cv x) [x] := by
  have hlt : ∀ z, Pr z → cv x < cv z := by
    intro z hz
    by_cases hb : best < 0
    · exact absurd hz ((q.none hb).2.2 z)
    · have := (q.some (by omega)).1 z hz
      omega
  refine ⟨fun h => by omega, fun _ => ⟨fun z hz => ?_, fun z => ?_, x, .inr rfl, rfl⟩⟩
  · rcases hz with hz | hz
    · exact Int.le_of_lt (hlt z hz)
    · subst hz; exact Int.le_refl _
  · rw [List.mem_singleton]
    constructor
    · intro a; subst a; exact ⟨.inr rfl, rfl⟩
    · rintro ⟨a | a, b⟩
      · have := hlt z a; omega
      · exact a
end
/-- What has been looked at: all of the first i cells, and the first j beside the next one. -/
def prI (w h : Int) (cv E : Cell → Int) (v : Int) (R : List Cell) (i : Nat) (a : Cell) (ys : List Cell) (j : Nat) (x : Cell) : Prop :=
  (∃ k, ∃ hk : k < R.length, k < i ∧ x ∈ aroundL w h R[k] ∧ entI cv R[k] x = 1 ∧ E x = v) ∨ ∃ k, ∃ hk : k < ys.length, k < j ∧ x = ys[k] ∧ entI cv a ys[k] = 1 ∧ E ys[k] = v
def convB (cv : Cell → Int) : Prop := ∀ (a b c : Cell), 0 ≤ cv a → cv a = cv b → min a.x b.x ≤ c.x → c.x ≤ max a.x b.x → min a.y b.y ≤ c.y → c.y ≤ max a.y b.y → cv c = cv a
theorem one_side {w h : Int} {cv : Cell → Int} (hC : convB cv) {c x y : Cell} (hx : x ∈ aroundL w h c) (hy : y ∈ aroundL w h c) (ex : entI cv c x = 1) (ey : entI cv c y = 1) (e : cv x = cv y) : x = y := by
  rw [entI_one] at ex ey
  have h1 := (around_mem.1 hx).2
  have h2 := (around_mem.1 hy).2
  refine Classical.byContradiction fun hne => ?_
  have hne' : ¬ (x.x = y.x ∧ x.y = y.y) := fun h => hne (by cases x; cases y; simp_all)
  have := hC x y c ex.1 e (by omega) (by omega) (by omega) (by omega)
  omega
theorem countP_one {α : Type} (p : α → Bool) : ∀ (l : List α), l.Nodup → (∀ x ∈ l, ∀ y ∈ l, p x = true → p y = true → x = y) → l.countP p ≤ 1
  | [], _, _ => by simp
  | a :: r, hn, h => by
    rw [List.nodup_cons] at hn
    rw [List.countP_cons]
    have h1 := countP_one p r hn.2 (fun x hx y hy => h x (List.mem_cons_of_mem _ hx) y (List.mem_cons_of_mem _ hy))
    by_cases ha : p a = true
    · have : r.countP p = 0 := by
        rw [List.countP_eq_zero]
        intro x hx hpx
        have := h a (by simp) x (List.mem_cons_of_mem _ hx) ha hpx
        subst this
        exact hn.1 hx
      simp [ha, this]
    · simp [ha]; omega
theorem around_nodup (w h : Int) (c : Cell) : (aroundL w h c).Nodup := by
  unfold aroundL
  refine List.Pairwise.filter _ ?_
  simp [four]
  omega
/-- The list does not grow beyond the cells that were looked at. -/
def cntE (cv : Cell → Int) (a : Cell) (best : Int) (l : List Cell) : Nat := l.countP (fun x => decide (entI cv a x = 1 ∧ cv x = best))
theorem cntE_one {w h : Int} {cv : Cell → Int} (hC : convB cv) (a : Cell) (best : Int) : cntE cv a best (aroundL w h a) ≤ 1 := by
  refine countP_one _ _ (around_nodup w h a) (fun x hx y hy px py => ?_)
  simp only [decide_eq_true_eq] at px py
  exact one_side hC hx hy px.1 py.1 (by omega)
theorem cntE_succ (cv : Cell → Int) (a : Cell) (best : Int) (ys : List Cell) (j : Nat) (hj : j < ys.length) : cntE cv a best (ys.take (j + 1)) = cntE cv a best (ys.take j) + if entI cv a ys[j] = 1 ∧ cv ys[j] = best then 1 else 0 := by
  unfold cntE
  rw [List.take_succ_eq_append_getElem hj, List.countP_append]
  congr 1
  simp [List.countP_cons]
structure Sc4 (w h : Int) (cv E : Cell → Int) (v : Int) (R : List Cell) (i : Nat) (a : Cell) (ys : List Cell) (j : Nat) (best : Int) (cells : List Cell) : Prop where
  sc : ScI cv (prI w h cv E v R i a ys j) best cells
  len : cells.length ≤ i + cntE cv a best (ys.take j)
structure Sc3 (w h : Int) (cv E : Cell → Int) (v : Int) (R : List Cell) (i : Nat) (best : Int) (cells : List Cell) : Prop where
  sc : ScI cv (prI w h cv E v R i ⟨0, 0⟩ [] 0) best cells
  len : cells.length ≤ i
section
variable {w h : Int} {cv E : Cell → Int} {v : Int} {R ys : List Cell} {i j : Nat} {a : Cell} {best : Int} {cells : List Cell}
theorem Sc3.zero (w h : Int) (cv E : Cell → Int) (v : Int) (R : List Cell) : Sc3 w h cv E v R 0 (-1) [] := by
  refine ⟨(ScI.zero cv).iff (fun x => ⟨fun hx => hx.elim, ?_⟩), by simp⟩
  rintro (⟨k, _, hk, _⟩ | ⟨k, hk, _⟩)
  · omega
  · simp at hk
theorem Sc4.zero (q : Sc3 w h cv E v R i best cells) : Sc4 w h cv E v R i a ys 0 best cells := by
  refine ⟨q.sc.iff (fun x => ?_), by have := q.len; omega⟩
  unfold prI
  refine or_congr Iff.rfl ⟨?_, ?_⟩
  · rintro ⟨k, hk, h1, _⟩; simp at hk
  · rintro ⟨k, hk, h1, _⟩; omega
theorem prI_succ (hj : j < ys.length) (x : Cell) : prI w h cv E v R i a ys (j + 1) x ↔ prI w h cv E v R i a ys j x ∨ (x = ys[j] ∧ entI cv a ys[j] = 1 ∧ E ys[j] = v) := by
  unfold prI
  constructor
  · rintro (h1 | ⟨k, hk, hkj, e1, e2, e3⟩)
    · exact .inl (.inl h1)
    · by_cases e : k = j
      · subst e; exact .inr ⟨e1, e2, e3⟩
      · exact .inl (.inr ⟨k, hk, by omega, e1, e2, e3⟩)
  · rintro ((h1 | ⟨k, hk, hkj, e1, e2, e3⟩) | ⟨e1, e2, e3⟩)
    · exact .inl h1
    · exact .inr ⟨k, hk, by omega, e1, e2, e3⟩
    · exact .inr ⟨j, hj, by omega, e1, e2, e3⟩
theorem Sc4.skip (q : Sc4 w h cv E v R i a ys j best cells) (hj : j < ys.length) (hno : ¬ (entI cv a ys[j] = 1 ∧ E ys[j] = v)) : Sc4 w h cv E v R i a ys (j + 1) best cells := by
  refine ⟨q.sc.iff (fun x => ?_), ?_⟩
  · rw [prI_succ hj x]
    exact ⟨.inl, fun hx => hx.elim id (fun ⟨_, h2, h3⟩ => absurd ⟨h2, h3⟩ hno)⟩
  · rw [cntE_succ cv a best ys j hj]
    have := q.len
    omega
theorem Sc4.less (q : Sc4 w h cv E v R i a ys j best cells) (hj : j < ys.length) (he : entI cv a ys[j] = 1) (hv : E ys[j] = v) (h0 : 0 ≤ best) (hlt : best < cv ys[j]) : Sc4 w h cv E v R i a ys (j + 1) best cells := by
  refine ⟨(q.sc.less h0 hlt).iff (fun x => ?_), ?_⟩
  · rw [prI_succ hj x]
    exact or_congr Iff.rfl ⟨fun e => ⟨e, he, hv⟩, fun e => e.1⟩
  · rw [cntE_succ cv a best ys j hj]
    have := q.len
    omega
theorem Sc4.add (q : Sc4 w h cv E v R i a ys j best cells) (hj : j < ys.length) (he : entI cv a ys[j] = 1) (hv : E ys[j] = v) (h0 : 0 ≤ best) (heq : cv ys[j] = best) : Sc4 w h cv E v R i a ys (j + 1) best (cells ++ [ys[j]]) := by
  refine ⟨(q.sc.add h0 heq).iff (fun x => ?_), ?_⟩
  · rw [prI_succ hj x]
    exact or_congr Iff.rfl ⟨fun e => ⟨e, he, hv⟩, fun e => e.1⟩
  · rw [cntE_succ cv a best ys j hj, if_pos ⟨he, heq⟩, List.length_append, List.length_singleton]
    have := q.len
    omega
theorem Sc4.new (q : Sc4 w h cv E v R i a ys j best cells) (hj : j < ys.length) (he : entI cv a ys[j] = 1) (hv : E ys[j] = v) (hlt : best < 0 ∨ cv ys[j] < best) : Sc4 w h cv E v R i a ys (j + 1) (cv ys[j]) [ys[j]] := by
  refine ⟨(q.sc.new (entI_one.1 he).1 hlt).iff (fun x => ?_), ?_⟩
  · rw [prI_succ hj x]
    exact or_congr Iff.rfl ⟨fun e => ⟨e, he, hv⟩, fun e => e.1⟩
  · rw [cntE_succ cv a _ ys j hj, if_pos ⟨he, rfl⟩, List.length_singleton]
    omega
theorem Sc4.fin (hC : convB cv) (q : Sc4 w h cv E v R i a (aroundL w h a) (aroundL w h a).length best cells) (ha : R[i]? = some a) : Sc3 w h cv E v R (i + 1) best cells := by
  obtain ⟨hi, hia⟩ := List.getElem?_eq_some_iff.1 ha
  refine ⟨q.sc.iff (fun x => ?_), ?_⟩
  · unfold prI
    constructor
    · rintro (⟨k, hk, h1, h2⟩ | ⟨k, hk, _, rfl, e2, e3⟩)
      · exact .inl ⟨k, hk, by omega, h2⟩
      · exact .inl ⟨i, hi, by omega, by rw [hia]; exact List.getElem_mem hk, by rw [hia]; exact e2, e3⟩
    · rintro (⟨k, hk, h1, h2, h3, h4⟩ | ⟨k, hk, _⟩)
      · by_cases e : k = i
        · subst e
          rw [hia] at h2 h3
          obtain ⟨m, hm, rfl⟩ := List.getElem_of_mem h2
          exact .inr ⟨m, hm, hm, rfl, h3, h4⟩
        · exact .inl ⟨k, hk, by omega, h2, h3, h4⟩
      · simp at hk
  · have h1 := q.len
    rw [List.take_length] at h1
    have := cntE_one (w := w) (h := h) hC a best
    omega
theorem Sc3.fin (q : Sc3 w h cv E v R R.length best cells) {N : Cell → Prop} (hN : ∀ c, c ∈ R ↔ N c) : ScI cv (candP w h cv E N v) best cells := by
  refine q.sc.iff (fun x => ?_)
  unfold prI candP
  constructor
  · rintro (⟨k, hk, _, h2, h3, h4⟩ | ⟨k, hk, _⟩)
    · exact ⟨R[k], (hN _).1 (List.getElem_mem hk), h2, h3, h4⟩
    · simp at hk
  · rintro ⟨c, hc, h2, h3, h4⟩
    obtain ⟨k, hk, rfl⟩ := List.getElem_of_mem ((hN c).2 hc)
    exact .inl ⟨k, hk, hk, h2, h3, h4⟩
end
end Go.Proofs.Yteflpdfajfljfaa
