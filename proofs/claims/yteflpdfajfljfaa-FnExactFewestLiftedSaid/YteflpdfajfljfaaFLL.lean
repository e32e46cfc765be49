/-
The plain law of slabs that are lifted: least numbers, layers. No program in sight.
-/
import Derived.Test.YteflpdfajfljfaaGrL
set_option linter.unusedVariables false
set_option linter.unusedSimpArgs false
set_option maxRecDepth 100000
namespace Go.Proofs.Yteflpdfajfljfaa
open Go.RowKit
/-! ### Ways that lift slabs: 'cv' tells which slab covers a cell, -1 for none -/
/-- 1 if one comes tg a slab by going from a tg b. -/
def entI (cv : Cell → Int) (a b : Cell) : Int := if 0 ≤ cv b ∧ cv b ≠ cv a then 1 else 0
theorem entI_01 (cv : Cell → Int) (a b : Cell) : entI cv a b = 0 ∨ entI cv a b = 1 := by
  unfold entI; split <;> simp
theorem entI_zero {cv : Cell → Int} {a b : Cell} : entI cv a b = 0 ↔ cv b < 0 ∨ cv b = cv a := by
  unfold entI; split <;> omega
theorem entI_one {cv : Cell → Int} {a b : Cell} : entI cv a b = 1 ↔ 0 ≤ cv b ∧ cv b ≠ cv a := by
  unfold entI; split <;> omega
/-- A way from c tg 'tg' comes tg n slabs. -/
inductive WayC (w h : Int) (cv : Cell → Int) (tg : Cell) : Cell → Int → Prop
  | here : WayC w h cv tg tg 0
  | step (c x : Cell) (n : Int) (hc : WayC w h cv tg c n) (hx : x ∈ aroundL w h c) : WayC w h cv tg x (n + entI cv x c)
theorem WayC.pos {w h : Int} {cv : Cell → Int} {tg c : Cell} {n : Int} (hw : WayC w h cv tg c n) : 0 ≤ n := by
  induction hw with
  | here => omega
  | step c x n hc hx ih => have := entI_01 cv x c; omega
theorem WayC.pt {w h : Int} {cv : Cell → Int} {tg c : Cell} {n : Int} (ht : gpB w h tg = true) (hw : WayC w h cv tg c n) : gpB w h c = true := by
  cases hw with
  | here => exact ht
  | step c x n hc hx => exact around_pt hx
/-- The least numbers of slabs that ways tg 'tg' come tg. -/
structure IsD (w h : Int) (cv : Cell → Int) (tg : Cell) (E : Cell → Int) : Prop where
  zero : E tg = 0
  att : ∀ c, gpB w h c = true → WayC w h cv tg c (E c)
  cl : ∀ c x, gpB w h c = true → x ∈ aroundL w h c → E x ≤ E c + entI cv x c
theorem IsD.le {w h : Int} {cv : Cell → Int} {tg : Cell} {E : Cell → Int} (hE : IsD w h cv tg E) (ht : gpB w h tg = true) {c : Cell} {n : Int} (hw : WayC w h cv tg c n) : E c ≤ n := by
  induction hw with
  | here => rw [hE.zero]; omega
  | step c x n hc hx ih =>
    have := hE.cl c x (hc.pt ht) hx
    omega
theorem IsD.uniq {w h : Int} {cv : Cell → Int} {tg : Cell} {E F : Cell → Int} (hE : IsD w h cv tg E) (hF : IsD w h cv tg F) (ht : gpB w h tg = true) (c : Cell) (hc : gpB w h c = true) : E c = F c :=
  Int.le_antisymm (hE.le ht (hF.att c hc)) (hF.le ht (hE.att c hc))
theorem IsD.pos {w h : Int} {cv : Cell → Int} {tg : Cell} {E : Cell → Int} (hE : IsD w h cv tg E) (c : Cell) (hc : gpB w h c = true) : 0 ≤ E c := (hE.att c hc).pos
/-- The program's end: a partial table that is closed. -/
theorem isD_of_map {w h : Int} {cv : Cell → Int} {tg : Cell} (M : Cell → Option Int) (ht : gpB w h tg = true)
    (h1 : ∀ c n, M c = some n → WayC w h cv tg c n) (h2 : ∃ n, M tg = some n ∧ n ≤ 0) (h3 : ∀ c n x, M c = some n → x ∈ aroundL w h c → ∃ m, M x = some m ∧ m ≤ n + entI cv x c) :
    (∀ c, gpB w h c = true → ∃ n, M c = some n) ∧ IsD w h cv tg (fun c => (M c).getD 0) := by
  have hall : ∀ c, gpB w h c = true → ∃ n, M c = some n := by
    refine grid_all (fun c => ∃ n, M c = some n) (fun a c ⟨n, hn⟩ hc => ?_) tg ?_ ht
    · obtain ⟨m, hm, _⟩ := h3 a n c hn hc; exact ⟨m, hm⟩
    · obtain ⟨n, hn, _⟩ := h2; exact ⟨n, hn⟩
  refine ⟨hall, ?_, fun c hc => ?_, fun c x hc hx => ?_⟩
  · obtain ⟨n, hn, hl⟩ := h2
    have := (h1 _ _ hn).pos
    simp [hn]; omega
  · obtain ⟨n, hn⟩ := hall c hc
    have := h1 c n hn
    simpa [hn] using this
  · obtain ⟨n, hn⟩ := hall c hc
    obtain ⟨m, hm, hl⟩ := h3 c n x hn hx
    simpa [hn, hm] using hl
/-- 1 for a cell that a slab covers. -/
def onI (cv : Cell → Int) (c : Cell) : Int := if 0 ≤ cv c then 1 else 0
theorem onI_01 (cv : Cell → Int) (c : Cell) : onI cv c = 0 ∨ onI cv c = 1 := by unfold onI; split <;> simp
/-- What the reference counts: the own slab too. -/
theorem ent_on (cv : Cell → Int) (hcv : ∀ c, -1 ≤ cv c) (c x : Cell) : onI cv x + (if 0 ≤ cv c ∧ cv c ≠ cv x then 1 else 0) = entI cv c x + onI cv c := by
  have := hcv c
  have := hcv x
  unfold onI entI
  repeat' split
  all_goals omega
/-- What holds of a point with n, and with n + 1 of a point beside it, holds of each point with its distance. -/
theorem grid_dist {w h : Int} (P : Nat → Cell → Prop) (hst : ∀ n a c, P n a → c ∈ aroundL w h a → P (n + 1) c) (g : Cell) (hg : P 0 g) (hp : gpB w h g = true) : ∀ c, gpB w h c = true → P ((c.y - g.y).natAbs + (c.x - g.x).natAbs) c := by
  have hx : ∀ n : Nat, ∀ x : Int, (x - g.x).natAbs = n → 0 ≤ x → x ≤ w - 1 → P n ⟨x, g.y⟩ := by
    intro n
    induction n with
    | zero =>
      intro x h1 h2 h3
      have : x = g.x := by omega
      subst this
      exact hg
    | succ n ih =>
      intro x h1 h2 h3
      have hp' := gpB_true.1 hp
      by_cases hlt : x < g.x
      · exact hst n ⟨x + 1, g.y⟩ ⟨x, g.y⟩ (ih (x + 1) (by omega) (by omega) (by omega)) (around_mem.2 ⟨gpB_true.2 ⟨h2, h3, hp'.2.2⟩, .inr ⟨rfl, .inl (by show x = x + 1 - 1; omega)⟩⟩)
      · exact hst n ⟨x - 1, g.y⟩ ⟨x, g.y⟩ (ih (x - 1) (by omega) (by omega) (by omega)) (around_mem.2 ⟨gpB_true.2 ⟨h2, h3, hp'.2.2⟩, .inr ⟨rfl, .inr (by show x = x - 1 + 1; omega)⟩⟩)
  have hy : ∀ n : Nat, ∀ x y : Int, (y - g.y).natAbs = n → 0 ≤ x → x ≤ w - 1 → 0 ≤ y → y ≤ h - 1 → P (n + (x - g.x).natAbs) ⟨x, y⟩ := by
    intro n
    induction n with
    | zero =>
      intro x y h1 h2 h3 _ _
      have : y = g.y := by omega
      subst this
      rw [Nat.zero_add]
      exact hx _ x rfl h2 h3
    | succ n ih =>
      intro x y h1 h2 h3 h4 h5
      have hp' := gpB_true.1 hp
      rw [show n + 1 + (x - g.x).natAbs = n + (x - g.x).natAbs + 1 by omega]
      by_cases hlt : y < g.y
      · exact hst _ ⟨x, y + 1⟩ ⟨x, y⟩ (ih x (y + 1) (by omega) h2 h3 (by omega) (by omega)) (around_mem.2 ⟨gpB_true.2 ⟨h2, h3, h4, h5⟩, .inl ⟨rfl, .inl (by show y = y + 1 - 1; omega)⟩⟩)
      · exact hst _ ⟨x, y - 1⟩ ⟨x, y⟩ (ih x (y - 1) (by omega) h2 h3 (by omega) (by omega)) (around_mem.2 ⟨gpB_true.2 ⟨h2, h3, h4, h5⟩, .inl ⟨rfl, .inr (by show y = y - 1 + 1; omega)⟩⟩)
  rintro ⟨x, y⟩ hc
  obtain ⟨h1, h2, h3, h4⟩ := gpB_true.1 hc
  exact hy _ x y rfl h1 h2 h3 h4
/-- No point is far. -/
theorem way_near {w h : Int} (cv : Cell → Int) {tg : Cell} (w1 : w ≤ 12) (h1 : h ≤ 12) (ht : gpB w h tg = true) (c : Cell) (hc : gpB w h c = true) : ∃ n, WayC w h cv tg c n ∧ n ≤ 22 := by
  obtain ⟨n, hw, hn⟩ := grid_dist (fun k c => ∃ n, WayC w h cv tg c n ∧ n ≤ (k : Int)) (fun k a c ⟨n, hn, hk⟩ hc => ⟨_, .step a c n hn hc, by have := entI_01 cv c a; omega⟩) tg ⟨0, .here, by omega⟩ ht c hc
  refine ⟨n, hw, ?_⟩
  have := gpB_true.1 hc
  have := gpB_true.1 ht
  omega
theorem IsD.le22 {w h : Int} {cv : Cell → Int} {tg : Cell} {E : Cell → Int} (hE : IsD w h cv tg E) (w1 : w ≤ 12) (h1 : h ≤ 12) (ht : gpB w h tg = true) (c : Cell) (hc : gpB w h c = true) : E c ≤ 22 := by
  obtain ⟨n, hn, hl⟩ := way_near cv w1 h1 ht c hc
  have := hE.le ht hn
  omega
/-- The reference's end: a whole table that is closed, 1000 where nothing has come. -/
theorem isD_of_tab {w h : Int} {cv : Cell → Int} {tg : Cell} (C : Cell → Int) (hcv : ∀ c, -1 ≤ cv c) (w1 : w ≤ 12) (hh1 : h ≤ 12) (ht : gpB w h tg = true)
    (h1 : ∀ c, gpB w h c = true → C c = 1000 ∨ C c < 1000 ∧ WayC w h cv tg c (C c - onI cv c)) (h2 : C tg ≤ onI cv tg)
    (h3 : ∀ c x, gpB w h c = true → x ∈ aroundL w h c → C c ≤ C x + (if 0 ≤ cv c ∧ cv c ≠ cv x then 1 else 0)) : IsD w h cv tg (fun c => C c - onI cv c) := by
  have hle : ∀ c n, WayC w h cv tg c n → C c - onI cv c ≤ n := by
    intro c n hw
    induction hw with
    | here => omega
    | step c x n hc hx ih =>
      have := h3 x c (around_pt hx) (around_symm (hc.pt ht) hx)
      have := ent_on cv hcv x c
      omega
  have hat : ∀ c, gpB w h c = true → WayC w h cv tg c (C c - onI cv c) := by
    intro c hc
    obtain ⟨n, hn, hl⟩ := way_near cv w1 hh1 ht c hc
    have := hle c n hn
    have := onI_01 cv c
    rcases h1 c hc with h | h
    · omega
    · exact h.2
  refine ⟨?_, hat, fun c x hc hx => ?_⟩
  · have := (hat tg ht).pos
    show C tg - onI cv tg = 0
    omega
  · have := h3 x c (around_pt hx) (around_symm hc hx)
    have := ent_on cv hcv x c
    show C x - onI cv x ≤ C c - onI cv c + _
    omega
/-! ### Layers -/
/-- What can be come tg from P without a further slab. -/
inductive R0 (w h : Int) (cv : Cell → Int) (P : Cell → Prop) : Cell → Prop
  | base (c : Cell) (hc : P c) : R0 w h cv P c
  | step (c x : Cell) (hc : R0 w h cv P c) (hx : x ∈ aroundL w h c) (he : entI cv c x = 0) : R0 w h cv P x
theorem R0.congr {w h : Int} {cv : Cell → Int} {P Q : Cell → Prop} (h1 : ∀ c, P c → Q c) {c : Cell} (hr : R0 w h cv P c) : R0 w h cv Q c := by
  induction hr with
  | base c hc => exact .base c (h1 c hc)
  | step c x hc hx he ih => exact .step c x ih hx he
theorem R0.iff {w h : Int} {cv : Cell → Int} {P Q : Cell → Prop} (h1 : ∀ c, P c ↔ Q c) (c : Cell) : R0 w h cv P c ↔ R0 w h cv Q c :=
  ⟨R0.congr fun c => (h1 c).1, R0.congr fun c => (h1 c).2⟩
/-- What can be come tg from 'from' through open cells and slabs of 'out'. -/
inductive RO (w h : Int) (cv : Cell → Int) (fr : Cell) (out : List Int) : Cell → Prop
  | base : RO w h cv fr out fr
  | step (c x : Cell) (hc : RO w h cv fr out c) (hx : x ∈ aroundL w h c) (he : cv x < 0 ∨ cv x ∈ out) : RO w h cv fr out x
/-- A slab that can be come tg next. -/
def candP (w h : Int) (cv E : Cell → Int) (now : Cell → Prop) (v : Int) (x : Cell) : Prop := ∃ c, now c ∧ x ∈ aroundL w h c ∧ entI cv c x = 1 ∧ E x = v
structure Lay (w h : Int) (cv E : Cell → Int) (fr : Cell) (j : Nat) (out : List Int) (now : Nat → Cell → Prop) (s : Nat → Int) : Prop where
  out_eq : out = (if 0 ≤ cv fr then [cv fr] else []) ++ (List.range j).map s
  n0 : ∀ c, now 0 c ↔ R0 w h cv (fun x => x = fr) c
  nS : ∀ i, i < j → ∀ c, now (i + 1) c ↔ R0 w h cv (fun x => candP w h cv E (now i) (E fr - (i + 1)) x ∧ cv x = s i) c
  ex : ∀ i, i < j → ∃ x, candP w h cv E (now i) (E fr - (i + 1)) x ∧ cv x = s i
  mn : ∀ i, i < j → ∀ x, candP w h cv E (now i) (E fr - (i + 1)) x → s i ≤ cv x
/-- The slabs are whole: what is closed under steps within a slab, and holds of one cell of it, holds of all. -/
def Whole (w h : Int) (cv : Cell → Int) : Prop := ∀ (P : Cell → Prop) (k : Int), 0 ≤ k → (∀ a c, P a → c ∈ aroundL w h a → cv a = k → cv c = k → P c) → ∀ g, P g → cv g = k → gpB w h g = true → ∀ c, cv c = k → P c
section
variable {w h : Int} {cv E : Cell → Int} {fr tg : Cell} {j : Nat} {out : List Int} {now : Nat → Cell → Prop} {s : Nat → Int}
theorem candP.pt {P : Cell → Prop} {v : Int} {x : Cell} (hc : candP w h cv E P v x) : gpB w h x = true := by
  obtain ⟨c, _, hx, _⟩ := hc
  exact around_pt hx
theorem R0.pt {P : Cell → Prop} (h1 : ∀ c, P c → gpB w h c = true) {c : Cell} (hr : R0 w h cv P c) : gpB w h c = true := by
  cases hr with
  | base c hc => exact h1 c hc
  | step c x hc hx he => exact around_pt hx
theorem Lay.pt (y : Lay w h cv E fr j out now s) (hf : gpB w h fr = true) : ∀ i, i ≤ j → ∀ c, now i c → gpB w h c = true := by
  intro i hi c hc
  cases i with
  | zero => exact ((y.n0 c).1 hc).pt (fun c e => by rw [e]; exact hf)
  | succ i => exact ((y.nS i (by omega) c).1 hc).pt (fun c e => e.1.pt)
theorem Lay.clo (y : Lay w h cv E fr j out now s) : ∀ i, i ≤ j → ∀ c x, now i c → x ∈ aroundL w h c → entI cv c x = 0 → now i x := by
  intro i hi c x hc hx he
  cases i with
  | zero => exact (y.n0 x).2 (.step c x ((y.n0 c).1 hc) hx he)
  | succ i => exact (y.nS i (by omega) x).2 (.step c x ((y.nS i (by omega) c).1 hc) hx he)
/-- No cell of a layer is nearer than the layer. -/
theorem R0.far {P : Cell → Prop} (hE : IsD w h cv tg E) {v : Int} (h0 : ∀ c, P c → gpB w h c = true) (h1 : ∀ c, P c → v ≤ E c) {c : Cell} (hr : R0 w h cv P c) : v ≤ E c := by
  induction hr with
  | base c hc => exact h1 c hc
  | step c x hc hx he ih =>
    have hcp := hc.pt h0
    have h2 := hE.cl x c (around_pt hx) (around_symm hcp hx)
    omega
/-- A cell of layer i is at least as far as the layer. -/
theorem Lay.far (y : Lay w h cv E fr j out now s) (hE : IsD w h cv tg E) (hf : gpB w h fr = true) : ∀ i, i ≤ j → ∀ c, now i c → E fr - i ≤ E c := by
  intro i hi c hc
  cases i with
  | zero => exact ((y.n0 c).1 hc).far hE (fun c e => by rw [e]; exact hf) (fun c e => by rw [e]; omega)
  | succ i => exact ((y.nS i (by omega) c).1 hc).far hE (fun c e => e.1.pt) (fun c e => by obtain ⟨⟨_, _, _, _, h⟩, _⟩ := e; omega)
/-- All cells of a slab are equally far. -/
theorem slab_flat (hE : IsD w h cv tg E) (hW : Whole w h cv) {a : Cell} (ha : gpB w h a = true) (h0 : 0 ≤ cv a) {c : Cell} (hc : cv c = cv a) : E c = E a := by
  refine (hW (fun x => E x = E a ∧ gpB w h x = true) (cv a) h0 (fun p x hp hx e1 e2 => ⟨?_, around_pt hx⟩) a ⟨rfl, ha⟩ rfl ha c hc).1
  have h1 := hE.cl p x hp.2 hx
  have h2 := hE.cl x p (around_pt hx) (around_symm hp.2 hx)
  have e3 : entI cv x p = 0 := by rw [entI_zero]; omega
  have e4 : entI cv p x = 0 := by rw [entI_zero]; omega
  have := hp.1
  omega
/-- A slab of which a cell lies in a layer lies in it whole. -/
theorem Lay.whole (y : Lay w h cv E fr j out now s) (hW : Whole w h cv) (hf : gpB w h fr = true) {i : Nat} (hi : i ≤ j) {a : Cell} (ha : now i a) (h0 : 0 ≤ cv a) {c : Cell} (hc : cv c = cv a) : now i c := by
  refine hW (now i) (cv a) h0 (fun p x hp hx e1 e2 => y.clo i hi p x hp hx (by rw [entI_zero]; omega)) a ha rfl (y.pt hf i hi a ha) c hc
/-- The i-th chosen slab: where it lies, how far it is. -/
theorem Lay.slab (y : Lay w h cv E fr j out now s) {i : Nat} (hi : i < j) : 0 ≤ s i ∧ ∃ a, cv a = s i ∧ now (i + 1) a ∧ gpB w h a = true ∧ E a = E fr - (i + 1) := by
  obtain ⟨x, hx, e⟩ := y.ex i hi
  have hx' := hx
  obtain ⟨c, hc, hxc, he, hv⟩ := hx
  rw [entI_one] at he
  exact ⟨by omega, x, e, (y.nS i hi x).2 (.base x ⟨hx', e⟩), around_pt hxc, hv⟩
theorem Lay.mem (y : Lay w h cv E fr j out now s) (k : Int) : k ∈ out ↔ (0 ≤ cv fr ∧ k = cv fr) ∨ ∃ i, i < j ∧ k = s i := by
  rw [y.out_eq, List.mem_append, List.mem_map]
  refine or_congr ?_ ?_
  · split
    · rename_i h0
      simp [h0]
    · rename_i h0
      simp [h0]
  · constructor
    · rintro ⟨i, hi, rfl⟩; exact ⟨i, List.mem_range.1 hi, rfl⟩
    · rintro ⟨i, hi, rfl⟩; exact ⟨i, List.mem_range.2 hi, rfl⟩
theorem Lay.n0_fr (y : Lay w h cv E fr j out now s) : now 0 fr := (y.n0 fr).2 (.base fr rfl)
/-- What lies in a slab of 'out' lies in a layer. -/
theorem Lay.inOut (y : Lay w h cv E fr j out now s) (hW : Whole w h cv) (hE : IsD w h cv tg E) (hf : gpB w h fr = true) {c : Cell} (hc : cv c ∈ out) : ∃ i, i ≤ j ∧ now i c ∧ E c = E fr - i ∧ 0 ≤ cv c := by
  rcases (y.mem _).1 hc with ⟨h0, e⟩ | ⟨i, hi, e⟩
  · refine ⟨0, by omega, y.whole hW hf (by omega) y.n0_fr h0 e, ?_, by omega⟩
    rw [slab_flat hE hW hf h0 e]; omega
  · obtain ⟨h0, a, ea, hna, hpa, hEa⟩ := y.slab hi
    refine ⟨i + 1, by omega, y.whole hW hf (by omega) hna (by omega) (by omega), ?_, by omega⟩
    rw [slab_flat hE hW hpa (by omega) (by omega), hEa]; omega
/-- A layer's cells lie on slabs of 'out', or on none. -/
theorem R0.cov {P : Cell → Prop} {T : Int → Prop} (h1 : ∀ c, P c → cv c < 0 ∨ T (cv c)) {c : Cell} (hr : R0 w h cv P c) : cv c < 0 ∨ T (cv c) := by
  induction hr with
  | base c hc => exact h1 c hc
  | step c x hc hx he ih =>
    rw [entI_zero] at he
    rcases he with h | h
    · exact .inl h
    · rw [h]; exact ih
theorem Lay.cov (y : Lay w h cv E fr j out now s) {i : Nat} (hi : i ≤ j) {c : Cell} (hc : now i c) : cv c < 0 ∨ cv c ∈ out := by
  cases i with
  | zero =>
    refine ((y.n0 c).1 hc).cov (T := fun k => k ∈ out) (fun c e => ?_)
    subst e
    by_cases h0 : 0 ≤ cv c
    · exact .inr ((y.mem _).2 (.inl ⟨h0, rfl⟩))
    · exact .inl (by omega)
  | succ i => exact ((y.nS i (by omega) c).1 hc).cov (T := fun k => k ∈ out) (fun c e => .inr ((y.mem _).2 (.inr ⟨i, by omega, e.2⟩)))
/-- What can be come tg through 'out' are the layers. -/
theorem RO.trans0 {P : Cell → Prop} (h1 : ∀ c, P c → RO w h cv fr out c) (h2 : ∀ c, P c → cv c < 0 ∨ cv c ∈ out) {c : Cell} (hr : R0 w h cv P c) : RO w h cv fr out c := by
  induction hr with
  | base c hc => exact h1 c hc
  | step c x hc hx he ih =>
    refine .step c x ih hx ?_
    rw [entI_zero] at he
    rcases he with h | h
    · exact .inl h
    · rw [h]; exact hc.cov (T := fun k => k ∈ out) h2
theorem Lay.toRO (y : Lay w h cv E fr j out now s) : ∀ i, i ≤ j → ∀ c, now i c → RO w h cv fr out c := by
  intro i
  induction i with
  | zero =>
    intro hi c hc
    refine RO.trans0 (fun c e => by rw [e]; exact .base) (fun c e => ?_) ((y.n0 c).1 hc)
    rw [e]
    exact y.cov (Nat.zero_le j) y.n0_fr
  | succ i ih =>
    intro hi c hc
    refine RO.trans0 (fun c e => ?_) (fun c e => .inr ((y.mem _).2 (.inr ⟨i, by omega, e.2⟩))) ((y.nS i (by omega) c).1 hc)
    obtain ⟨⟨a, ha, hx, _, _⟩, e2⟩ := e
    exact .step a c (ih (by omega) a ha) hx (.inr ((y.mem _).2 (.inr ⟨i, by omega, e2⟩)))
theorem Lay.ofRO (y : Lay w h cv E fr j out now s) (hW : Whole w h cv) (hE : IsD w h cv tg E) (hf : gpB w h fr = true) {c : Cell} (hr : RO w h cv fr out c) : ∃ i, i ≤ j ∧ now i c := by
  induction hr with
  | base => exact ⟨0, by omega, y.n0_fr⟩
  | step c x hc hx he ih =>
    obtain ⟨i, hi, hn⟩ := ih
    rcases he with h | h
    · exact ⟨i, hi, y.clo i hi c x hn hx (by rw [entI_zero]; exact .inl h)⟩
    · obtain ⟨k, hk, hnk, _, _⟩ := y.inOut hW hE hf h
      exact ⟨k, hk, hnk⟩
/-- The reference's candidates are the program's. -/
theorem Lay.cand_iff (y : Lay w h cv E fr j out now s) (hW : Whole w h cv) (hE : IsD w h cv tg E) (hf : gpB w h fr = true) {x : Cell} (hx : gpB w h x = true) :
    candP w h cv E (now j) (E fr - (j + 1)) x ↔ 0 ≤ cv x ∧ cv x ∉ out ∧ E x = E fr - (j + 1) ∧ ∃ c, c ∈ aroundL w h x ∧ RO w h cv fr out c := by
  constructor
  · rintro ⟨c, hc, hxc, he, hv⟩
    rw [entI_one] at he
    refine ⟨he.1, fun hm => ?_, hv, c, around_symm (y.pt hf j (Nat.le_refl j) c hc) hxc, y.toRO j (Nat.le_refl j) c hc⟩
    obtain ⟨k, hk, _, e, _⟩ := y.inOut hW hE hf hm
    omega
  · rintro ⟨h0, hno, hv, c, hcx, hr⟩
    have hcp := around_pt hcx
    obtain ⟨i, hi, hn⟩ := y.ofRO hW hE hf hr
    have h1 := y.far hE hf i hi c hn
    have h2 := hE.cl x c hx hcx
    have h3 := entI_01 cv c x
    have : i = j := by omega
    subst this
    refine ⟨c, hn, around_symm hx hcx, ?_, hv⟩
    rw [entI_one]
    refine ⟨h0, fun e => ?_⟩
    rcases y.cov hi hn with h | h
    · omega
    · rw [e] at hno; exact hno h
/-- There is a candidate as long as the end has not been come tg. -/
theorem Lay.go (y : Lay w h cv E fr j out now s) (hE : IsD w h cv tg E) (ht : gpB w h tg = true) (hf : gpB w h fr = true) : ∀ (c : Cell) (n : Int), WayC w h cv tg c n → n = E c → now j c → 0 < n → ∃ x, candP w h cv E (now j) (n - 1) x := by
  intro c n hw
  induction hw with
  | here => intro _ _ h; omega
  | step c x n hc hx ih =>
    intro e hn h0
    have hcp := hc.pt ht
    have h1 := hE.le ht hc
    have h2 := hE.cl c x hcp hx
    have hxc := around_symm hcp hx
    rcases entI_01 cv x c with he | he
    · obtain ⟨z, hz⟩ := ih (by omega) (y.clo j (Nat.le_refl j) x c hn hxc he) (by omega)
      exact ⟨z, by rw [show n + entI cv x c - 1 = n - 1 by omega]; exact hz⟩
    · exact ⟨c, x, hn, hxc, he, by omega⟩
/-- A cell of the layer that is just as far. -/
theorem Lay.near (y : Lay w h cv E fr j out now s) : ∃ c, now j c ∧ E c = E fr - j := by
  cases j with
  | zero => exact ⟨fr, y.n0_fr, by omega⟩
  | succ j =>
    obtain ⟨_, a, _, hn, _, e⟩ := y.slab (i := j) (by omega)
    exact ⟨a, hn, by omega⟩
theorem Lay.some (y : Lay w h cv E fr j out now s) (hE : IsD w h cv tg E) (ht : gpB w h tg = true) (hf : gpB w h fr = true) (hj : (j : Int) < E fr) : ∃ x, candP w h cv E (now j) (E fr - (j + 1)) x := by
  obtain ⟨c, hn, e⟩ := y.near
  obtain ⟨x, hx⟩ := y.go hE ht hf c (E c) (hE.att c (y.pt hf j (Nat.le_refl j) c hn)) rfl hn (by omega)
  exact ⟨x, by rw [show E fr - (j + 1) = E c - 1 by omega]; exact hx⟩
/-- At the end all has been come tg. -/
theorem Lay.last (y : Lay w h cv E fr j out now s) (hE : IsD w h cv tg E) (ht : gpB w h tg = true) (hf : gpB w h fr = true) (hj : E fr ≤ (j : Int)) : RO w h cv fr out tg := by
  have key : ∀ (c : Cell) (n : Int), WayC w h cv tg c n → n ≤ 0 → now j c → now j tg := by
    intro c n hw
    induction hw with
    | here => intro _ h; exact h
    | step c x n hc hx ih =>
      intro hn hx'
      have := hc.pos
      have h01 := entI_01 cv x c
      exact ih (by omega) (y.clo j (Nat.le_refl j) x c hx' (around_symm (hc.pt ht) hx) (by omega))
  obtain ⟨c, hn, e⟩ := y.near
  exact y.toRO j (Nat.le_refl j) tg (key c (E c) (hE.att c (y.pt hf j (Nat.le_refl j) c hn)) (by omega) hn)
/-- One layer more. -/
theorem Lay.next (y : Lay w h cv E fr j out now s) (v : Int) (hv : ∃ x, candP w h cv E (now j) (E fr - (j + 1)) x ∧ cv x = v) (hm : ∀ x, candP w h cv E (now j) (E fr - (j + 1)) x → v ≤ cv x) (N : Cell → Prop)
    (hN : ∀ c, N c ↔ R0 w h cv (fun x => candP w h cv E (now j) (E fr - (j + 1)) x ∧ cv x = v) c) :
    Lay w h cv E fr (j + 1) (out ++ [v]) (fun i => if i = j + 1 then N else now i) (fun i => if i = j then v else s i) := by
  have e0 : ∀ i, i ≤ j → (if i = j + 1 then N else now i) = now i := fun i hi => if_neg (by omega)
  have e1 : ∀ i, i < j → (if i = j then v else s i) = s i := fun i hi => if_neg (by omega)
  refine ⟨?_, fun c => ?_, fun i hi c => ?_, fun i hi => ?_, fun i hi x hx => ?_⟩
  · rw [List.range_succ, List.map_append, y.out_eq, List.append_assoc]
    congr 1
    congr 1
    · exact List.map_congr_left fun i hi => (e1 i (List.mem_range.1 hi)).symm
    · simp
  · skip
    rw [e0 0 (by omega)]; exact y.n0 c
  · skip
    rw [e0 i (by omega)]
    by_cases e : i = j
    · subst e
      simp only [if_true]
      exact hN c
    · rw [e0 (i + 1) (by omega), e1 i (by omega)]
      exact y.nS i (by omega) c
  · skip
    rw [e0 i (by omega)]
    by_cases e : i = j
    · subst e
      simpa using hv
    · rw [e1 i (by omega)]
      exact y.ex i (by omega)
  · skip
    rw [e0 i (by omega)] at hx
    by_cases e : i = j
    · subst e
      simpa using hm x hx
    · rw [e1 i (by omega)]
      exact y.mn i (by omega) x hx
theorem Lay.begin (w h : Int) (cv E : Cell → Int) (fr : Cell) : Lay w h cv E fr 0 (if 0 ≤ cv fr then [cv fr] else []) (fun _ => R0 w h cv (fun x => x = fr)) (fun _ => 0) :=
  ⟨by simp, fun _ => Iff.rfl, fun i hi => by omega, fun i hi => by omega, fun i hi => by omega⟩
theorem Lay.same {out' : List Int} {now' : Nat → Cell → Prop} {s' : Nat → Int} {E' : Cell → Int} (y : Lay w h cv E fr j out now s) (y' : Lay w h cv E' fr j out' now' s') (hE : IsD w h cv tg E) (hE' : IsD w h cv tg E') (ht : gpB w h tg = true) (hf : gpB w h fr = true) : out = out' := by
  have eq : ∀ c, gpB w h c = true → E c = E' c := fun c hc => hE.uniq hE' ht c hc
  have cn : ∀ (P P' : Cell → Prop) (v v' : Int), (∀ c, P c ↔ P' c) → v = v' → ∀ x, candP w h cv E P v x ↔ candP w h cv E' P' v' x := by
    rintro P P' v _ hP rfl x
    constructor
    · rintro ⟨c, h1, h2, h3, h4⟩; exact ⟨c, (hP c).1 h1, h2, h3, by rw [← eq x (around_pt h2)]; exact h4⟩
    · rintro ⟨c, h1, h2, h3, h4⟩; exact ⟨c, (hP c).2 h1, h2, h3, by rw [eq x (around_pt h2)]; exact h4⟩
  have key : ∀ i, i ≤ j → (∀ c, now i c ↔ now' i c) ∧ ∀ k, k < i → s k = s' k := by
    intro i
    induction i with
    | zero => exact fun _ => ⟨fun c => (y.n0 c).trans (y'.n0 c).symm, fun k hk => by omega⟩
    | succ i ih =>
      intro hi
      obtain ⟨h1, h2⟩ := ih (by omega)
      have h3 := cn _ _ _ _ h1 (show E fr - (i + 1) = E' fr - ((i : Int) + 1) by rw [eq fr hf])
      obtain ⟨x, hx, ex⟩ := y.ex i (by omega)
      obtain ⟨x', hx', ex'⟩ := y'.ex i (by omega)
      have h4 := y.mn i (by omega) x' ((h3 x').2 hx')
      have h5 := y'.mn i (by omega) x ((h3 x).1 hx)
      have hs : s i = s' i := by omega
      refine ⟨fun c => ?_, fun k hk => ?_⟩
      · rw [y.nS i (by omega) c, y'.nS i (by omega) c]
        exact R0.iff (fun x => by rw [h3 x, hs]) c
      · by_cases e : k = i
        · rw [e]; exact hs
        · exact h2 k (by omega)
  rw [y.out_eq, y'.out_eq]
  congr 1
  exact List.map_congr_left fun i hi => (key j (Nat.le_refl j)).2 i (List.mem_range.1 hi)
/-- The first list of the fewest slabs that are lifted. -/
def IsFew (w h : Int) (cv : Cell → Int) (fr tg : Cell) (out : List Int) : Prop := ∃ (E : Cell → Int) (j : Nat) (now : Nat → Cell → Prop) (s : Nat → Int), IsD w h cv tg E ∧ (j : Int) = E fr ∧ Lay w h cv E fr j out now s
theorem IsFew.uniq {out' : List Int} (ht : gpB w h tg = true) (hf : gpB w h fr = true) (h1 : IsFew w h cv fr tg out) (h2 : IsFew w h cv fr tg out') : out = out' := by
  obtain ⟨E, j, now, s, hE, hj, y⟩ := h1
  obtain ⟨E', j', now', s', hE', hj', y'⟩ := h2
  have : j = j' := by have := hE.uniq hE' ht fr hf; omega
  subst this
  exact y.same y' hE hE' ht hf
open Classical in
noncomputable def fewL (w h : Int) (cv : Cell → Int) (fr tg : Cell) : List Int := if hx : ∃ o, IsFew w h cv fr tg o then hx.choose else []
theorem IsFew.eq (ht : gpB w h tg = true) (hf : gpB w h fr = true) (h1 : IsFew w h cv fr tg out) : out = fewL w h cv fr tg := by
  have hx : ∃ o, IsFew w h cv fr tg o := ⟨out, h1⟩
  unfold fewL
  rw [dif_pos hx]
  exact h1.uniq ht hf hx.choose_spec
end
end Go.Proofs.Yteflpdfajfljfaa
