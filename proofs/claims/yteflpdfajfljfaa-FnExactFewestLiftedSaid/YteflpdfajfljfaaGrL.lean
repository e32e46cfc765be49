/-
The plain law of grounds: points, levels. No program in sight.
-/
import Derived.Test.YteflpdfajfljfaaVoc
set_option linter.unusedVariables false
set_option linter.unusedSimpArgs false
set_option maxRecDepth 100000
namespace Go.Proofs.Yteflpdfajfljfaa
open Go.RowKit
/-- A point of a ground. -/
def gpB (w h : Int) (c : Cell) : Bool := decide (0 ≤ c.x ∧ c.x ≤ w - 1 ∧ 0 ≤ c.y ∧ c.y ≤ h - 1)
theorem gpB_true {w h : Int} {c : Cell} : gpB w h c = true ↔ 0 ≤ c.x ∧ c.x ≤ w - 1 ∧ 0 ≤ c.y ∧ c.y ≤ h - 1 := by simp [gpB]
/-- The height of a point: 81 numbers, nine a row. -/
def htL (hs : List Int) (c : Cell) : Int := hs.getD (c.y * 9 + c.x).toNat 0
/-- The four places beside a point. -/
def four (c : Cell) : List Cell := [⟨c.x, c.y - 1⟩, ⟨c.x - 1, c.y⟩, ⟨c.x + 1, c.y⟩, ⟨c.x, c.y + 1⟩]
def aroundL (w h : Int) (c : Cell) : List Cell := (four c).filter (gpB w h)
theorem around_mem {w h : Int} {a c : Cell} : c ∈ aroundL w h a ↔ gpB w h c = true ∧ ((c.x = a.x ∧ (c.y = a.y - 1 ∨ c.y = a.y + 1)) ∨ (c.y = a.y ∧ (c.x = a.x - 1 ∨ c.x = a.x + 1))) := by
  obtain ⟨cx, cy⟩ := c
  simp only [aroundL, four, List.mem_filter, List.mem_cons, List.not_mem_nil, or_false, Cell.mk.injEq]
  constructor
  · rintro ⟨h1, h2⟩
    refine ⟨h2, ?_⟩
    omega
  · rintro ⟨h1, h2⟩
    refine ⟨?_, h1⟩
    omega
theorem around_symm {w h : Int} {a c : Cell} (ha : gpB w h a = true) (hc : c ∈ aroundL w h a) : a ∈ aroundL w h c := by
  rw [around_mem] at *
  refine ⟨ha, ?_⟩
  omega
theorem around_pt {w h : Int} {a c : Cell} (hc : c ∈ aroundL w h a) : gpB w h c = true := (around_mem.1 hc).1
theorem around_ne {w h : Int} {a c : Cell} (hc : c ∈ aroundL w h a) : c ≠ a := by
  have := (around_mem.1 hc).2
  rintro rfl
  omega
/-- A number that a way from a gully gives. -/
inductive Att (w h : Int) (hs : List Int) (gl : List Cell) : Cell → Int → Prop
  | gully (c : Cell) (hc : c ∈ gl) : Att w h hs gl c (htL hs c)
  | step (a c : Cell) (n : Int) (ha : Att w h hs gl a n) (hc : c ∈ aroundL w h a) : Att w h hs gl c (max n (htL hs c))
/-- The levels: the least such number of each point. -/
structure IsLev (w h : Int) (hs : List Int) (gl : List Cell) (F : Cell → Int) : Prop where
  att : ∀ c, gpB w h c = true → Att w h hs gl c (F c)
  le : ∀ c n, Att w h hs gl c n → F c ≤ n
theorem IsLev.uniq {w h : Int} {hs : List Int} {gl : List Cell} {F G : Cell → Int} (hF : IsLev w h hs gl F) (hG : IsLev w h hs gl G) (c : Cell) (hc : gpB w h c = true) : F c = G c :=
  Int.le_antisymm (hF.le c _ (hG.att c hc)) (hG.le c _ (hF.att c hc))
/-- What is closed under steps, and holds of a point, holds of all points. -/
theorem grid_all {w h : Int} (P : Cell → Prop) (hst : ∀ a c, P a → c ∈ aroundL w h a → P c) (g : Cell) (hg : P g) (hp : gpB w h g = true) : ∀ c, gpB w h c = true → P c := by
  have hx : ∀ n : Nat, ∀ x : Int, (x - g.x).natAbs = n → 0 ≤ x → x ≤ w - 1 → P ⟨x, g.y⟩ := by
    intro n
    induction n with
    | zero =>
      intro x h1 h2 h3
      have : x = g.x := by omega
      subst this
      exact hg
    | succ n ih =>
      intro x h1 h2 h3
      have hp' := gpB_true.1 hp
      by_cases hlt : x < g.x
      · exact hst ⟨x + 1, g.y⟩ ⟨x, g.y⟩ (ih (x + 1) (by omega) (by omega) (by omega)) (around_mem.2 ⟨gpB_true.2 ⟨h2, h3, hp'.2.2⟩, .inr ⟨rfl, .inl (by show x = x + 1 - 1; omega)⟩⟩)
      · exact hst ⟨x - 1, g.y⟩ ⟨x, g.y⟩ (ih (x - 1) (by omega) (by omega) (by omega)) (around_mem.2 ⟨gpB_true.2 ⟨h2, h3, hp'.2.2⟩, .inr ⟨rfl, .inr (by show x = x - 1 + 1; omega)⟩⟩)
  have hy : ∀ n : Nat, ∀ x y : Int, (y - g.y).natAbs = n → 0 ≤ x → x ≤ w - 1 → 0 ≤ y → y ≤ h - 1 → P ⟨x, y⟩ := by
    intro n
    induction n with
    | zero =>
      intro x y h1 h2 h3 _ _
      have : y = g.y := by omega
      subst this
      exact hx _ x rfl h2 h3
    | succ n ih =>
      intro x y h1 h2 h3 h4 h5
      have hp' := gpB_true.1 hp
      by_cases hlt : y < g.y
      · exact hst ⟨x, y + 1⟩ ⟨x, y⟩ (ih x (y + 1) (by omega) h2 h3 (by omega) (by omega)) (around_mem.2 ⟨gpB_true.2 ⟨h2, h3, h4, h5⟩, .inl ⟨rfl, .inl (by show y = y + 1 - 1; omega)⟩⟩)
      · exact hst ⟨x, y - 1⟩ ⟨x, y⟩ (ih x (y - 1) (by omega) h2 h3 (by omega) (by omega)) (around_mem.2 ⟨gpB_true.2 ⟨h2, h3, h4, h5⟩, .inl ⟨rfl, .inr (by show y = y - 1 + 1; omega)⟩⟩)
  rintro ⟨x, y⟩ hc
  obtain ⟨h1, h2, h3, h4⟩ := gpB_true.1 hc
  exact hy _ x y rfl h1 h2 h3 h4
theorem att_pt {w h : Int} {hs : List Int} {gl : List Cell} (hgl : ∀ g ∈ gl, gpB w h g = true) {c : Cell} {n : Int} (ha : Att w h hs gl c n) : gpB w h c = true := by
  cases ha with
  | gully _ hc => exact hgl _ hc
  | step a _ n ha hc => exact around_pt hc
theorem att_le {w h : Int} {hs : List Int} {gl : List Cell} (F : Cell → Int) (h1 : ∀ g ∈ gl, F g ≤ htL hs g) (h2 : ∀ a c, c ∈ aroundL w h a → gpB w h a = true → F c ≤ max (F a) (htL hs c)) (hgl : ∀ g ∈ gl, gpB w h g = true) {c : Cell} {n : Int} (ha : Att w h hs gl c n) : F c ≤ n := by
  induction ha with
  | gully c hc => exact h1 c hc
  | step a c n ha hc ih =>
    have := h2 a c hc (att_pt hgl ha)
    have h3 : max (F a) (htL hs c) ≤ max n (htL hs c) := by omega
    omega
theorem att_bd {w h : Int} {hs : List Int} {gl : List Cell} (hb : ∀ c, gpB w h c = true → 0 ≤ htL hs c ∧ htL hs c ≤ 200) (hgl : ∀ g ∈ gl, gpB w h g = true) {c : Cell} {n : Int} (ha : Att w h hs gl c n) : 0 ≤ n ∧ n ≤ 200 ∧ htL hs c ≤ n := by
  induction ha with
  | gully c hc => have := hb c (hgl c hc); omega
  | step a c n ha hc ih => have := hb c (around_pt hc); omega
theorem att_all {w h : Int} {hs : List Int} {gl : List Cell} (hne : gl ≠ []) (hgl : ∀ g ∈ gl, gpB w h g = true) (c : Cell) (hc : gpB w h c = true) : ∃ n, Att w h hs gl c n := by
  obtain ⟨g, r, rfl⟩ := List.exists_cons_of_ne_nil hne
  exact grid_all (fun c => ∃ n, Att w h hs (g :: r) c n) (fun a c ⟨n, hn⟩ hc => ⟨_, Att.step a c n hn hc⟩) g ⟨_, Att.gully g (by simp)⟩ (hgl g (by simp)) c hc
/-- The program's end: a partial table that is closed. -/
theorem lev_of_map {w h : Int} {hs : List Int} {gl : List Cell} (M : Cell → Option Int) (hne : gl ≠ []) (hgl : ∀ g ∈ gl, gpB w h g = true)
    (h1 : ∀ c n, M c = some n → Att w h hs gl c n) (h2 : ∀ g ∈ gl, ∃ n, M g = some n ∧ n ≤ htL hs g) (h3 : ∀ a n c, M a = some n → c ∈ aroundL w h a → ∃ m, M c = some m ∧ m ≤ max n (htL hs c)) :
    (∀ c, gpB w h c = true → ∃ n, M c = some n) ∧ IsLev w h hs gl (fun c => (M c).getD 0) := by
  have hall : ∀ c, gpB w h c = true → ∃ n, M c = some n := by
    obtain ⟨g, r, rfl⟩ := List.exists_cons_of_ne_nil hne
    refine grid_all (fun c => ∃ n, M c = some n) (fun a c ⟨n, hn⟩ hc => ?_) g ?_ (hgl g (by simp))
    · obtain ⟨m, hm, _⟩ := h3 a n c hn hc; exact ⟨m, hm⟩
    · obtain ⟨n, hn, _⟩ := h2 g (by simp); exact ⟨n, hn⟩
  refine ⟨hall, fun c hc => ?_, fun c n ha => ?_⟩
  · obtain ⟨n, hn⟩ := hall c hc
    have := h1 c n hn
    simpa [hn] using this
  · refine att_le (fun c => (M c).getD 0) (fun g hg => ?_) (fun a c hc hap => ?_) hgl ha
    · obtain ⟨n, hn, hl⟩ := h2 g hg
      simpa [hn] using hl
    · obtain ⟨n, hn⟩ := hall a hap
      obtain ⟨m, hm, hl⟩ := h3 a n c hn hc
      simpa [hn, hm] using hl
/-- The reference's end: a whole table that is closed, 200 where nothing has come. -/
theorem lev_of_tab {w h : Int} {hs : List Int} {gl : List Cell} (F : Cell → Int) (hne : gl ≠ []) (hgl : ∀ g ∈ gl, gpB w h g = true) (hb : ∀ c, gpB w h c = true → 0 ≤ htL hs c ∧ htL hs c ≤ 200)
    (h1 : ∀ c, gpB w h c = true → F c = 200 ∨ Att w h hs gl c (F c)) (h2 : ∀ g ∈ gl, F g ≤ htL hs g) (h3 : ∀ c a, gpB w h c = true → a ∈ aroundL w h c → F c ≤ max (htL hs c) (F a)) : IsLev w h hs gl F := by
  have hle : ∀ c n, Att w h hs gl c n → F c ≤ n := fun c n ha => att_le F h2 (fun a c hc hap => by
    have := h3 c a (around_pt hc) (around_symm hap hc)
    omega) hgl ha
  refine ⟨fun c hc => ?_, hle⟩
  rcases h1 c hc with h | h
  · obtain ⟨n, hn⟩ := att_all (hs := hs) hne hgl c hc
    have b := att_bd hb hgl hn
    have := hle c n hn
    have : F c = n := by omega
    rw [this]
    exact hn
  · exact h
/-! ### Sums that fall -/
def pot (f : Nat → Nat) : Nat → Nat
  | 0 => 0
  | n + 1 => pot f n + f n
theorem pot_same {f g : Nat → Nat} : ∀ n, (∀ i, i < n → f i = g i) → pot f n = pot g n
  | 0, _ => rfl
  | n + 1, h => by unfold pot; rw [pot_same n (fun i hi => h i (by omega)), h n (by omega)]
theorem pot_lt {f g : Nat → Nat} {k : Nat} : ∀ n, k < n → f k < g k → (∀ i, i < n → i ≠ k → f i = g i) → pot f n < pot g n
  | 0, h, _, _ => by omega
  | n + 1, hk, hlt, h => by
    unfold pot
    by_cases e : k = n
    · subst e
      rw [pot_same k (fun i hi => h i (by omega) (by omega))]
      omega
    · have := pot_lt n (by omega) hlt (fun i hi hne => h i (by omega) hne)
      rw [h n (by omega) (fun e' => e e'.symm)]
      omega
/-! ### Valid grounds -/
def gFine (w h : Int) (hs : List Int) (i : Nat) : Bool := decide (0 ≤ hs.getD i 0 ∧ hs.getD i 0 ≤ if gpB w h ⟨((i % 9 : Nat) : Int), ((i / 9 : Nat) : Int)⟩ = true then 200 else 0)
def befB (a b : Cell) : Bool := decide (a.y < b.y ∨ a.y = b.y ∧ a.x < b.x)
def gulB (w h : Int) (gl : List Cell) (i : Nat) : Bool := match gl[i]? with
  | none => true
  | some c => gpB w h c && (match i with | 0 => true | j + 1 => match gl[j]? with | none => true | some d => befB d c)
def gOk (w h : Int) (hs : List Int) (gl : List Cell) : Bool := decide ((1 ≤ w ∧ w ≤ 9) ∧ (1 ≤ h ∧ h ≤ 9) ∧ gl.length ≤ 8) && ((List.range 81).all (gFine w h hs) && (List.range gl.length).all (gulB w h gl))
structure GOk (w h : Int) (hs : List Int) (gl : List Cell) : Prop where
  w0 : 1 ≤ w
  w1 : w ≤ 9
  h0 : 1 ≤ h
  h1 : h ≤ 9
  len : gl.length ≤ 8
  ht : ∀ c, gpB w h c = true → 0 ≤ htL hs c ∧ htL hs c ≤ 200
  zero : ∀ i : Nat, i < 81 → gpB w h ⟨((i % 9 : Nat) : Int), ((i / 9 : Nat) : Int)⟩ = false → hs.getD i 0 = 0
  gl : ∀ g ∈ gl, gpB w h g = true
theorem gOk_ok {w h : Int} {hs : List Int} {gl : List Cell} (hk : gOk w h hs gl = true) : GOk w h hs gl := by
  simp only [gOk, Bool.and_eq_true, decide_eq_true_eq, List.all_eq_true, List.mem_range] at hk
  obtain ⟨⟨⟨a, b⟩, ⟨c, d⟩, e⟩, hf, hg⟩ := hk
  refine ⟨a, b, c, d, e, fun q hq => ?_, fun i hi hp => ?_, fun q hq => ?_⟩
  · obtain ⟨x, y⟩ := q
    obtain ⟨h1, h2, h3, h4⟩ := gpB_true.1 hq
    simp only at h1 h2 h3 h4
    have := hf (y * 9 + x).toNat (by omega)
    unfold gFine at this
    have e1 : (((y * 9 + x).toNat % 9 : Nat) : Int) = x := by omega
    have e2 : (((y * 9 + x).toNat / 9 : Nat) : Int) = y := by omega
    rw [e1, e2, hq, if_pos rfl, decide_eq_true_eq] at this
    exact this
  · have := hf i hi
    unfold gFine at this
    rw [hp, if_neg (by decide), decide_eq_true_eq] at this
    omega
  · obtain ⟨i, hi, rfl⟩ := List.getElem_of_mem hq
    have := hg i hi
    unfold gulB at this
    rw [List.getElem?_eq_getElem hi] at this
    simp only [Bool.and_eq_true] at this
    exact this.1
end Go.Proofs.Yteflpdfajfljfaa
