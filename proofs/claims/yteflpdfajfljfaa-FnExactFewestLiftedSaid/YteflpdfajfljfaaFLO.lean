/-
The plain law of slabs that are lifted: the reference's search, both searches come tg the same list. No program in sight.
-/
import Derived.Test.YteflpdfajfljfaaFLN
set_option linter.unusedVariables false
set_option linter.unusedSimpArgs false
set_option maxRecDepth 100000
namespace Go.Proofs.Yteflpdfajfljfaa
open Go.RowKit
/-! ### The reference's search for the next slab -/
structure SbI (cv : Cell → Int) (Pr : Cell → Prop) (best : Int) : Prop where
  none : best < 0 → best = -1 ∧ ∀ x, ¬ Pr x
  some : 0 ≤ best → (∀ x, Pr x → best ≤ cv x) ∧ ∃ x, Pr x ∧ cv x = best
section
variable {cv : Cell → Int} {Pr Pr' : Cell → Prop} {best : Int} {x : Cell}
theorem SbI.iff (q : SbI cv Pr best) (hP : ∀ x, Pr x ↔ Pr' x) : SbI cv Pr' best := by
  refine ⟨fun h => ⟨(q.none h).1, fun x hx => (q.none h).2 x ((hP x).2 hx)⟩, fun h => ?_⟩
  obtain ⟨h1, y, h3, h4⟩ := q.some h
  exact ⟨fun x hx => h1 x ((hP x).2 hx), y, (hP y).1 h3, h4⟩
theorem SbI.zero (cv : Cell → Int) : SbI cv (fun _ => False) (-1) := ⟨fun _ => ⟨rfl, fun _ h => h⟩, fun h => by omega⟩
theorem SbI.keep {Q : Prop} (q : SbI cv Pr best) (hq : Q → 0 ≤ best ∧ best ≤ cv x) : SbI cv (fun y => Pr y ∨ (y = x ∧ Q)) best := by
  refine ⟨fun h => ⟨(q.none h).1, fun z hz => ?_⟩, fun h => ?_⟩
  · rcases hz with hz | ⟨_, hz⟩
    · exact (q.none h).2 z hz
    · have := hq hz; omega
  · obtain ⟨h1, y, h3, h4⟩ := q.some h
    refine ⟨fun z hz => ?_, y, .inl h3, h4⟩
    rcases hz with hz | ⟨e, hz⟩
    · exact h1 z hz
    · subst e; exact (hq hz).2
theorem SbI.new {Q : Prop} (q : SbI cv Pr best) (hQ : Q) (h0 : 0 ≤ cv x) (hx : best < 0 ∨ cv x < best) : SbI cv (fun y => Pr y ∨ (y = x ∧ Q)) (cv x) := by
  refine ⟨fun h => by omega, fun _ => ⟨fun z hz => ?_, x, .inr ⟨rfl, hQ⟩, rfl⟩⟩
  rcases hz with hz | ⟨e, hz⟩
  · by_cases hb : best < 0
    · exact absurd hz ((q.none hb).2 z)
    · have := (q.some (by omega)).1 z hz
      omega
  · subst e; exact Int.le_refl _
end
/-- What the reference asks of a cell. -/
def askS (w h : Int) (cv C : Cell → Int) (left : Int) (out : List Int) (fr : Cell) (x : Cell) : Prop := 0 ≤ cv x ∧ cv x ∉ out ∧ C x = left ∧ ∃ c, c ∈ aroundL w h x ∧ RO w h cv fr out c
def prS (w h : Int) (cv C : Cell → Int) (left : Int) (out : List Int) (fr : Cell) (all : List Cell) (i : Nat) (x : Cell) : Prop := ∃ k, ∃ hk : k < all.length, k < i ∧ x = all[k] ∧ askS w h cv C left out fr all[k]
section
variable {w h : Int} {cv C E : Cell → Int} {left : Int} {out : List Int} {fr tg : Cell} {all : List Cell} {i j : Nat} {best : Int} {now : Nat → Cell → Prop} {s : Nat → Int}
def SbA (w h : Int) (cv C : Cell → Int) (left : Int) (out : List Int) (fr : Cell) (all : List Cell) (i : Nat) (best : Int) : Prop := SbI cv (prS w h cv C left out fr all i) best
theorem SbA.zero (w h : Int) (cv C : Cell → Int) (left : Int) (out : List Int) (fr : Cell) (all : List Cell) : SbA w h cv C left out fr all 0 (-1) :=
  (SbI.zero cv).iff fun x => ⟨fun hx => hx.elim, fun ⟨k, _, hk, _⟩ => by omega⟩
theorem prS_succ (hi : i < all.length) (x : Cell) : prS w h cv C left out fr all (i + 1) x ↔ prS w h cv C left out fr all i x ∨ (x = all[i] ∧ askS w h cv C left out fr all[i]) := by
  unfold prS
  constructor
  · rintro ⟨k, hk, h1, e, h2⟩
    by_cases e2 : k = i
    · subst e2; exact .inr ⟨e, h2⟩
    · exact .inl ⟨k, hk, by omega, e, h2⟩
  · rintro (⟨k, hk, h1, e, h2⟩ | ⟨e, h2⟩)
    · exact ⟨k, hk, by omega, e, h2⟩
    · exact ⟨i, hi, by omega, e, h2⟩
theorem SbA.keep (q : SbA w h cv C left out fr all i best) (hi : i < all.length) (hq : askS w h cv C left out fr all[i] → 0 ≤ best ∧ best ≤ cv all[i]) : SbA w h cv C left out fr all (i + 1) best :=
  (SbI.keep (x := all[i]) q hq).iff fun x => (prS_succ hi x).symm
theorem SbA.new (q : SbA w h cv C left out fr all i best) (hi : i < all.length) (hq : askS w h cv C left out fr all[i]) (hx : best < 0 ∨ cv all[i] < best) : SbA w h cv C left out fr all (i + 1) (cv all[i]) :=
  (SbI.new (x := all[i]) q hq hq.1 hx).iff fun x => (prS_succ hi x).symm
theorem SbA.fin (q : SbA w h cv C left out fr all all.length best) (hall : ∀ c, gpB w h c = true ↔ c ∈ all) (y : Lay w h cv E fr j out now s) (hW : Whole w h cv) (hE : IsD w h cv tg E) (hf : gpB w h fr = true) (hC : ∀ c, gpB w h c = true → C c = E c + onI cv c) (hl : left = E fr - j) :
    SbI cv (candP w h cv E (now j) (E fr - (j + 1))) best := by
  refine SbI.iff q fun x => ?_
  unfold prS askS
  constructor
  · rintro ⟨k, hk, _, rfl, h1, h2, h3, h4⟩
    have hp := (hall all[k]).2 (List.getElem_mem hk)
    refine (y.cand_iff hW hE hf hp).2 ⟨h1, h2, ?_, h4⟩
    have := hC _ hp
    have : onI cv all[k] = 1 := by unfold onI; rw [if_pos h1]
    omega
  · intro hx
    have hp := hx.pt
    obtain ⟨k, hk, rfl⟩ := List.getElem_of_mem ((hall x).1 hp)
    obtain ⟨h1, h2, h3, h4⟩ := (y.cand_iff hW hE hf hp).1 hx
    refine ⟨k, hk, hk, rfl, h1, h2, ?_, h4⟩
    have := hC _ hp
    have : onI cv all[k] = 1 := by unfold onI; rw [if_pos h1]
    omega
/-! ### The layers as the two keep them -/
def LayR (w h : Int) (cv E : Cell → Int) (fr : Cell) (j : Nat) (out : List Int) (R : List Cell) : Prop := ∃ now s, Lay w h cv E fr j out now s ∧ ∀ c, c ∈ R ↔ now j c
def LayT (w h : Int) (cv E : Cell → Int) (fr : Cell) (j : Nat) (out : List Int) : Prop := ∃ now s, Lay w h cv E fr j out now s
theorem LayR.begin (w h : Int) (cv E : Cell → Int) (fr : Cell) (R : List Cell) (hR : ∀ c, c ∈ R ↔ R0 w h cv (fun x => x ∈ [fr]) c) : LayR w h cv E fr 0 (if 0 ≤ cv fr then [cv fr] else []) R :=
  ⟨_, _, Lay.begin w h cv E fr, fun c => (hR c).trans (R0.iff (fun x => by simp) c)⟩
theorem LayR.pt {R : List Cell} (y : LayR w h cv E fr j out R) (hf : gpB w h fr = true) : ∀ c ∈ R, gpB w h c = true := by
  obtain ⟨now, s, y, hR⟩ := y
  exact fun c hc => y.pt hf j (Nat.le_refl j) c ((hR c).1 hc)
theorem LayR.step {R cells : List Cell} (y : LayR w h cv E fr j out R) (q : Sc3 w h cv E (E fr - (j + 1)) R R.length best cells) (hE : IsD w h cv tg E) (ht : gpB w h tg = true) (hf : gpB w h fr = true) (hj : (j : Int) < E fr) :
    0 ≤ best ∧ (∀ c ∈ cells, gpB w h c = true) ∧ ∀ R', (∀ c, c ∈ R' ↔ R0 w h cv (fun x => x ∈ cells) c) → LayR w h cv E fr (j + 1) (out ++ [best]) R' := by
  obtain ⟨now, s, y, hR⟩ := y
  have sc := q.fin hR
  obtain ⟨x, hx⟩ := y.some hE ht hf hj
  have h0 : 0 ≤ best := by
    by_cases h : 0 ≤ best
    · exact h
    · exact absurd hx ((sc.none (by omega)).2.2 x)
  obtain ⟨h1, h2, h3⟩ := sc.some h0
  refine ⟨h0, fun c hc => ((h2 c).1 hc).1.pt, fun R' hR' => ⟨_, _, y.next best h3 h1 (fun c => c ∈ R') (fun c => (hR' c).trans (R0.iff h2 c)), fun c => ?_⟩⟩
  simp
theorem LayT.begin (w h : Int) (cv E : Cell → Int) (fr : Cell) : LayT w h cv E fr 0 (if 0 ≤ cv fr then [cv fr] else []) := ⟨_, _, Lay.begin w h cv E fr⟩
theorem LayT.step (y : LayT w h cv E fr j out) (q : SbA w h cv C left out fr all all.length best) (hall : ∀ c, gpB w h c = true ↔ c ∈ all) (hW : Whole w h cv) (hE : IsD w h cv tg E) (ht : gpB w h tg = true) (hf : gpB w h fr = true) (hC : ∀ c, gpB w h c = true → C c = E c + onI cv c) (hl : left = E fr - j) (hj : (j : Int) < E fr) :
    LayT w h cv E fr (j + 1) (out ++ [best]) := by
  obtain ⟨now, s, y⟩ := y
  have sc := SbA.fin q hall y hW hE hf hC hl
  obtain ⟨x, hx⟩ := y.some hE ht hf hj
  have h0 : 0 ≤ best := by
    by_cases h : 0 ≤ best
    · exact h
    · exact absurd hx ((sc.none (by omega)).2 x)
  obtain ⟨h1, h3⟩ := sc.some h0
  exact ⟨_, _, y.next best h3 h1 _ (fun c => Iff.rfl)⟩
theorem LayT.len (y : LayT w h cv E fr j out) : (out.length : Int) = onI cv fr + j := by
  obtain ⟨now, s, y⟩ := y
  rw [y.out_eq]
  unfold onI
  split <;> simp <;> omega
theorem LayT.fin (y : LayT w h cv E fr j out) (hE : IsD w h cv tg E) (ht : gpB w h tg = true) (hf : gpB w h fr = true) (hj : (j : Int) = E fr) : out = fewL w h cv fr tg := by
  obtain ⟨now, s, y⟩ := y
  exact IsFew.eq ht hf ⟨E, j, now, s, hE, hj, y⟩
theorem LayR.toT {R : List Cell} (y : LayR w h cv E fr j out R) : LayT w h cv E fr j out := by
  obtain ⟨now, s, y, _⟩ := y
  exact ⟨now, s, y⟩
/-- What lies in 'out' are slabs. -/
theorem LayT.mem (y : LayT w h cv E fr j out) : ∀ k ∈ out, ∃ c, cv c = k ∧ 0 ≤ k := by
  obtain ⟨now, s, y⟩ := y
  intro k hk
  rcases (y.mem k).1 hk with ⟨h0, rfl⟩ | ⟨i, hi, rfl⟩
  · exact ⟨fr, rfl, h0⟩
  · obtain ⟨h0, a, ha, _⟩ := y.slab hi
    exact ⟨a, ha, h0⟩
end
/-! ### The reference's reach: a table of what has been come tg -/
structure RoI (w h : Int) (cv : Cell → Int) (fr : Cell) (out : List Int) (B : Cell → Bool) (Q : List Cell) (i : Nat) : Prop where
  nd : Q.Nodup
  key : ∀ c, gpB w h c = true → (B c = true ↔ c ∈ Q)
  fr_ : fr ∈ Q
  snd : ∀ c ∈ Q, RO w h cv fr out c
  cl : ∀ k (hk : k < Q.length), k < i → ∀ x ∈ aroundL w h Q[k], (cv x < 0 ∨ cv x ∈ out) → x ∈ Q
structure RoJ (w h : Int) (cv : Cell → Int) (fr : Cell) (out : List Int) (B : Cell → Bool) (Q : List Cell) (i : Nat) (a : Cell) (ys : List Cell) (j : Nat) : Prop where
  re : RoI w h cv fr out B Q i
  at_ : Q[i]? = some a
  now : ∀ k (hk : k < ys.length), k < j → (cv ys[k] < 0 ∨ cv ys[k] ∈ out) → ys[k] ∈ Q
section
variable {w h : Int} {cv : Cell → Int} {fr : Cell} {out : List Int} {B : Cell → Bool} {Q ys : List Cell} {i j : Nat} {a : Cell}
theorem RO.pt (hf : gpB w h fr = true) {c : Cell} (hr : RO w h cv fr out c) : gpB w h c = true := by
  cases hr with
  | base => exact hf
  | step c x hc hx he => exact around_pt hx
theorem RoI.zero (hf : gpB w h fr = true) (hB : ∀ c, gpB w h c = true → (B c = true ↔ c = fr)) : RoI w h cv fr out B [fr] 0 :=
  ⟨by simp, fun c hc => by rw [hB c hc]; simp, by simp, fun c hc => by rw [List.mem_singleton] at hc; subst hc; exact .base, fun k _ hk => by omega⟩
theorem RoI.pt (q : RoI w h cv fr out B Q i) (hf : gpB w h fr = true) : ∀ c ∈ Q, gpB w h c = true := fun c hc => (q.snd c hc).pt hf
theorem RoI.len (q : RoI w h cv fr out B Q i) (hw : w ≤ 12) (hh : h ≤ 12) (hf : gpB w h fr = true) : Q.length ≤ 144 := cells_len hw hh Q q.nd (q.pt hf)
theorem RoJ.zero (q : RoI w h cv fr out B Q i) (ha : Q[i]? = some a) : RoJ w h cv fr out B Q i a ys 0 := ⟨q, ha, fun k _ hk => by omega⟩
theorem RoJ.skip (q : RoJ w h cv fr out B Q i a ys j) (hj : j < ys.length) (hs : (cv ys[j] < 0 ∨ cv ys[j] ∈ out) → ys[j] ∈ Q) : RoJ w h cv fr out B Q i a ys (j + 1) := by
  refine ⟨q.re, q.at_, fun k hk hkj he => ?_⟩
  by_cases e : k = j
  · subst e; exact hs he
  · exact q.now k hk (by omega) he
theorem RoJ.put (q : RoJ w h cv fr out B Q i a ys j) (hj : j < ys.length) (hy : ys[j] ∈ aroundL w h a) (he : cv ys[j] < 0 ∨ cv ys[j] ∈ out) (hn : ys[j] ∉ Q) (B' : Cell → Bool) (hB : ∀ c, gpB w h c = true → B' c = (B c || decide (c = ys[j]))) : RoJ w h cv fr out B' (Q ++ [ys[j]]) i a ys (j + 1) := by
  obtain ⟨hi, hia⟩ := List.getElem?_eq_some_iff.1 q.at_
  have ham : a ∈ Q := by rw [← hia]; exact List.getElem_mem hi
  refine ⟨⟨?_, fun c hc => ?_, List.mem_append_left _ q.re.fr_, fun c hc => ?_, fun k hk hki z hz hez => ?_⟩, ?_, fun k hk hkj hek => ?_⟩
  · rw [List.nodup_append]
    refine ⟨q.re.nd, by simp, fun b hb b' hb' e => ?_⟩
    rw [List.mem_singleton] at hb'
    subst hb'
    subst e
    exact hn hb
  · rw [hB c hc, Bool.or_eq_true, q.re.key c hc, List.mem_append, List.mem_singleton, decide_eq_true_eq]
  · rcases List.mem_append.1 hc with hc | hc
    · exact q.re.snd c hc
    · rw [List.mem_singleton] at hc
      subst hc
      exact .step a _ (q.re.snd a ham) hy he
  · have hkR : k < Q.length := by omega
    have e : (Q ++ [ys[j]])[k] = Q[k] := List.getElem_append_left hkR
    rw [e] at hz
    exact List.mem_append_left _ (q.re.cl k hkR hki z hz hez)
  · rw [List.getElem?_append_left hi]; exact q.at_
  · by_cases e : k = j
    · subst e; simp
    · exact List.mem_append_left _ (q.now k hk (by omega) hek)
theorem RoJ.fin (q : RoJ w h cv fr out B Q i a (aroundL w h a) (aroundL w h a).length) : RoI w h cv fr out B Q (i + 1) := by
  refine ⟨q.re.nd, q.re.key, q.re.fr_, q.re.snd, fun k hk hki x hx he => ?_⟩
  by_cases e : k = i
  · subst e
    obtain ⟨_, hia⟩ := List.getElem?_eq_some_iff.1 q.at_
    rw [hia] at hx
    obtain ⟨j, hj, rfl⟩ := List.getElem_of_mem hx
    exact q.now j hj hj he
  · exact q.re.cl k hk (by omega) x hx he
theorem RoI.fin (q : RoI w h cv fr out B Q Q.length) : ∀ c, gpB w h c = true → (B c = true ↔ RO w h cv fr out c) := by
  intro c hc
  rw [q.key c hc]
  refine ⟨q.snd c, fun hr => ?_⟩
  clear hc
  induction hr with
  | base => exact q.fr_
  | step c x hc hx he ih =>
    obtain ⟨k, hk, rfl⟩ := List.getElem_of_mem ih
    exact q.cl k hk hk x hx he
end
end Go.Proofs.Yteflpdfajfljfaa
