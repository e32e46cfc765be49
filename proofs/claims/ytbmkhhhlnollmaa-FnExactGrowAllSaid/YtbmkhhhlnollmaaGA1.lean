/-
Rows of rows of cells: how they lie, how one row is set behind them. Conditions: the rows are the call's own.
-/
import Derived.Test.YtbmkhhhlnollmaaAP
import Derived.Test.YtbmkhhhlnollmaaMK
set_option linter.unusedVariables false
set_option linter.unusedSimpArgs false
set_option maxRecDepth 100000
namespace Go.Proofs.Ytbmkhhhlnollmaa
open Go.RowKit
/-- A slice, as a cell of another. -/
structure Sd where
  A : Option Addr
  n : Nat
  cap : Nat
def Sd.v (d : Sd) : Value := .slice d.A d.n d.cap
def sdc (d : Sd) : List Value := [d.v]
theorem sdc_len (d : Sd) : (sdc d).length = 1 := rfl
theorem appCC : AppK sdc 1 24 56 47 := AppK.mk' (.slice none 0 0) (by omega) sdc_len (by intro x u hu; simp [sdc] at hu; subst hu; rfl) Try.underlying56 (by kernel_rfl) rfl
theorem Sl.sd {w : World} {B : Nat} {v : Value} {ds : List Sd} (h : Sl w B sdc 1 v ds) : ∃ A cap, v = .slice A ds.length cap ∧ ds.length ≤ cap ∧ cap ≤ 9223372036854775807 ∧
    ∀ k (hk : k < ds.length), ∃ b o, A = some ⟨b, o, none⟩ ∧ b < B ∧ w.cell? ⟨b, o + k, none⟩ = some ds[k].v := by
  obtain ⟨A, cap, rfl, hl, hm, hce⟩ := h.out
  refine ⟨A, cap, rfl, hl, hm, fun k hk => ?_⟩
  obtain ⟨b, o, he, hb, hc⟩ := hce (by omega)
  refine ⟨b, o, he, hb, ?_⟩
  have := hc k ds[k] (List.getElem?_eq_getElem hk) 0 ds[k].v rfl
  simpa using this
/-- A row of the call's own whose elements are rows of the call's own, all in blocks of their own. -/
def RR (w : World) (B : Nat) (v : Value) (xss : List (List Cell)) : Prop :=
  ∃ ds : List Sd, Own w B 47 sdc 1 v ds ∧ ds.length = xss.length ∧
    (∀ (i : Nat) (d : Sd) (xs : List Cell), ds[i]? = some d → xss[i]? = some xs → Own w B 36 Cell.c 2 d.v xs ∧ Apart v d.v) ∧
    ∀ (i j : Nat) (d e : Sd), i < j → ds[i]? = some d → ds[j]? = some e → Apart d.v e.v
section
variable {w w' : World} {B B' : Nat} {v : Value} {xss : List (List Cell)}
theorem RR.nil_ (w : World) (B : Nat) : RR w B (.slice none 0 0) [] := ⟨[], Own.nil_ _ _ _ _ _, rfl, fun i d xs h => by simp at h, fun i j d e h h1 => by simp at h1⟩
theorem RR.empty (W : World) (B g : Nat) (hg : g = W.heap.size) (hB : B ≤ W.heap.size) : RR (W.alloc (.cells #[] 47)) B (.slice (some ⟨g, 0, none⟩) 0 0) [] :=
  ⟨[], Own.empty W B g hg hB, rfl, fun i d xs h => by simp at h, fun i j d e h h1 => by simp at h1⟩
theorem RR.keep (h : RR w B v xss) (hb : ∀ k, B ≤ k → k < w.heap.size → w'.heap[k]? = w.heap[k]?) : RR w' B v xss := by
  obtain ⟨ds, h1, h2, h3, h4⟩ := h
  refine ⟨ds, h1.keep (fun k hk => hb k (h1.base k hk) (h1.lt k hk)), h2, fun i d xs hd hx => ?_, h4⟩
  obtain ⟨g1, g2⟩ := h3 i d xs hd hx
  exact ⟨g1.keep (fun k hk => hb k (g1.base k hk) (g1.lt k hk)), g2⟩
theorem RR.ext (h : RR w B v xss) (hb : Below w.heap.size w w') : RR w' B v xss := h.keep fun k _ hk => hb.block k hk
theorem RR.alloc (h : RR w B v xss) (o : Obj) : RR (w.alloc o) B v xss := h.ext ((Below.refl _ _).alloc (Nat.le_refl _) o)
theorem RR.keepG {r : Option Nat} (h : RR w B v xss) (hG : w.grownBy w' r) (hr : ∀ k, r = some k → k < B) : RR w' B v xss :=
  h.keep fun k h1 h2 => hG.block k h2 (fun e => by have := hr k e.symm; omega)
theorem RR.more (h : RR w B v xss) (hB : B' ≤ B) : RR w B' v xss := by
  obtain ⟨ds, h1, h2, h3, h4⟩ := h
  exact ⟨ds, h1.more hB, h2, fun i d xs hd hx => ⟨(h3 i d xs hd hx).1.more hB, (h3 i d xs hd hx).2⟩, h4⟩
/-- One row set behind. -/
theorem RR.push {ds : List Sd} {v' : Value} {d : Sd} {us : List Cell} {C : Nat}
    (h1 : Own w B 47 sdc 1 v ds) (h2 : ds.length = xss.length)
    (h3 : ∀ (i : Nat) (d : Sd) (xs : List Cell), ds[i]? = some d → xss[i]? = some xs → Own w B 36 Cell.c 2 d.v xs ∧ Apart v d.v)
    (h4 : ∀ (i j : Nat) (d e : Sd), i < j → ds[i]? = some d → ds[j]? = some e → Apart d.v e.v)
    (hd : Own w B 36 Cell.c 2 d.v us) (hC : ∀ k, d.v.ownBlock = some k → C ≤ k) (hvC : ∀ k, v.ownBlock = some k → k < C) (hdC : ∀ (i : Nat) (e : Sd), ds[i]? = some e → ∀ k, e.v.ownBlock = some k → k < C)
    (hO : Own w' B 47 sdc 1 v' (ds ++ [d])) (hG : w.grownBy w' v.ownBlock) (hat : v'.ownBlock = v.ownBlock ∨ v'.ownBlock = some w.heap.size) : RR w' B v' (xss ++ [us]) := by
  have hk : ∀ (e : Sd) (xs : List Cell), Own w B 36 Cell.c 2 e.v xs → Apart v e.v → Own w' B 36 Cell.c 2 e.v xs ∧ Apart v' e.v := fun e xs ho ha =>
    ⟨ho.keep (fun k hk => hG.block k (ho.lt k hk) (fun e => ha k e.symm hk)), fun j g1 g2 => by
      rcases hat with he | he
      · exact ha j (he ▸ g1) g2
      · rw [he] at g1
        injection g1 with g1
        have := ho.lt j g2
        omega⟩
  have had : Apart v d.v := fun j g1 g2 => by have := hvC j g1; have := hC j g2; omega
  refine ⟨ds ++ [d], hO, by simp [h2], fun i e xs he hx => ?_, fun i j e f hij he hf => ?_⟩
  · rcases Nat.lt_or_ge i ds.length with hi | hi
    · rw [List.getElem?_append_left hi] at he
      rw [List.getElem?_append_left (by omega)] at hx
      obtain ⟨g1, g2⟩ := h3 i e xs he hx
      exact hk e xs g1 g2
    · rw [List.getElem?_append_right hi] at he
      rw [List.getElem?_append_right (by omega)] at hx
      have hi2 : i - ds.length = 0 := by
        rcases Nat.eq_zero_or_pos (i - ds.length) with h | h
        · exact h
        · rw [List.getElem?_eq_none (by simp; omega)] at he
          cases he
      rw [hi2] at he
      rw [show i - xss.length = 0 by omega] at hx
      simp at he hx
      subst he; subst hx
      exact hk d us hd had
  · rcases Nat.lt_or_ge j ds.length with hj | hj
    · rw [List.getElem?_append_left hj] at hf
      rw [List.getElem?_append_left (by omega)] at he
      exact h4 i j e f hij he hf
    · rw [List.getElem?_append_right hj] at hf
      have hj2 : j - ds.length = 0 := by
        rcases Nat.eq_zero_or_pos (j - ds.length) with h | h
        · exact h
        · rw [List.getElem?_eq_none (by simp; omega)] at hf
          cases hf
      rw [hj2] at hf
      simp at hf
      subst hf
      rw [List.getElem?_append_left (by omega)] at he
      exact fun k g1 g2 => by have := hdC i e he k g1; have := hC k g2; omega
end
/-- What a call answers that hands back rows of cells, and a number. -/
def RetRR (w : World) (r : List (List Cell) × Int) (e : Ending) (w' : World) : Prop :=
  ∃ v, e = .returned (.tuple #[v, .int .i64 r.2]) ∧ RR w' w.heap.size v r.1 ∧ Below w.heap.size w w'
theorem RetRR.mk {w w' : World} {r : List (List Cell) × Int} {v : Value} {b : Int} (h2 : b = r.2) (ho : RR w' w.heap.size v r.1) (hb : Below w.heap.size w w') : RetRR w r (.returned (.tuple #[v, .int .i64 b])) w' := ⟨v, by rw [h2], ho, hb⟩
theorem bk_sd {w : World} {g : Nat} {d : Sd} (h : Bk w g 47 #[d.v]) : Sl w w.heap.size sdc 1 (.slice (some ⟨g, 0, none⟩) 1 1) [d] := by
  refine ⟨_, 1, rfl, Nat.le_refl _, by omega, fun _ => ⟨g, 0, rfl, h.lt, fun i x hx j u hu => ?_⟩⟩
  match i, hx with
  | 0, hx =>
    simp at hx
    subst hx
    match j, hu with
    | 0, hu =>
      simp [sdc] at hu
      subst hu
      exact h.cell 0 _ rfl
    | j + 1, hu => simp [sdc] at hu
  | i + 1, hx => simp at hx
end Go.Proofs.Ytbmkhhhlnollmaa
