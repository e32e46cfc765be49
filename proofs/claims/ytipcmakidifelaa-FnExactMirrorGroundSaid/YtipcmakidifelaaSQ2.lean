/-
Contracts of the functions that compare slabs and cells, and of searches by a bound method. Conditions: numbers are of their kinds; slices can be read.
-/
import Derived.Test.YtipcmakidifelaaSQ1
set_option linter.unusedVariables false
set_option linter.unusedSimpArgs false
set_option maxRecDepth 100000
namespace Go.Proofs.Ytipcmakidifelaa
open Go.RowKit
/-- A row that is written out, as a slice that reads as a list. -/
theorem Sl.litw {α : Type} (c : α → List Value) (sz : Nat) (hc : ∀ x, (c x).length = sz) (W : World) (xs : List α) (cs : Array Value) (hcs : cs.toList = xs.flatMap c) (g : Nat) (hg : g = W.heap.size) (E : TypeId) (hn : xs.length ≤ 1000000) :
    Sl (W.alloc (.cells cs E)) (W.alloc (.cells cs E)).heap.size c sz (.slice (some ⟨g, 0, none⟩) xs.length xs.length) xs := by
  subst hg
  refine Own.sl (B := W.heap.size) (E := E) hc ⟨?_⟩
  rw [← hcs]
  refine World.ownsRow_lit W cs xs.length (Nat.le_refl _) (by unfold maxLen; omega) ?_
  have := flatMap_length_const c sz hc xs
  rw [← hcs, Array.length_toList] at this
  exact this
theorem sl2i (W : World) (n m : Int) (g : Nat) (hg : g = W.heap.size) (E : TypeId) : Sl (W.alloc (.cells #[.int .i64 n, .int .i64 m] E)) (W.alloc (.cells #[.int .i64 n, .int .i64 m] E)).heap.size i64c 1 (.slice (some ⟨g, 0, none⟩) 2 2) [n, m] :=
  Sl.litw i64c 1 i64c_len W [n, m] _ rfl g hg E (by simp)
def orI (a b : Int) : Int := if a = 0 then b else a
theorem cmpOr_calls (a b : Int) (v : Value) (w : World) (hs : Sl w w.heap.size i64c 1 v [a, b]) :
    Calls Try.prog 82 #[v] w fun e w' => e = .returned (.int .i64 (orI a b)) ∧ w = w' := by
  obtain ⟨A, cap, rfl, hl, hm, hcell⟩ := hs.i64
  obtain ⟨b1, o1, rfl, hb1, h0⟩ := hcell 0 (by simp)
  obtain ⟨b2, o2, he, hb2, h1⟩ := hcell 1 (by simp)
  obtain ⟨rfl, rfl⟩ : b2 = b1 ∧ o2 = o1 := by
    injection he with he
    injection he with e1 e2
    exact ⟨e1.symm, e2.symm⟩
  clear he hb2 hs hcell
  simp only [List.getElem_cons_zero, List.getElem_cons_succ, Nat.add_zero] at h0 h1
  simp only [List.length_cons, List.length_nil, Nat.zero_add, Nat.reduceAdd] at *
  by_cases ha : a = 0
  · subst ha
    have hR := Lib.hid (show orI 0 b = b from if_pos rfl)
    go_enter Try.func82, Try.ntmps82
    go_wp2_with fail
    refine wp_loop_rounds 3 ?_
    rw [rounds_succ]
    go_wp2_with fail
    rw [rounds_succ]
    by_cases hb : b = 0
    · subst hb
      go_wp2_with fail
      rw [rounds_succ]
      go_wp2_with fail
      go_ret
      exact ⟨ret_int hR.out.symm, rfl⟩
    · have hne : (b == 0) = false := by simpa using hb
      have hne2 : (b != 0) = true := by simpa using hb
      clear hb
      go_wp2_with fail
      go_ret
      exact ⟨ret_int hR.out.symm, rfl⟩
  · have hR := Lib.hid (show orI a b = a from if_neg ha)
    have hne : (a == 0) = false := by simpa using ha
    have hne2 : (a != 0) = true := by simpa using ha
    clear ha
    go_enter Try.func82, Try.ntmps82
    go_wp2_with fail
    refine wp_loop_rounds 3 ?_
    rw [rounds_succ]
    go_wp2_with fail
    go_ret
    exact ⟨ret_int hR.out.symm, rfl⟩
def cmpC (a b : Cell) : Int := orI (cmpI a.y b.y) (cmpI a.x b.x)
abbrev CcS (W0 : World) (c d : Nat) (a b : Cell) (w' : World) : Prop :=
  Below W0.heap.size W0 w' ∧ w'.cell? ⟨c, 0, none⟩ = some (.int .i8 a.x) ∧ w'.cell? ⟨c, 1, none⟩ = some (.int .i8 a.y) ∧ w'.cell? ⟨d, 0, none⟩ = some (.int .i8 b.x) ∧ w'.cell? ⟨d, 1, none⟩ = some (.int .i8 b.y)
theorem CcS.keep {W0 w1 w2 : World} {c d : Nat} {a b : Cell} (hc : c < W0.heap.size) (hd : d < W0.heap.size) (h : CcS W0 c d a b w1) (k : Below w1.heap.size w1 w2) : CcS W0 c d a b w2 := by
  obtain ⟨h0, h1, h2, g1, g2⟩ := h
  have hl : c < w1.heap.size := Nat.lt_of_lt_of_le hc h0.size
  have hl2 : d < w1.heap.size := Nat.lt_of_lt_of_le hd h0.size
  have q : ∀ o, w2.cell? ⟨c, o, none⟩ = w1.cell? ⟨c, o, none⟩ := fun o => k.cell (p := ⟨c, o, none⟩) hl
  have r : ∀ o, w2.cell? ⟨d, o, none⟩ = w1.cell? ⟨d, o, none⟩ := fun o => k.cell (p := ⟨d, o, none⟩) hl2
  exact ⟨ext_trans h0 k, (q _).trans h1, (q _).trans h2, (r _).trans g1, (r _).trans g2⟩
set_option maxHeartbeats 2000000 in
theorem cmpCells_calls (a b : Cell) (W : World) :
    Calls Try.prog 61 #[a.v, b.v] W fun e w' => e = .returned (.int .i64 (cmpC a b)) ∧ Below W.heap.size W w' := by
  have hB := Lib.hid (ext_alloc ((Below.refl W.heap.size W).alloc (Nat.le_refl _) (.cells #[.int .i8 a.x, .int .i8 a.y] 38)) (.cells #[.int .i8 b.x, .int .i8 b.y] 38))
  have hsz : W.heap.size + 1 < ((W.alloc (.cells #[.int .i8 a.x, .int .i8 a.y] 38)).alloc (.cells #[.int .i8 b.x, .int .i8 b.y] 38)).heap.size := by simp
  have hS : CcS ((W.alloc (.cells #[.int .i8 a.x, .int .i8 a.y] 38)).alloc (.cells #[.int .i8 b.x, .int .i8 b.y] 38)) W.heap.size (W.heap.size + 1) a b ((W.alloc (.cells #[.int .i8 a.x, .int .i8 a.y] 38)).alloc (.cells #[.int .i8 b.x, .int .i8 b.y] 38)) := by
    refine ⟨Below.refl _ _, ?_, ?_, ?_, ?_⟩ <;> simp
  unfold Cell.v
  have q1 := Lib.hid (fun w => cmp8_calls a.y b.y w)
  have q2 := Lib.hid (fun w => cmp8_calls a.x b.x w)
  have hR := Lib.hid (show cmpC a b = orI (cmpI a.y b.y) (cmpI a.x b.x) from rfl)
  generalize cmpI a.y b.y = n at *
  generalize cmpI a.x b.x = m at *
  go_enter Try.func61, Try.ntmps61
  go_wp2_with fail
  generalize (W.alloc (.cells #[.int .i8 a.x, .int .i8 a.y] 38)).alloc (.cells #[.int .i8 b.x, .int .i8 b.y] 38) = W0 at *
  have hs1 : W.heap.size < W0.heap.size := by omega
  go_region_held3 (CcS W0 W.heap.size (W.heap.size + 1) a b) (first | assumption | exact CcS.keep hs1 hsz (by assumption) ((Below.refl _ _).drew) | exact CcS.keep hs1 hsz (by assumption) ((Below.refl _ _).alloc (Nat.le_refl _) _) | exact CcS.keep hs1 hsz (by assumption) (by assumption)) (first | (go_at_call 83; with_reducible refine (q1.out _).mono ?_; rintro e w' ⟨rfl, rfl⟩) | (go_at_call 83; with_reducible refine (q2.out _).mono ?_; rintro e w' ⟨rfl, rfl⟩) | (go_at_call 82; refine (cmpOr_calls n m _ _ (by repeat (first | exact sl2i _ n m _ rfl _ | refine Sl.ext ?_ ((Below.refl _ _).drew)))).mono ?_; rintro e w' ⟨rfl, rfl⟩))
  go_wp2_with fail
  go_ret
  exact ⟨ret_int hR.out.symm, ext_trans hB.out (And.left (b := _) (by assumption))⟩
end Go.Proofs.Ytipcmakidifelaa
