/-
Own rows of cells: Clone, DeleteFunc. Conditions: the rows are short. (Turned from the rows of pairs.)
-/
import Derived.Test.YthlcmiediedcfaaDoorAP
import Derived.Test.YthlcmiediedcfaaDoorGen
import Derived.Lib.SliceRun
set_option linter.unusedVariables false
set_option linter.unusedSimpArgs false
set_option maxRecDepth 100000
namespace Go.Proofs.YthlcmiediedcfaaDoor
open Go.RowKit
theorem appCell : AppK Cell.c 2 2 52 98 := AppK.mk' (.agg #[.int .i8 0, .int .i8 0]) (by omega) Cell.c_len (by intro x u hu; simp [Cell.c] at hu; rcases hu with rfl | rfl <;> rfl) Tryd.underlying52 (by kernel_rfl) rfl
def RetRowC {α : Type} (W : World) (E : TypeId) (c : α → List Value) (sz : Nat) (xs : List α) (e : Ending) (w' : World) : Prop := ∃ v, e = .returned v ∧ Own w' W.heap.size E c sz v xs ∧ Below W.heap.size W w'
/-! ### Rows that are cut, and cleared behind the cut -/
theorem setCells_putC (g : Nat) : ∀ (us : List Value) (w : World) (j : Nat), w.setCells g j us = putCells w g j us
  | [], _, _ => rfl
  | u :: r, w, j => by
    show (w.setCell ⟨g, j, none⟩ u).setCells g (j + 1) r = putCells (w.setCell ⟨g, j, none⟩ u) g (j + 1) r
    exact setCells_putC g r _ _
theorem writeAt_outC (us : List Value) : ∀ (L : List Value) (j : Nat), L.length ≤ j → writeAt L j us = L := by
  induction us with
  | nil => exact fun _ _ _ => rfl
  | cons u r ih =>
    intro L j h
    show writeAt (L.set j u) (j + 1) r = L
    rw [List.set_eq_of_length_le h]
    exact ih L (j + 1) (by omega)
section
variable {α : Type} {w : World} {B E sz g n cap k : Nat} {c : α → List Value} {xs : List α}
theorem Own.cutHiC (hc : ∀ x, (c x).length = sz) (h : Own w B E c sz (.slice (some ⟨g, 0, none⟩) n cap) xs) (hk : k ≤ xs.length) : Own w B E c sz (.slice (some ⟨g, 0, none⟩) k cap) (xs.take k) := by
  have hl : (xs.take k).length = k := by rw [List.length_take]; omega
  refine ⟨?_⟩
  rw [hl]
  rcases h.out.2 with ⟨h0, _⟩ | ⟨g', cap', cur, hv, hg, hh, hn, hm, hs, ht⟩
  · cases h0
  · injection hv with e1 e2 e3
    injection e1 with e1
    injection e1 with e1
    subst e1; subst e3
    have hf : ((xs.take k).flatMap c).length = k * sz := by rw [flatMap_length_const c sz hc, hl]
    refine ⟨hf, .inr ⟨g, cap, cur, rfl, hg, hh, by omega, hm, hs, ?_⟩⟩
    have e0 : xs.flatMap c = (xs.take k).flatMap c ++ (xs.drop k).flatMap c := by rw [← List.flatMap_append, List.take_append_drop]
    have h1 : (xs.flatMap c).take (k * sz) = (xs.take k).flatMap c := by rw [e0, ← hf, List.take_left']; rfl
    rw [← h1, ← ht, List.take_take, Nat.min_eq_left (Nat.mul_le_mul_right _ hk)]
theorem Own.clearBehindC (hc : ∀ x, (c x).length = sz) (h : Own w B E c sz (.slice (some ⟨g, 0, none⟩) k cap) xs) (us : List Value) :
    Own (w.setCells g (k * sz) us) B E c sz (.slice (some ⟨g, 0, none⟩) k cap) xs ∧ w.grownBy (w.setCells g (k * sz) us) (some g) := by
  have hn : k = xs.length := by
    rcases h.out.2 with ⟨h0, _⟩ | ⟨g', cap', cur, hv, _⟩
    · cases h0
    · injection hv
  subst hn
  obtain ⟨h1, h2⟩ := putCells_own us w (xs.length * sz) _ h.out
  rw [setCells_putC]
  refine ⟨⟨?_⟩, h2⟩
  rwa [writeAt_outC _ _ _ (by rw [flatMap_length_const c sz hc]; exact Nat.le_refl _)] at h1
end
theorem sizeCell_run (W : World) : (sizeOf (Tryd.prog.elem 52)).run Tryd.prog W = .ok 2 W := by kernel_rfl
theorem hiCell_run (A : Option Addr) (n cap k : Nat) (hk : k ≤ cap) (W : World) : (Instr.sliceAt 52 (.slice A n cap) none (some (.int .i64 (k : Int))) none).run Tryd.prog W = .ok (.slice A k cap) W := by
  rw [run_sliceAt_slice (P := Tryd.prog) W 52 _ _ _ _ (by kernel_rfl), run_slice_h (P := Tryd.prog) W 52 A n cap (by kernel_rfl) .i64 (k : Int) (by omega) (by omega), sizeCell_run]
  cases A <;> simp [Result.andThen, sliced, Addr.add]
theorem loCell_run (g n cap k : Nat) (hk : k < n) (hn : n ≤ cap) (W : World) : (Instr.sliceAt 52 (.slice (some ⟨g, 0, none⟩) n cap) (some (.int .i64 (k : Int))) none none).run Tryd.prog W = .ok (.slice (some ⟨g, k * 2, none⟩) (n - k) (cap - k)) W := by
  rw [run_sliceAt_slice (P := Tryd.prog) W 52 _ _ _ _ (by kernel_rfl), run_slice_l (P := Tryd.prog) W 52 (some ⟨g, 0, none⟩) n cap (by kernel_rfl) .i64 (k : Int) (by omega) (by omega), sizeCell_run]
  have : cap ≠ k := by omega
  cases k <;> simp [Result.andThen, sliced, Addr.add, this]
theorem zeroCell_run (w : World) : (zeroValue 98).run Tryd.prog w = .ok (.agg #[.int .i8 0, .int .i8 0]) w := by kernel_rfl
theorem clearCell_run (w : World) (ty : TypeId) (g o n c : Nat) (hn : 0 < n) (hc : ∀ j, j < n * 2 → (w.cell? ⟨g, o + j, none⟩).isSome = true) (hf : ∀ j, w.frozen? ⟨g, j, none⟩ = false) :
    ∃ us, (Builtin.clear_ #[52] ty #[.slice (some ⟨g, o, none⟩) n c]).run Tryd.prog w = .ok (.tuple #[]) (w.setCells g o us) := by
  refine ⟨(Builtin.zeroCells #[.int .i8 0, .int .i8 0] n).toList, ?_⟩
  have hl : (Builtin.zeroCells #[.int .i8 0, .int .i8 0] n).toList.length = n * 2 := by simp [Builtin.zeroCells]
  have hst := run_storeCells_cells (P := Tryd.prog) g o (Builtin.zeroCells #[.int .i8 0, .int .i8 0] n).toList 0 w (by rw [hl]; simpa using hc) (fun j _ => hf _) (by
    intro v hv
    simp only [Builtin.zeroCells, List.mem_map, Array.toList_map, List.size_toArray, List.length_cons, List.length_nil] at hv
    obtain ⟨i, _, rfl⟩ := hv
    have : i % 2 < 2 := Nat.mod_lt _ (by omega)
    rcases (show i % 2 = 0 ∨ i % 2 = 1 by omega) with h | h <;> simp [h] <;> rfl)
  simp only [Nat.add_zero] at hst
  obtain ⟨m, rfl⟩ : ∃ m, n = m + 1 := ⟨n - 1, by omega⟩
  simp [Builtin.clear_, run_underlying Tryd.underlying52, zeroCell_run, Value.cells, hst]
