/-
The library's Split and Cut at texts. Conditions: the cell of internal/bytealg.MaxLen stands.
-/
import Derived.Shelf.Strings.SplitShaped
import Derived.Shelf.Strings.Shaped
import Derived.Shelf.Lay
import Derived.Ground.NamesProg
import Derived.Test.YthlcmiediedcfaaDoorTX7
set_option linter.unusedVariables false
set_option linter.unusedSimpArgs false
set_option maxRecDepth 100000
namespace Go.Proofs.YthlcmiediedcfaaDoor
open Go.RowKit
section
open Go.Shelf
shelf_lay LaysM.n146 Nm 146 at Tryd as Tryd.laysSplit
shelf_lay LaysM.n145 Nm 145 at Tryd as Tryd.laysCut
end
/-- The cell of the library's variable MaxLen holds a number. -/
def MaxP (W : World) : Prop := ∃ m, W.cell? ⟨Tryd.laysCut_ren.g 1, 0, none⟩ = some (.int .i64 m)
theorem cut_calls (l : List UInt8) (c : UInt8) (hl : l.length ≤ 2000000) (W : World) (hm : MaxP W) : Calls Tryd.prog 67 #[.string ⟨l.toArray⟩, .string ⟨#[c]⟩] W fun e w' => e = .returned (.tuple #[str (Lib.cut l [c]).1, str (Lib.cut l [c]).2.1, .bool (Lib.cut l [c]).2.2]) ∧ ∃ n, w' = W.drewN n := by
  obtain ⟨m, hm⟩ := hm
  refine (Any.strings_Cut { Tryd.laysCut with } ⟨l.toArray⟩ ⟨#[c]⟩ m W (by simp [ByteArray.size]; omega) hm).mono ?_
  rintro e w' ⟨rfl, n, rfl⟩
  exact ⟨rfl, n, rfl⟩
theorem pieces_same (l : List UInt8) (c : UInt8) : (Lib.splitB ⟨#[c]⟩ 0 (Lib.countB ⟨l.toArray⟩ ⟨#[c]⟩) ⟨l.toArray⟩).map Value.string = (splitL c l).map (fun l => Value.string ⟨l.toArray⟩) := by
  have h := Lib.splitB_data ⟨#[c]⟩ 0 (Lib.countB ⟨l.toArray⟩ ⟨#[c]⟩) ⟨l.toArray⟩
  have h2 : Lib.splitK [c] 0 (Lib.count l [c]) l = splitL c l := split_same c l.length l (Nat.le_refl _)
  rw [← h2, show Lib.splitK [c] 0 (Lib.count l [c]) l = _ from h.symm, List.map_map]
  rfl
theorem split_calls (l : List UInt8) (c : UInt8) (hl : l.length ≤ 2000000) (W : World) (hm : MaxP W) : Calls Tryd.prog 66 #[.string ⟨l.toArray⟩, .string ⟨#[c]⟩] W fun e w' => e = .returned (.slice (some ⟨W.heap.size, 0, none⟩) (splitL c l).length (splitL c l).length) ∧ w' = W.alloc (.cells ((splitL c l).map (fun l => Value.string ⟨l.toArray⟩)).toArray 9) := by
  obtain ⟨m, hm⟩ := hm
  have hp := pieces_same l c
  have hn : Lib.countB ⟨l.toArray⟩ ⟨#[c]⟩ + 1 = (splitL c l).length := by
    have := congrArg List.length hp
    rw [List.length_map, List.length_map, Lib.splitB_all ⟨#[c]⟩ (Nat.le_refl 1) 0 _ _ rfl] at this
    exact this
  refine (Any.strings_Split { Tryd.laysSplit with } Tryd.laysSplit.i9 ⟨l.toArray⟩ ⟨#[c]⟩ m W (by simp [ByteArray.size]; omega) hm (by simp [ByteArray.size])).mono ?_
  rintro e w' ⟨rfl, rfl⟩
  exact ⟨by rw [hn], by rw [hp]; rfl⟩
end Go.Proofs.YthlcmiediedcfaaDoor
