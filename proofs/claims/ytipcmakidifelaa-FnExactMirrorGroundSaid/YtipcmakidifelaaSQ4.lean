/-
The reference's laying of slabs into a grid: its parts. Conditions: numbers are of their kinds; slices can be read.
-/
import Derived.Test.YtipcmakidifelaaSQ2
import Derived.Deep.WholeRow
set_option linter.unusedVariables false
set_option linter.unusedSimpArgs false
set_option maxRecDepth 100000
namespace Go.Proofs.Ytipcmakidifelaa
open Go.RowKit
/-! ### Whole blocks of a long array -/
theorem Bk.grown {w w' : World} {g g' : Nat} {T : TypeId} {cs : Array Value} (h : Bk w g T cs) (hG : w.grownBy w' (some g')) (hne : g ≠ g') : Bk w' g T cs := (hG.block g h.lt (fun e => hne (by injection e))).trans h
theorem wpList_load_bk {P : Program} {ops : Array Oper} {rest : List Oper} {op : Oper} {a : Act} {w : World} {Q : Exit → Act → World → Prop} (hgd : op.guard = none) (ty : TypeId) (x : Operand) (ho : op.op = .load ty x)
    (g : Nat) (hx : a.eval x = .pointer (some ⟨g, 0, none⟩)) (T : TypeId) (cs : Array Value) (n : Nat) (e : TypeId) (hc : Bk w g T cs) (hu : P.underlying ty = some (.array n e)) (hi : (P.info? ty).map (·.size) = some cs.size)
    (h : wpList P ops Q rest (a.put op.dst (.agg cs)) w) : wpList P ops Q (op :: rest) a w := by
  refine wpList_load_mid hgd ty x ho g 0 hx cs.toList _ (fun j v hj => by rw [Nat.zero_add]; exact hc.cell j v (by simpa using hj)) hu rfl (by simpa using hi) ?_
  simpa using h
theorem wpList_store_bk {P : Program} {ops : Array Oper} {rest : List Oper} {op : Oper} {a : Act} {w : World} {Q : Exit → Act → World → Prop} (hgd : op.guard = none) (ty : TypeId) (x y : Operand) (ho : op.op = .store ty x y)
    (g : Nat) (cells : Array Value) (hx : a.eval x = .pointer (some ⟨g, 0, none⟩)) (hy : a.eval y = .agg cells) (T : TypeId) (old : Array Value) (hc : Bk w g T old) (hs : old.size = cells.size)
    (hi : (P.info? ty).map (·.size) = some cells.size) (h1 : cells.all (·.oneCell') = true)
    (h : ∀ w', Bk w' g T cells → w.grownBy w' (some g) → wpList P ops Q rest (a.put op.dst undef) w') : wpList P ops Q (op :: rest) a w := by
  refine wpList_plain hgd fun _ hK => ?_
  unfold Oper.wp execOp
  simp only [ho, hx, hy, Instr.storeAt, Instr.sureAddr, Sem.run_bind, Sem.run_pure, Result.andThen_ok, run_storeVar_row w g T ty old cells hc hi hs h1]
  refine hK _ _ (h _ ?_ ?_)
  · unfold Bk World.setRow
    have h' : w.heap[g]? = some (.cells old T (0, 0)) := hc
    simp [Array.getElem?_modify, h']
  · refine ⟨rfl, rfl, rfl, by simp [World.setRow], fun k hk hne => ?_⟩
    unfold World.setRow
    rw [Array.getElem?_modify, if_neg (fun e => hne (by rw [e]))]
end Go.Proofs.Ytipcmakidifelaa
