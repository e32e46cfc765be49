/-
The reference's laying of slabs into a grid. Conditions: numbers are of their kinds; slices can be read.
-/
import Derived.Test.YteflpdfajfljfaaSQ4
set_option linter.unusedVariables false
set_option linter.unusedSimpArgs false
set_option maxRecDepth 100000
namespace Go.Proofs.Yteflpdfajfljfaa
open Go.RowKit
def gcells (g : List Int) : Array Value := (g.map (Value.int .i64)).toArray
theorem gcells_size (g : List Int) : (gcells g).size = g.length := by simp [gcells]
theorem gcells_one (g : List Int) : (gcells g).all (·.oneCell') = true := by
  unfold gcells
  refine all_oneCell_toArray fun v hv => ?_
  obtain ⟨n, _, rfl⟩ := List.mem_map.1 hv
  rfl
theorem gcells_get (g : List Int) (j : Nat) (n : Int) (h : g[j]? = some n) : (gcells g)[j]? = some (.int .i64 n) := by
  simp [gcells, h]
theorem gcells_set (g : List Int) (j : Nat) (n : Int) : (gcells g).setIfInBounds j (.int .i64 n) = gcells (g.set j n) := by
  apply Array.ext'
  simp [gcells, List.map_set]
theorem zero85 : Try.zeroCells70 = gcells (gridL []) := by kernel_rfl
theorem info85 : (Try.prog.info? 70).map (·.size) = some 144 := by kernel_rfl
/-- What a laid grid answers. -/
def RetLay (W : World) (ok : Bool) (sl : List Slab) (e : Ending) (W' : World) : Prop :=
  ∃ g : List Int, e = .returned (.tuple #[.agg (gcells g), .bool ok]) ∧ g.length = 144 ∧ (ok = true → g = gridL sl) ∧ Below W.heap.size W W'
theorem lay_ret {P : Program} {fn : Func} {g2 t : Nat} {R : Ending → World → Prop} {a : Act} {W : World} {T n e : TypeId} (hr : fn.results = #[.cell g2 T, .tmp t]) {p : Nat} (hp : a.tmps.getD g2 undef = .pointer (some ⟨p, 0, none⟩)) {cs : Array Value} {T' : TypeId} (hb : Bk W p T' cs)
    (hu : P.underlying T = some (.array n e)) (hi : (P.info? T).map (·.size) = some cs.size) (hd : a.defers = []) (hR : R (.returned (.tuple #[.agg cs, a.tmps.getD t undef])) W) : bodyPost P fn R .ret a W := by
  refine bodyPost_ret (v := .tuple #[.agg cs, a.tmps.getD t undef]) ?_ hd hR
  have := run_loadVar_mid (P := P) W p 0 T cs.toList _ (fun j v hj => by rw [Nat.zero_add]; exact hb.cell j v (by simpa using hj)) hu rfl (by simpa using hi)
  have hp2 : a.tmps[g2]?.getD undef = .pointer (some ⟨p, 0, none⟩) := by simpa using hp
  simp [results, hr, hp2, this, asAddr, Sem.run_bind, Result.andThen]
end Go.Proofs.Yteflpdfajfljfaa
