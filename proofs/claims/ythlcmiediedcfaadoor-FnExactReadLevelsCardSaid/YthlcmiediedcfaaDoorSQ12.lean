/-
Codes of corners, JointsAt: of the reference. Conditions: numbers are of their kinds; slices can be read.
-/
import Derived.Test.YthlcmiediedcfaaDoorSQ11
import Derived.Maps.AppendAt
set_option linter.unusedVariables false
set_option linter.unusedSimpArgs false
set_option maxRecDepth 100000
namespace Go.Proofs.YthlcmiediedcfaaDoor
open Go.RowKit
theorem push_i64at {ops : Array Oper} {rest : List Oper} {o : Oper} {a : Act} {Q : Exit → Act → World → Prop} {W : World} (hgd : o.guard = none) (s x : Operand)
    (ho : o.op = .call { callee := .builtin .append, args := #[s, x], argTypes := #[33, 33] }) (B : Nat) (xs : List Int) (v : Value) (hs : a.eval s = v)
    (hown : Own W B 2 i64c 1 v xs) (ad : Addr) (n : Int) (hx : a.eval x = .slice (some ad) 1 1) (hc : W.cell? ad = some (.int .i64 n)) (hn : xs.length ≤ 1000000) (hB : B ≤ W.heap.size)
    (h : ∀ v' w', Own w' B 2 i64c 1 v' (xs ++ [n]) → W.grownBy w' v.ownBlock → (v'.ownBlock = v.ownBlock ∨ v'.ownBlock = some W.heap.size) → wpList Tryd.prog ops Q rest (a.put o.dst v') w') :
    wpList Tryd.prog ops Q (o :: rest) a W := by
  obtain ⟨i, hi, hz⟩ := Option.map_eq_some_iff.1 (show (Tryd.prog.info? 2).map (fun i => (i.zero, i.size, i.bytes)) = some (some (.int .i64 0), 1, 8) from by kernel_rfl)
  simp only [Prod.mk.injEq] at hz
  obtain ⟨hz0, hz1, hz2⟩ := hz
  refine wpList_append_own_at W hgd s x 33 ho B 2 i (.int .i64 0) 1 8 Tryd.underlying33 hi hz0 hz1 hz2 rfl (by omega) v xs.length _ hs hown.out ad 1 1 [.int .i64 n] hx rfl ?_ ?_ (by unfold maxLen; omega) (by omega) hB ?_
  · intro j u hj
    match j with
    | 0 => simp at hj; subst hj; simpa [Addr.add] using hc
    | j + 1 => simp at hj
  · intro u hu
    simp at hu
    subst hu
    rfl
  · intro v' w' ho' hg _ hat
    exact h v' w' ⟨by simpa [i64c] using ho'⟩ hg hat
theorem zsize : Tryd.zeroCells150.size = 144 := by rw [zero85, gcells_size, gridL_len]
end Go.Proofs.YthlcmiediedcfaaDoor
