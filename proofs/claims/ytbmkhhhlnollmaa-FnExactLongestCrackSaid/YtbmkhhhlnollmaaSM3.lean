/-
A row of cells appended to an own row; slices.Grow and slices.Concat on cells. Conditions: the rows are short.
-/
import Derived.Test.YtbmkhhhlnollmaaSM2
import Derived.Deep.Upon
import Derived.Deep.AppendSrc
import Derived.Lib.AppendZeros
set_option linter.unusedVariables false
set_option linter.unusedSimpArgs false
set_option maxRecDepth 100000
namespace Go.Proofs.Ytbmkhhhlnollmaa
open Go.RowKit
theorem run_app_cells (W : World) (B : Nat) (xs ys : List Cell) (v u : Value) (ty : TypeId) (hown : Own W B 36 Cell.c 2 v xs) (hs : Sl W W.heap.size Cell.c 2 u ys) (hn : xs.length ≤ 4194304) (hm : ys.length ≤ 4194304) (hB : B ≤ W.heap.size) :
    ∃ v' w', (Builtin.append_ #[47, 47] ty #[v, u]).run Try.prog W = .ok v' w' ∧ Own w' B 36 Cell.c 2 v' (xs ++ ys) ∧ W.grownBy w' v.ownBlock ∧ (v'.ownBlock = v.ownBlock ∨ v'.ownBlock = some W.heap.size) := by
  obtain ⟨i, hi, hz⟩ := Option.map_eq_some_iff.1 (show (Try.prog.info? 36).map (fun i => (i.zero, i.size, i.bytes)) = some (some (.agg #[.int .i8 0, .int .i8 0]), 2, 2) from by kernel_rfl)
  simp only [Prod.mk.injEq] at hz
  obtain ⟨hz0, hz1, hz2⟩ := hz
  obtain ⟨A, cap, rfl, hl, hm2, hc⟩ := hs.out
  cases A with
  | none =>
    have h0 : ys = [] := by
      cases ys with
      | nil => rfl
      | cons y ys => obtain ⟨b, o, he, _⟩ := hc (by simp); exact absurd he (by simp)
    subst h0
    rcases hown.out.2 with ⟨rfl, hx0⟩ | ⟨g, cp, cur, rfl, hg, hh, hle, _⟩
    · refine ⟨_, W, run_append_nothing W _ 47 ty _ i Try.underlying47 hi none 0 0 (Nat.le_refl _) _ (Src.ofNil _ Try.underlying47 cap), by simpa using hown, World.grownBy.refl _ _, .inl rfl⟩
    · refine ⟨_, W, run_append_nothing W _ 47 ty _ i Try.underlying47 hi _ _ _ hle _ (Src.ofNil _ Try.underlying47 cap), by simpa using hown, World.grownBy.refl _ _, .inl rfl⟩
  | some ad =>
    have hnews : ∀ j u, (ys.flatMap Cell.c)[j]? = some u → W.cell? (ad.add j) = some u := by
      intro j u hj
      have hpos : 0 < ys.length := by
        cases ys with
        | nil => simp at hj
        | cons y ys => simp
      obtain ⟨b, o, he, _, hcell⟩ := hc hpos
      injection he with he
      subst he
      have hjl : j < (ys.flatMap Cell.c).length := by
        rcases Nat.lt_or_ge j (ys.flatMap Cell.c).length with h | h
        · exact h
        · rw [List.getElem?_eq_none h] at hj; exact absurd hj (by simp)
      have hlen : (ys.flatMap Cell.c).length = ys.length * 2 := flatMap_length_const Cell.c 2 Cell.c_len ys
      have hq : j / 2 < ys.length := by omega
      have hcl : j % 2 < (Cell.c ys[j / 2]).length := by rw [Cell.c_len]; omega
      have h3 := flatMap_at Cell.c 2 Cell.c_len ys (j / 2) (j % 2) ys[j / 2] (Cell.c ys[j / 2])[j % 2] (List.getElem?_eq_getElem hq) (List.getElem?_eq_getElem hcl)
      rw [show j / 2 * 2 + j % 2 = j by omega, hj] at h3
      injection h3 with h3
      have h4 := hcell (j / 2) ys[j / 2] (List.getElem?_eq_getElem hq) (j % 2) (Cell.c ys[j / 2])[j % 2] (List.getElem?_eq_getElem hcl)
      rw [show j / 2 * 2 + j % 2 = j by omega, ← h3] at h4
      rw [show (⟨b, o, none⟩ : Addr).add j = ⟨b, o + j, none⟩ from by cases j <;> simp [Addr.add]]
      exact h4
    obtain ⟨v', w', hr, h2, h3, h4, h5⟩ := run_append_own_at W B _ ty 36 i _ 2 2 Try.underlying47 hi hz0 hz1 hz2 rfl (by omega) v xs.length _ hown.out ad ys.length cap (ys.flatMap Cell.c) (flatMap_length_const Cell.c 2 Cell.c_len ys) hnews (by
      intro u hu
      obtain ⟨y, _, hy⟩ := List.mem_flatMap.1 hu
      simp [Cell.c] at hy
      rcases hy with rfl | rfl <;> rfl) (by unfold maxLen; omega) (by omega) hB
    exact ⟨v', w', hr, ⟨by rw [List.length_append, List.flatMap_append]; exact h2⟩, h3, h5⟩
theorem push_cells {ops : Array Oper} {rest : List Oper} {o : Oper} {a : Act} {Q : Exit → Act → World → Prop} {W : World} (hgd : o.guard = none) (s x : Operand)
    (ho : o.op = .call { callee := .builtin .append, args := #[s, x], argTypes := #[47, 47] }) (B : Nat) (xs ys : List Cell) (v u : Value) (hs : a.eval s = v) (hx : a.eval x = u)
    (hown : Own W B 36 Cell.c 2 v xs) (hsl : Sl W W.heap.size Cell.c 2 u ys) (hn : xs.length ≤ 4194304) (hm : ys.length ≤ 4194304) (hB : B ≤ W.heap.size)
    (h : ∀ v' w', Own w' B 36 Cell.c 2 v' (xs ++ ys) → W.grownBy w' v.ownBlock → (v'.ownBlock = v.ownBlock ∨ v'.ownBlock = some W.heap.size) → wpList Try.prog ops Q rest (a.put o.dst v') w') :
    wpList Try.prog ops Q (o :: rest) a W := by
  refine wpList_plain hgd fun K hK => ?_
  obtain ⟨v', w', hr, h2, h3, h4⟩ := run_app_cells W B xs ys v u o.type hown hsl hn hm hB
  unfold Oper.wp execOp
  simp only [ho, resolve, invoke, builtin, Sem.run_bind, Sem.run_pure, Result.andThen_ok, List.map_toArray, List.map_cons, List.map_nil, hs, hx, hr]
  exact hK _ _ (h v' w' h2 h3 h4)
end Go.Proofs.Ytbmkhhhlnollmaa
