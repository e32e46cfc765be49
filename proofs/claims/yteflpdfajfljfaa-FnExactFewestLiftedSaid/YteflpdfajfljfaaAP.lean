/-
Append of a row that reads as a list to a row of the call's own, for any kind of elements. Conditions: the rows are short.
-/
import Derived.Test.YteflpdfajfljfaaApp
import Derived.Deep.AppendSrc
import Derived.Deep.Upon
set_option linter.unusedVariables false
set_option linter.unusedSimpArgs false
set_option maxRecDepth 100000
namespace Go.Proofs.Yteflpdfajfljfaa
open Go.RowKit
/-- What the append of a row of the kind asks of the program. -/
structure AppK {α : Type} (c : α → List Value) (sz bytes : Nat) (tS tE : TypeId) : Prop where
  pos : 0 < sz
  len : ∀ x, (c x).length = sz
  one : ∀ x, ∀ u ∈ c x, u.oneCell' = true
  und : Try.prog.underlying tS = some (.slice tE)
  info : ∃ i z, Try.prog.info? tE = some i ∧ i.zero = some z ∧ i.size = sz ∧ i.bytes = bytes ∧ z.cells.size = sz
theorem AppK.mk' {α : Type} {c : α → List Value} {sz bytes : Nat} {tS tE : TypeId} (z : Value) (hp : 0 < sz) (hl : ∀ x, (c x).length = sz) (h1 : ∀ x, ∀ u ∈ c x, u.oneCell' = true) (hu : Try.prog.underlying tS = some (.slice tE))
    (hi : (Try.prog.info? tE).map (fun i => (i.zero, i.size, i.bytes)) = some (some z, sz, bytes)) (hz : z.cells.size = sz) : AppK c sz bytes tS tE := by
  obtain ⟨i, hi, hq⟩ := Option.map_eq_some_iff.1 hi
  simp only [Prod.mk.injEq] at hq
  exact ⟨hp, hl, h1, hu, i, z, hi, hq.1, hq.2.1, hq.2.2, hz⟩
theorem flat_at {α : Type} {c : α → List Value} {sz : Nat} (hp : 0 < sz) (hc : ∀ x, (c x).length = sz) (ys : List α) (W : World) (B cap : Nat) (ad : Addr) (hs : Sl W B c sz (.slice (some ad) ys.length cap) ys) :
    ∀ j u, (ys.flatMap c)[j]? = some u → W.cell? (ad.add j) = some u := by
  intro j u hj
  obtain ⟨A', cap', hv, _, _, hce⟩ := hs.out
  have hlen : (ys.flatMap c).length = ys.length * sz := flatMap_length_const c sz hc ys
  have hjl : j < (ys.flatMap c).length := (List.getElem?_eq_some_iff.1 hj).1
  have hpos : 0 < ys.length := by
    cases ys with
    | nil => simp at hj
    | cons y ys => simp
  obtain ⟨b, o, he, _, hcell⟩ := hce hpos
  injection hv with hv
  rw [he] at hv
  injection hv with hv
  subst hv
  have hq : j / sz < ys.length := by rw [Nat.div_lt_iff_lt_mul hp]; omega
  have hr : j % sz < sz := Nat.mod_lt _ hp
  have hcl : j % sz < (c ys[j / sz]).length := by rw [hc]; exact hr
  have h3 := flatMap_at c sz hc ys (j / sz) (j % sz) ys[j / sz] (c ys[j / sz])[j % sz] (List.getElem?_eq_getElem hq) (List.getElem?_eq_getElem hcl)
  rw [Nat.div_add_mod', hj] at h3
  injection h3 with h3
  have h4 := hcell (j / sz) ys[j / sz] (List.getElem?_eq_getElem hq) (j % sz) (c ys[j / sz])[j % sz] (List.getElem?_eq_getElem hcl)
  rw [Nat.div_add_mod', ← h3] at h4
  rw [show (⟨b, o, none⟩ : Addr).add j = ⟨b, o + j, none⟩ from by cases j <;> simp [Addr.add]]
  exact h4
theorem run_app {α : Type} {c : α → List Value} {sz bytes : Nat} {tS tE : TypeId} (K : AppK c sz bytes tS tE) (W : World) (B : Nat) (xs ys : List α) (v u : Value) (ty : TypeId) (hown : Own W B tE c sz v xs) (hs : Sl W W.heap.size c sz u ys) (hn : (xs.length + ys.length) * bytes ≤ 140737488355328) (hm : xs.length + ys.length ≤ 9223372036854775807) (hB : B ≤ W.heap.size) :
    ∃ v' w', (Builtin.append_ #[tS, tS] ty #[v, u]).run Try.prog W = .ok v' w' ∧ Own w' B tE c sz v' (xs ++ ys) ∧ W.grownBy w' v.ownBlock ∧ (v'.ownBlock = v.ownBlock ∨ v'.ownBlock = some W.heap.size) := by
  obtain ⟨hp, hc, h1, hu, i, z, hi, hz0, hz1, hz2, hzc⟩ := K
  have hs' := hs
  obtain ⟨A, cap, rfl, hl, hm2, hce⟩ := hs.out
  cases A with
  | none =>
    have h0 : ys = [] := by
      cases ys with
      | nil => rfl
      | cons y ys => obtain ⟨b, o, he, _⟩ := hce (by simp); exact absurd he (by simp)
    subst h0
    rcases hown.out.2 with ⟨rfl, hx0⟩ | ⟨g, cp, cur, rfl, hg, hh, hle, _⟩
    · refine ⟨_, W, run_append_nothing W _ tS ty _ i hu hi none 0 0 (Nat.le_refl _) _ (Src.ofNil _ hu cap), by simpa using hown, World.grownBy.refl _ _, .inl rfl⟩
    · refine ⟨_, W, run_append_nothing W _ tS ty _ i hu hi _ _ _ hle _ (Src.ofNil _ hu cap), by simpa using hown, World.grownBy.refl _ _, .inl rfl⟩
  | some ad =>
    obtain ⟨v', w', hr, h2, h3, h4, h5⟩ := run_append_own_at W B _ ty tE i z sz bytes hu hi hz0 hz1 hz2 hzc hp v xs.length _ hown.out ad ys.length cap (ys.flatMap c) (flatMap_length_const c sz hc ys) (flat_at hp hc ys W _ cap ad hs') (by
      intro u hu
      obtain ⟨y, _, hy⟩ := List.mem_flatMap.1 hu
      exact h1 y u hy) (by unfold maxLen; omega) hn hB
    exact ⟨v', w', hr, ⟨by rw [List.length_append, List.flatMap_append]; exact h2⟩, h3, h5⟩
theorem push_app {α : Type} {c : α → List Value} {sz bytes : Nat} {tS tE : TypeId} (K : AppK c sz bytes tS tE) {ops : Array Oper} {rest : List Oper} {o : Oper} {a : Act} {Q : Exit → Act → World → Prop} {W : World} (hgd : o.guard = none) (s x : Operand)
    (ho : o.op = .call { callee := .builtin .append, args := #[s, x], argTypes := #[tS, tS] }) (B : Nat) (xs ys : List α) (v u : Value) (hs : a.eval s = v) (hx : a.eval x = u)
    (hown : Own W B tE c sz v xs) (hsl : Sl W W.heap.size c sz u ys) (hn : (xs.length + ys.length) * bytes ≤ 140737488355328) (hm : xs.length + ys.length ≤ 9223372036854775807) (hB : B ≤ W.heap.size)
    (h : ∀ v' w', Own w' B tE c sz v' (xs ++ ys) → W.grownBy w' v.ownBlock → (v'.ownBlock = v.ownBlock ∨ v'.ownBlock = some W.heap.size) → wpList Try.prog ops Q rest (a.put o.dst v') w') :
    wpList Try.prog ops Q (o :: rest) a W := by
  refine wpList_plain hgd fun K' hK => ?_
  obtain ⟨v', w', hr, h2, h3, h4⟩ := run_app K W B xs ys v u o.type hown hsl hn hm hB
  unfold Oper.wp execOp
  simp only [ho, resolve, invoke, builtin, Sem.run_bind, Sem.run_pure, Result.andThen_ok, List.map_toArray, List.map_cons, List.map_nil, hs, hx, hr]
  exact hK _ _ (h v' w' h2 h3 h4)
/-- The same in a region that draws. -/
theorem step_app {α : Type} {c : α → List Value} {sz bytes : Nat} {tS tE : TypeId} (K : AppK c sz bytes tS tE) {ops : Array Oper} {o : Oper} {a : Act} {K' : Act → World → Prop} {Q : Exit → Act → World → Prop} {E : Prop} {W : World} (hgd : o.guard = none) (s x : Operand)
    (ho : o.op = .call { callee := .builtin .append, args := #[s, x], argTypes := #[tS, tS] }) (B : Nat) (xs ys : List α) (v u : Value) (hs : a.eval s = v) (hx : a.eval x = u)
    (hown : Own W B tE c sz v xs) (hsl : Sl W W.heap.size c sz u ys) (hn : (xs.length + ys.length) * bytes ≤ 140737488355328) (hm : xs.length + ys.length ≤ 9223372036854775807) (hB : B ≤ W.heap.size)
    (h : ∀ v' w', Own w' B tE c sz v' (xs ++ ys) → W.grownBy w' v.ownBlock → (v'.ownBlock = v.ownBlock ∨ v'.ownBlock = some W.heap.size) → K' (a.put o.dst v') w') :
    if Region.wanted o (yielded ops a.tmps) = true then Oper.wp Try.prog o a W K' Q else E := by
  have hw : Region.wanted o (yielded ops a.tmps) = true := by simp [Region.wanted, hgd]
  rw [if_pos hw]
  obtain ⟨v', w', hr, h2, h3, h4⟩ := run_app K W B xs ys v u o.type hown hsl hn hm hB
  unfold Oper.wp execOp
  simp only [ho, resolve, invoke, builtin, Sem.run_bind, Sem.run_pure, Result.andThen_ok, List.map_toArray, List.map_cons, List.map_nil, hs, hx, hr]
  exact h v' w' h2 h3 h4
theorem appI64 : AppK i64c 1 8 29 2 := AppK.mk' (.int .i64 0) (by omega) i64c_len (by intro x u hu; simp [i64c] at hu; subst hu; rfl) Try.underlying29 (by kernel_rfl) rfl
theorem bk_i64s {w : World} {g : Nat} {T : TypeId} {cs : Array Value} (ys : List Int) (h : Bk w g T cs) (hcs : cs = (ys.map (Value.int .i64)).toArray) (hn : ys.length ≤ 1000000) : Sl w w.heap.size i64c 1 (.slice (some ⟨g, 0, none⟩) ys.length ys.length) ys := by
  subst hcs
  refine ⟨_, ys.length, rfl, Nat.le_refl _, by omega, fun _ => ⟨g, 0, rfl, h.lt, fun i x hx j u hu => ?_⟩⟩
  match j, hu with
  | 0, hu =>
    simp [i64c] at hu
    subst hu
    have := h.cell i (.int .i64 x) (by simp [hx])
    simpa using this
  | j + 1, hu => simp [i64c] at hu
end Go.Proofs.Yteflpdfajfljfaa
