/-
Own rows of numbers: append one; mark; held. Conditions: the row is the call's own.
-/
import Derived.Test.YteflpdfajfljfaaLaw
import Derived.Laws.AppendOwn
set_option linter.unusedVariables false
set_option linter.unusedSimpArgs false
set_option maxRecDepth 100000
namespace Go.Proofs.Yteflpdfajfljfaa
open Go.RowKit
theorem Own.empty {α : Type} {c : α → List Value} {sz : Nat} {E : TypeId} (W : World) (B g : Nat) (hg : g = W.heap.size) (hB : B ≤ W.heap.size) : Own (W.alloc (.cells #[] E)) B E c sz (.slice (some ⟨g, 0, none⟩) 0 0) ([] : List α) := by
  subst hg
  exact ⟨World.ownsRow_lit W #[] 0 hB (by simp [maxLen]) (by simp)⟩
theorem push_i64 {ops : Array Oper} {rest : List Oper} {o : Oper} {a : Act} {Q : Exit → Act → World → Prop} {W : World} (hgd : o.guard = none) (s x : Operand)
    (ho : o.op = .call { callee := .builtin .append, args := #[s, x], argTypes := #[29, 29] }) (B : Nat) (xs : List Int) (v : Value) (hs : a.eval s = v)
    (hown : Own W B 2 i64c 1 v xs) (ad : Addr) (n : Int) (hx : a.eval x = .slice (some ad) 1 1) (hc : W.cell? ad = some (.int .i64 n)) (hn : xs.length ≤ 1000000) (hB : B ≤ W.heap.size)
    (h : ∀ v' w', Own w' B 2 i64c 1 v' (xs ++ [n]) → W.grownBy w' v.ownBlock → wpList Try.prog ops Q rest (a.put o.dst v') w') :
    wpList Try.prog ops Q (o :: rest) a W := by
  obtain ⟨i, hi, hz⟩ := Option.map_eq_some_iff.1 (show (Try.prog.info? 2).map (fun i => (i.zero, i.size, i.bytes)) = some (some (.int .i64 0), 1, 8) from by kernel_rfl)
  simp only [Prod.mk.injEq] at hz
  obtain ⟨hz0, hz1, hz2⟩ := hz
  refine wpList_append_own W hgd s x 29 ho B 2 i (.int .i64 0) 1 8 Try.underlying29 hi hz0 hz1 hz2 rfl (by omega) v xs.length _ hs hown.out ad 1 1 [.int .i64 n] hx rfl ?_ ?_ (by unfold maxLen; omega) (by omega) hB ?_
  · intro j u hj
    match j with
    | 0 => simp at hj; subst hj; simpa [Addr.add] using hc
    | j + 1 => simp at hj
  · intro u hu
    simp at hu
    subst hu
    rfl
  · intro v' w' ho' hg _
    exact h v' w' ⟨by simpa [i64c] using ho'⟩ hg
def marks (k : Int) (n : Nat) : List Int := (List.range n).map (fun (i : Nat) => k + (i : Int))
theorem marks_len (k : Int) (n : Nat) : (marks k n).length = n := by simp [marks]
theorem marks_succ (k : Int) (n : Nat) : marks k (n + 1) = marks k n ++ [k + (n : Int)] := by simp [marks, List.range_succ]
theorem take_set_mark (ys : List Int) (k : Int) (j : Nat) (hj : j < ys.length) (h : ys.take j = marks k j) : (ys.set j (k + (j : Int))).take (j + 1) = marks k (j + 1) := by
  rw [List.take_succ_eq_append_getElem (by rw [List.length_set]; omega), List.take_set_of_le (Nat.le_refl j), h, List.getElem_set_self, marks_succ]
theorem marks_get (k : Int) (n j : Nat) (hj : j < n) : (marks k n)[j]'(by rw [marks_len]; exact hj) = k + (j : Int) := by simp [marks]
theorem markInt64S_calls (xs : List Int) (v : Value) (w : World) (B : Nat) (hB : B ≤ w.heap.size) (hO : Own w B 2 i64c 1 v xs) (k : Int) (hk0 : 0 ≤ k) (hk1 : k ≤ 1000000) (hn : xs.length ≤ 1000000) :
    Calls Try.prog 18 #[v, .int .i64 k] w fun e w' => e = .returned (.int .i64 (k + xs.length)) ∧ Own w' B 2 i64c 1 v (marks k xs.length) ∧ Below B w w' := by
  obtain ⟨A, cap, rfl, hl, hm, _⟩ := (hO.sl i64c_len).i64
  have HO := Lib.hid hO
  clear hO
  go_enter Try.func18, Try.ntmps18
  go_wp2_with fail
  go_loopw [1, 5] (fun t i wr => ∃ (j : Nat) (ys : List Int), j ≤ xs.length ∧ i = .int .i64 j ∧ t = .int .i64 (k + j) ∧ ys.length = xs.length ∧ ys.take j = marks k j ∧ Own wr B 2 i64c 1 (.slice A xs.length cap) ys ∧ Below B w wr) (fun _ i _ => xs.length - (intOf i).toNat)
  case atStart => exact ⟨0, xs, by omega, rfl, by simp, rfl, by simp [marks], HO.out, Below.refl _ _⟩
  case round =>
    obtain ⟨j, ys, hj, rfl, rfl, hyl, hyt, hO, hb⟩ := hrel
    have HY := Lib.hid hyl
    have HT := Lib.hid hyt
    have HO2 := Lib.hid hO
    clear hyl hyt hO
    by_cases hlt : j < xs.length
    · obtain ⟨g, cap', hv, hBg, hgl, _, _, hce, hfz⟩ := HO2.out.room i64c_len (by have := HY.out; omega)
      obtain ⟨rfl, _, rfl⟩ : A = some ⟨g, 0, none⟩ ∧ xs.length = ys.length ∧ cap = cap' := by
        injection hv with e1 e2 e3
        exact ⟨e1, e2, e3⟩
      clear hv
      obtain ⟨y, hy⟩ : ∃ y, ys[j]? = some y := ⟨ys[j]'(by have := HY.out; omega), by rw [List.getElem?_eq_getElem]⟩
      have q0 : wr.cell? ⟨g, j, none⟩ = some (.int .i64 y) := by simpa using hce j y hy 0 _ rfl
      clear hce hy
      have hEQ := Lib.hid (take_set_mark ys k j (by have := HY.out; omega) HT.out)
      go_wp2_with fail
      obtain ⟨hO3, hG⟩ := HO2.out.put i64c_len j (by have := HY.out; omega) (k + (j : Int))
      rw [Nat.mul_one] at hO3 hG
      go_roundw
      case rel => exact ⟨j + 1, ys.set j (k + (j : Int)), by omega, by go_num, by congr 1; omega, by rw [List.length_set]; exact HY.out, hEQ.out, hO3, hb.grown hG (Nat.le_trans hB hb.size) (fun q hq => by injection hq with hq; omega)⟩
      case measure => simp [intOf]; omega
    · obtain rfl : j = xs.length := by omega
      have hEQ := Lib.hid (show ys = marks k xs.length from by have h1 := HT.out; rw [List.take_of_length_le (by have := HY.out; omega)] at h1; exact h1)
      go_wp2_with fail
      go_ret
      exact ⟨rfl, hEQ.out ▸ HO2.out, hb⟩
theorem heldInt64S_calls (n : Nat) (v : Value) (w : World) (k : Int) (hs : Sl w w.heap.size i64c 1 v (marks k n)) (hk0 : 0 ≤ k) (hk1 : k ≤ 1000000) (hn : n ≤ 1000000) :
    Calls Try.prog 19 #[v, .int .i64 k] w fun e w' => e = .returned (.int .i64 (k + n)) ∧ Below w.heap.size w w' := by
  obtain ⟨A, cap, rfl, hl, hm, hcell⟩ := hs.i64
  clear hs
  have hcell2 : ∀ j, j < n → ∃ b o, A = some ⟨b, o, none⟩ ∧ b < w.heap.size ∧ w.cell? ⟨b, o + j, none⟩ = some (.int .i64 (k + (j : Int))) := fun j hj => by
    obtain ⟨b, o, h1, h2, h3⟩ := hcell j (by rw [marks_len]; exact hj)
    exact ⟨b, o, h1, h2, by rw [marks_get k n j hj] at h3; exact h3⟩
  clear hcell
  rw [marks_len] at hl ⊢
  go_enter Try.func19, Try.ntmps19
  go_wp2_with fail
  go_loopw [1, 5] (fun t i wr => ∃ j : Nat, j ≤ n ∧ i = .int .i64 j ∧ t = .int .i64 (k + j) ∧ Below w.heap.size w wr) (fun _ i _ => n - (intOf i).toNat)
  case atStart => exact ⟨0, by omega, rfl, by simp, Below.refl _ _⟩
  case round =>
    obtain ⟨j, hj, rfl, rfl, hb⟩ := hrel
    by_cases hlt : j < n
    · obtain ⟨b, o, rfl, hbb, h0⟩ := hcell2 j hlt
      have h0 := (hb.cell (p := ⟨b, _, none⟩) hbb).trans h0
      clear hcell2
      have hne : ((k + (j : Int)) != (k + (j : Int))) = false := by simp
      go_wp2_with fail
      go_roundw
      case rel => exact ⟨j + 1, by omega, by go_num, by congr 1; omega, hb⟩
      case measure => simp [intOf]; omega
    · obtain rfl : j = n := by omega
      go_wp2_with fail
      go_ret
      exact ⟨rfl, hb⟩
end Go.Proofs.Yteflpdfajfljfaa
