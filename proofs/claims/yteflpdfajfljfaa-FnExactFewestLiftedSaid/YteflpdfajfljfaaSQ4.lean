/-
The reference's laying of slabs into a grid: its parts. Conditions: numbers are of their kinds; slices can be read.
-/
import Derived.Test.YteflpdfajfljfaaSQ2
import Derived.Deep.WholeRow
set_option linter.unusedVariables false
set_option linter.unusedSimpArgs false
set_option maxRecDepth 100000
namespace Go.Proofs.Yteflpdfajfljfaa
open Go.RowKit
theorem sbefore_calls (a b : Slab) (W : World) :
    Calls Try.prog 150 #[a.v, b.v] W fun e w' => e = .returned (.bool (beforeB a b)) ∧ Below W.heap.size W w' := by
  have hb := Lib.hid (ext_alloc ((Below.refl W.heap.size W).alloc (Nat.le_refl _) (.cells #[.int .i8 a.x, .int .i8 a.y, .int .i8 a.w, .int .i8 a.h] 127)) (.cells #[.int .i8 b.x, .int .i8 b.y, .int .i8 b.w, .int .i8 b.h] 127))
  unfold Slab.v
  go_enter Try.func150, Try.ntmps150
  go_wp2
  all_goals (go_ret; refine ⟨ret_bool ?_, ext_alloc ((Below.refl _ _).alloc (Nat.le_refl _) _) _⟩; simp [beforeB, *]; try omega)
/-- A pointer to a square that lies whole at ⟨b, o⟩. -/
structure Sq.at_ (W : World) (b o : Nat) (w h : Int) (z : Value) : Prop where
  c0 : W.cell? ⟨b, o, none⟩ = some (.int .i8 w)
  c1 : W.cell? ⟨b, o + 1, none⟩ = some (.int .i8 h)
  c2 : W.cell? ⟨b, o + 2, none⟩ = some z
  lt : b < W.heap.size
theorem Sq.at_.ext {W W' : World} {b o : Nat} {w h : Int} {z : Value} (q : Sq.at_ W b o w h z) (hb : Below W.heap.size W W') : Sq.at_ W' b o w h z :=
  ⟨(hb.cell (p := ⟨b, _, none⟩) q.lt).trans q.c0, (hb.cell (p := ⟨b, _, none⟩) q.lt).trans q.c1, (hb.cell (p := ⟨b, _, none⟩) q.lt).trans q.c2, Nat.lt_of_lt_of_le q.lt hb.size⟩
theorem Sq.at_.keep {B : Nat} {W W' : World} {b o : Nat} {w h : Int} {z : Value} (q : Sq.at_ W b o w h z) (hB : b < B) (hb : Below B W W') : Sq.at_ W' b o w h z :=
  ⟨(hb.cell (p := ⟨b, _, none⟩) hB).trans q.c0, (hb.cell (p := ⟨b, _, none⟩) hB).trans q.c1, (hb.cell (p := ⟨b, _, none⟩) hB).trans q.c2, Nat.lt_of_lt_of_le q.lt hb.size⟩
theorem slies_calls (b o : Nat) (w h : Int) (w0 : -128 ≤ w) (w1 : w ≤ 127) (h0 : -128 ≤ h) (h1 : h ≤ 127) (z : Value) (s : Slab) (hs : s.ok) (W : World) (hq : Sq.at_ W b o w h z) :
    Calls Try.prog 149 #[.pointer (some ⟨b, o, none⟩), s.v] W fun e w' => e = .returned (.bool (liesB w h s)) ∧ Below W.heap.size W w' := by
  have hb := Lib.hid ((Below.refl W.heap.size W).alloc (Nat.le_refl _) (.cells #[.int .i8 s.x, .int .i8 s.y, .int .i8 s.w, .int .i8 s.h] 127))
  obtain ⟨c0, c1, c2, lt⟩ := hq
  obtain ⟨x0, x1, y0, y1, a0, a1, b0, b1⟩ := hs
  unfold Slab.v
  by_cases hn : s.x < 0 ∨ s.y < 0 ∨ s.w < 1 ∨ s.h < 1
  · have hR := Lib.hid (show liesB w h s = false from by simp only [liesB, decide_eq_false_iff_not]; omega)
    go_enter Try.func149, Try.ntmps149
    by_cases e1 : s.x < 0
    · have d1 : decide (s.x < 0) = true := decide_eq_true e1
      go_wp2_with fail
      go_ret
      exact ⟨ret_bool hR.out.symm, hb.out⟩
    have d1 : decide (s.x < 0) = false := decide_eq_false e1
    by_cases e2 : s.y < 0
    · have d2 : decide (s.y < 0) = true := decide_eq_true e2
      go_wp2_with fail
      go_ret
      exact ⟨ret_bool hR.out.symm, hb.out⟩
    have d2 : decide (s.y < 0) = false := decide_eq_false e2
    by_cases e3 : s.w < 1
    · have d3 : decide (s.w < 1) = true := decide_eq_true e3
      go_wp2_with fail
      go_ret
      exact ⟨ret_bool hR.out.symm, hb.out⟩
    have d3 : decide (s.w < 1) = false := decide_eq_false e3
    have e4 : s.h < 1 := by omega
    have d4 : decide (s.h < 1) = true := decide_eq_true e4
    clear hn
    go_wp2_with fail
    go_ret
    exact ⟨ret_bool hR.out.symm, hb.out⟩
  have d1 : decide (s.x < 0) = false := by rw [decide_eq_false_iff_not]; omega
  have d2 : decide (s.y < 0) = false := by rw [decide_eq_false_iff_not]; omega
  have d3 : decide (s.w < 1) = false := by rw [decide_eq_false_iff_not]; omega
  have d4 : decide (s.h < 1) = false := by rw [decide_eq_false_iff_not]; omega
  by_cases e5 : s.x + s.w ≤ w
  · have d5 : decide (s.x + s.w ≤ w) = true := decide_eq_true e5
    have hR := Lib.hid (show liesB w h s = decide (s.y + s.h ≤ h) from by
      unfold liesB
      rw [Bool.eq_iff_iff]
      simp only [decide_eq_true_eq]
      omega)
    clear hn
    go_enter Try.func149, Try.ntmps149
    go_wp2_with fail
    go_quiet (fail)
    go_wp2_with fail
    go_ret
    exact ⟨ret_bool hR.out.symm, ext_drewN hb.out _⟩
  · have d5 : decide (s.x + s.w ≤ w) = false := decide_eq_false e5
    have hR := Lib.hid (show liesB w h s = false from by simp only [liesB, decide_eq_false_iff_not]; omega)
    clear hn
    go_enter Try.func149, Try.ntmps149
    go_wp2_with fail
    go_quiet (fail)
    go_wp2_with fail
    go_ret
    exact ⟨ret_bool hR.out.symm, ext_drewN hb.out _⟩
/-! ### Whole blocks of a long array -/
theorem Bk.grown {w w' : World} {g g' : Nat} {T : TypeId} {cs : Array Value} (h : Bk w g T cs) (hG : w.grownBy w' (some g')) (hne : g ≠ g') : Bk w' g T cs := (hG.block g h.lt (fun e => hne (by injection e))).trans h
theorem wpList_load_bk {P : Program} {ops : Array Oper} {rest : List Oper} {op : Oper} {a : Act} {w : World} {Q : Exit → Act → World → Prop} (hgd : op.guard = none) (ty : TypeId) (x : Operand) (ho : op.op = .load ty x)
    (g : Nat) (hx : a.eval x = .pointer (some ⟨g, 0, none⟩)) (T : TypeId) (cs : Array Value) (n : Nat) (e : TypeId) (hc : Bk w g T cs) (hu : P.underlying ty = some (.array n e)) (hi : (P.info? ty).map (·.size) = some cs.size)
    (h : wpList P ops Q rest (a.put op.dst (.agg cs)) w) : wpList P ops Q (op :: rest) a w := by
  refine wpList_load_mid hgd ty x ho g 0 hx cs.toList _ (fun j v hj => by rw [Nat.zero_add]; exact hc.cell j v (by simpa using hj)) hu rfl (by simpa using hi) ?_
  simpa using h
theorem wpList_store_bk {P : Program} {ops : Array Oper} {rest : List Oper} {op : Oper} {a : Act} {w : World} {Q : Exit → Act → World → Prop} (hgd : op.guard = none) (ty : TypeId) (x y : Operand) (ho : op.op = .store ty x y)
    (g : Nat) (cells : Array Value) (hx : a.eval x = .pointer (some ⟨g, 0, none⟩)) (hy : a.eval y = .agg cells) (T : TypeId) (old : Array Value) (hc : Bk w g T old) (hs : old.size = cells.size)
    (hi : (P.info? ty).map (·.size) = some cells.size) (h1 : cells.all (·.oneCell') = true)
    (h : ∀ w', Bk w' g T cells → w.grownBy w' (some g) → wpList P ops Q rest (a.put op.dst undef) w') : wpList P ops Q (op :: rest) a w := by
  refine wpList_plain hgd fun _ hK => ?_
  unfold Oper.wp execOp
  simp only [ho, hx, hy, Instr.storeAt, Instr.sureAddr, Sem.run_bind, Sem.run_pure, Result.andThen_ok, run_storeVar_row w g T ty old cells hc hi hs h1]
  refine hK _ _ (h _ ?_ ?_)
  · unfold Bk World.setRow
    have h' : w.heap[g]? = some (.cells old T (0, 0)) := hc
    simp [Array.getElem?_modify, h']
  · refine ⟨rfl, rfl, rfl, by simp [World.setRow], fun k hk hne => ?_⟩
    unfold World.setRow
    rw [Array.getElem?_modify, if_neg (fun e => hne (by rw [e]))]
end Go.Proofs.Yteflpdfajfljfaa
