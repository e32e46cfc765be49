/-
Contracts of the functions that compare slabs and cells, and of searches by a bound method. Conditions: numbers are of their kinds; slices can be read.
-/
import Derived.Test.YteflpdfajfljfaaSQ1
set_option linter.unusedVariables false
set_option linter.unusedSimpArgs false
set_option maxRecDepth 100000
namespace Go.Proofs.Yteflpdfajfljfaa
open Go.RowKit
/-- A row that is written out, as a slice that reads as a list. -/
theorem Sl.litw {α : Type} (c : α → List Value) (sz : Nat) (hc : ∀ x, (c x).length = sz) (W : World) (xs : List α) (cs : Array Value) (hcs : cs.toList = xs.flatMap c) (g : Nat) (hg : g = W.heap.size) (E : TypeId) (hn : xs.length ≤ 1000000) :
    Sl (W.alloc (.cells cs E)) (W.alloc (.cells cs E)).heap.size c sz (.slice (some ⟨g, 0, none⟩) xs.length xs.length) xs := by
  subst hg
  refine Own.sl (B := W.heap.size) (E := E) hc ⟨?_⟩
  rw [← hcs]
  refine World.ownsRow_lit W cs xs.length (Nat.le_refl _) (by unfold maxLen; omega) ?_
  have := flatMap_length_const c sz hc xs
  rw [← hcs, Array.length_toList] at this
  exact this
theorem sl2i (W : World) (n m : Int) (g : Nat) (hg : g = W.heap.size) (E : TypeId) : Sl (W.alloc (.cells #[.int .i64 n, .int .i64 m] E)) (W.alloc (.cells #[.int .i64 n, .int .i64 m] E)).heap.size i64c 1 (.slice (some ⟨g, 0, none⟩) 2 2) [n, m] :=
  Sl.litw i64c 1 i64c_len W [n, m] _ rfl g hg E (by simp)
def orI (a b : Int) : Int := if a = 0 then b else a
theorem cmpOr_calls (a b : Int) (v : Value) (w : World) (hs : Sl w w.heap.size i64c 1 v [a, b]) :
    Calls Try.prog 168 #[v] w fun e w' => e = .returned (.int .i64 (orI a b)) ∧ w = w' := by
  obtain ⟨A, cap, rfl, hl, hm, hcell⟩ := hs.i64
  obtain ⟨b1, o1, rfl, hb1, h0⟩ := hcell 0 (by simp)
  obtain ⟨b2, o2, he, hb2, h1⟩ := hcell 1 (by simp)
  obtain ⟨rfl, rfl⟩ : b2 = b1 ∧ o2 = o1 := by
    injection he with he
    injection he with e1 e2
    exact ⟨e1.symm, e2.symm⟩
  clear he hb2 hs hcell
  simp only [List.getElem_cons_zero, List.getElem_cons_succ, Nat.add_zero] at h0 h1
  simp only [List.length_cons, List.length_nil, Nat.zero_add, Nat.reduceAdd] at *
  by_cases ha : a = 0
  · subst ha
    have hR := Lib.hid (show orI 0 b = b from if_pos rfl)
    go_enter Try.func168, Try.ntmps168
    go_wp2_with fail
    refine wp_loop_rounds 3 ?_
    rw [rounds_succ]
    go_wp2_with fail
    rw [rounds_succ]
    by_cases hb : b = 0
    · subst hb
      go_wp2_with fail
      rw [rounds_succ]
      go_wp2_with fail
      go_ret
      exact ⟨ret_int hR.out.symm, rfl⟩
    · have hne : (b == 0) = false := by simpa using hb
      have hne2 : (b != 0) = true := by simpa using hb
      clear hb
      go_wp2_with fail
      go_ret
      exact ⟨ret_int hR.out.symm, rfl⟩
  · have hR := Lib.hid (show orI a b = a from if_neg ha)
    have hne : (a == 0) = false := by simpa using ha
    have hne2 : (a != 0) = true := by simpa using ha
    clear ha
    go_enter Try.func168, Try.ntmps168
    go_wp2_with fail
    refine wp_loop_rounds 3 ?_
    rw [rounds_succ]
    go_wp2_with fail
    go_ret
    exact ⟨ret_int hR.out.symm, rfl⟩
theorem first_calls (s : Slab) (W : World) :
    Calls Try.prog 194 #[s.v] W fun e w' => e = .returned (.agg #[.int .i8 s.x, .int .i8 s.y]) ∧ Below W.heap.size W w' := by
  unfold Slab.v
  go_enter Try.func194, Try.ntmps194
  go_wp2_with fail
  exact bodyPost_ret (v := .agg #[.int .i8 s.x, .int .i8 s.y]) (by simp [results, Try.results194, go_sem]) rfl ⟨rfl, ext_alloc ((Below.refl _ _).alloc (Nat.le_refl _) _) _⟩
def cmpC (a b : Cell) : Int := orI (cmpI a.y b.y) (cmpI a.x b.x)
abbrev CcS (W0 : World) (c d : Nat) (a b : Cell) (w' : World) : Prop :=
  Below W0.heap.size W0 w' ∧ w'.cell? ⟨c, 0, none⟩ = some (.int .i8 a.x) ∧ w'.cell? ⟨c, 1, none⟩ = some (.int .i8 a.y) ∧ w'.cell? ⟨d, 0, none⟩ = some (.int .i8 b.x) ∧ w'.cell? ⟨d, 1, none⟩ = some (.int .i8 b.y)
theorem CcS.keep {W0 w1 w2 : World} {c d : Nat} {a b : Cell} (hc : c < W0.heap.size) (hd : d < W0.heap.size) (h : CcS W0 c d a b w1) (k : Below w1.heap.size w1 w2) : CcS W0 c d a b w2 := by
  obtain ⟨h0, h1, h2, g1, g2⟩ := h
  have hl : c < w1.heap.size := Nat.lt_of_lt_of_le hc h0.size
  have hl2 : d < w1.heap.size := Nat.lt_of_lt_of_le hd h0.size
  have q : ∀ o, w2.cell? ⟨c, o, none⟩ = w1.cell? ⟨c, o, none⟩ := fun o => k.cell (p := ⟨c, o, none⟩) hl
  have r : ∀ o, w2.cell? ⟨d, o, none⟩ = w1.cell? ⟨d, o, none⟩ := fun o => k.cell (p := ⟨d, o, none⟩) hl2
  exact ⟨ext_trans h0 k, (q _).trans h1, (q _).trans h2, (r _).trans g1, (r _).trans g2⟩
set_option maxHeartbeats 2000000 in
theorem cmpCells_calls (a b : Cell) (W : World) :
    Calls Try.prog 120 #[a.v, b.v] W fun e w' => e = .returned (.int .i64 (cmpC a b)) ∧ Below W.heap.size W w' := by
  have hB := Lib.hid (ext_alloc ((Below.refl W.heap.size W).alloc (Nat.le_refl _) (.cells #[.int .i8 a.x, .int .i8 a.y] 36)) (.cells #[.int .i8 b.x, .int .i8 b.y] 36))
  have hsz : W.heap.size + 1 < ((W.alloc (.cells #[.int .i8 a.x, .int .i8 a.y] 36)).alloc (.cells #[.int .i8 b.x, .int .i8 b.y] 36)).heap.size := by simp
  have hS : CcS ((W.alloc (.cells #[.int .i8 a.x, .int .i8 a.y] 36)).alloc (.cells #[.int .i8 b.x, .int .i8 b.y] 36)) W.heap.size (W.heap.size + 1) a b ((W.alloc (.cells #[.int .i8 a.x, .int .i8 a.y] 36)).alloc (.cells #[.int .i8 b.x, .int .i8 b.y] 36)) := by
    refine ⟨Below.refl _ _, ?_, ?_, ?_, ?_⟩ <;> simp
  unfold Cell.v
  have q1 := Lib.hid (fun w => cmp8_calls a.y b.y w)
  have q2 := Lib.hid (fun w => cmp8_calls a.x b.x w)
  have hR := Lib.hid (show cmpC a b = orI (cmpI a.y b.y) (cmpI a.x b.x) from rfl)
  generalize cmpI a.y b.y = n at *
  generalize cmpI a.x b.x = m at *
  go_enter Try.func120, Try.ntmps120
  go_wp2_with fail
  generalize (W.alloc (.cells #[.int .i8 a.x, .int .i8 a.y] 36)).alloc (.cells #[.int .i8 b.x, .int .i8 b.y] 36) = W0 at *
  have hs1 : W.heap.size < W0.heap.size := by omega
  go_region_held3 (CcS W0 W.heap.size (W.heap.size + 1) a b) (first | assumption | exact CcS.keep hs1 hsz (by assumption) ((Below.refl _ _).drew) | exact CcS.keep hs1 hsz (by assumption) ((Below.refl _ _).alloc (Nat.le_refl _) _) | exact CcS.keep hs1 hsz (by assumption) (by assumption)) (first | (go_at_call 169; with_reducible refine (q1.out _).mono ?_; rintro e w' ⟨rfl, rfl⟩) | (go_at_call 169; with_reducible refine (q2.out _).mono ?_; rintro e w' ⟨rfl, rfl⟩) | (go_at_call 168; refine (cmpOr_calls n m _ _ (by repeat (first | exact sl2i _ n m _ rfl _ | refine Sl.ext ?_ ((Below.refl _ _).drew)))).mono ?_; rintro e w' ⟨rfl, rfl⟩))
  go_wp2_with fail
  go_ret
  exact ⟨ret_int hR.out.symm, ext_trans hB.out (And.left (b := _) (by assumption))⟩
abbrev CsS (W0 : World) (c d : Nat) (a b : Slab) (w' : World) : Prop :=
  Below W0.heap.size W0 w' ∧ w'.cell? ⟨c, 0, none⟩ = some (.int .i8 a.x) ∧ w'.cell? ⟨c, 1, none⟩ = some (.int .i8 a.y) ∧ w'.cell? ⟨c, 2, none⟩ = some (.int .i8 a.w) ∧ w'.cell? ⟨c, 3, none⟩ = some (.int .i8 a.h) ∧ w'.cell? ⟨d, 0, none⟩ = some (.int .i8 b.x) ∧ w'.cell? ⟨d, 1, none⟩ = some (.int .i8 b.y) ∧ w'.cell? ⟨d, 2, none⟩ = some (.int .i8 b.w) ∧ w'.cell? ⟨d, 3, none⟩ = some (.int .i8 b.h)
theorem CsS.keep {W0 w1 w2 : World} {c d : Nat} {a b : Slab} (hc : c < W0.heap.size) (hd : d < W0.heap.size) (h : CsS W0 c d a b w1) (k : Below w1.heap.size w1 w2) : CsS W0 c d a b w2 := by
  obtain ⟨h0, h1, h2, h3, h4, g1, g2, g3, g4⟩ := h
  have hl : c < w1.heap.size := Nat.lt_of_lt_of_le hc h0.size
  have hl2 : d < w1.heap.size := Nat.lt_of_lt_of_le hd h0.size
  have q : ∀ o, w2.cell? ⟨c, o, none⟩ = w1.cell? ⟨c, o, none⟩ := fun o => k.cell (p := ⟨c, o, none⟩) hl
  have r : ∀ o, w2.cell? ⟨d, o, none⟩ = w1.cell? ⟨d, o, none⟩ := fun o => k.cell (p := ⟨d, o, none⟩) hl2
  exact ⟨ext_trans h0 k, (q _).trans h1, (q _).trans h2, (q _).trans h3, (q _).trans h4, (r _).trans g1, (r _).trans g2, (r _).trans g3, (r _).trans g4⟩
def cmpS (a b : Slab) : Int := cmpC ⟨a.x, a.y⟩ ⟨b.x, b.y⟩
theorem cmpS_pos (a b : Slab) : decide (0 < cmpS a b) = beforeB b a := by
  unfold cmpS cmpC orI cmpI beforeB
  rw [Bool.eq_iff_iff]
  simp only [decide_eq_true_eq]
  by_cases h1 : a.y < b.y <;> by_cases h2 : b.y < a.y <;> by_cases h3 : a.x < b.x <;> by_cases h4 : b.x < a.x <;> simp [h1, h2, h3, h4] <;> omega
set_option maxHeartbeats 2000000 in
theorem cmpSlabs_calls (a b : Slab) (W : World) :
    Calls Try.prog 161 #[a.v, b.v] W fun e w' => e = .returned (.int .i64 (cmpS a b)) ∧ Below W.heap.size W w' := by
  have hB := Lib.hid (ext_alloc ((Below.refl W.heap.size W).alloc (Nat.le_refl _) (.cells #[.int .i8 a.x, .int .i8 a.y, .int .i8 a.w, .int .i8 a.h] 127)) (.cells #[.int .i8 b.x, .int .i8 b.y, .int .i8 b.w, .int .i8 b.h] 127))
  have hsz : W.heap.size + 1 < ((W.alloc (.cells #[.int .i8 a.x, .int .i8 a.y, .int .i8 a.w, .int .i8 a.h] 127)).alloc (.cells #[.int .i8 b.x, .int .i8 b.y, .int .i8 b.w, .int .i8 b.h] 127)).heap.size := by simp
  have hS : CsS ((W.alloc (.cells #[.int .i8 a.x, .int .i8 a.y, .int .i8 a.w, .int .i8 a.h] 127)).alloc (.cells #[.int .i8 b.x, .int .i8 b.y, .int .i8 b.w, .int .i8 b.h] 127)) W.heap.size (W.heap.size + 1) a b ((W.alloc (.cells #[.int .i8 a.x, .int .i8 a.y, .int .i8 a.w, .int .i8 a.h] 127)).alloc (.cells #[.int .i8 b.x, .int .i8 b.y, .int .i8 b.w, .int .i8 b.h] 127)) := by
    refine ⟨Below.refl _ _, ?_, ?_, ?_, ?_, ?_, ?_, ?_, ?_⟩ <;> simp
  have q1 := Lib.hid (show ∀ w, Calls Try.prog 194 #[.agg #[.int .i8 a.x, .int .i8 a.y, .int .i8 a.w, .int .i8 a.h]] w (fun e w' => e = .returned (.agg #[.int .i8 a.x, .int .i8 a.y]) ∧ Below w.heap.size w w') from fun w => first_calls a w)
  have q2 := Lib.hid (show ∀ w, Calls Try.prog 194 #[.agg #[.int .i8 b.x, .int .i8 b.y, .int .i8 b.w, .int .i8 b.h]] w (fun e w' => e = .returned (.agg #[.int .i8 b.x, .int .i8 b.y]) ∧ Below w.heap.size w w') from fun w => first_calls b w)
  have q3 := Lib.hid (show ∀ w, Calls Try.prog 120 #[.agg #[.int .i8 a.x, .int .i8 a.y], .agg #[.int .i8 b.x, .int .i8 b.y]] w (fun e w' => e = .returned (.int .i64 (cmpS a b)) ∧ Below w.heap.size w w') from fun w => cmpCells_calls ⟨a.x, a.y⟩ ⟨b.x, b.y⟩ w)
  unfold Slab.v
  go_enter Try.func161, Try.ntmps161
  go_wp2_with fail
  generalize (W.alloc (.cells #[.int .i8 a.x, .int .i8 a.y, .int .i8 a.w, .int .i8 a.h] 127)).alloc (.cells #[.int .i8 b.x, .int .i8 b.y, .int .i8 b.w, .int .i8 b.h] 127) = W0 at *
  have hs1 : W.heap.size < W0.heap.size := by omega
  go_region_held3 (CsS W0 W.heap.size (W.heap.size + 1) a b) (first | assumption | exact CsS.keep hs1 hsz (by assumption) ((Below.refl _ _).drew) | exact CsS.keep hs1 hsz (by assumption) (by assumption)) (first | (go_at_call 194; with_reducible refine (q1.out _).mono ?_; rintro e w' ⟨rfl, hb⟩) | (go_at_call 194; with_reducible refine (q2.out _).mono ?_; rintro e w' ⟨rfl, hb⟩) | (go_at_call 120; with_reducible refine (q3.out _).mono ?_; rintro e w' ⟨rfl, hb⟩))
  all_goals
    go_wp2_with fail
    go_ret
    exact ⟨rfl, ext_trans hB.out (And.left (b := _) (by assumption))⟩
theorem indexFuncSlabM (xs : List Slab) (v : Value) (w : World) (hs : Sl w w.heap.size Slab.c 4 v xs) (g : FuncId) (fa : Value) (p : Slab → Bool) (eg : Enters Try.prog g)
    (hg : ∀ x ∈ xs, ∀ W, Below w.heap.size w W → Calls Try.prog g #[fa, x.v] W fun e W' => e = .returned (.bool (p x)) ∧ Below W.heap.size W W') :
    Calls Try.prog 163 #[v, .func (.func g) #[fa] #[]] w fun e w' => e = .returned (.int .i64 (findI p xs)) ∧ Below w.heap.size w w' := by
  obtain ⟨A, cap, rfl, hl, hm, hcell⟩ := hs.slab
  clear hs
  go_enter Try.func163, Try.ntmps163
  go_wp2_with fail
  go_loopw [5, 8] (fun _ i wr => ∃ k : Nat, k ≤ xs.length ∧ i = .int .i64 k ∧ Below w.heap.size w wr ∧ (xs.take k).all (fun x => !p x) = true) (fun _ i _ => xs.length - (intOf i).toNat)
  case atStart => exact ⟨0, by omega, rfl, Below.refl _ _, rfl⟩
  case round =>
    obtain ⟨k, hk, rfl, hb, hall⟩ := hrel
    have HA := Lib.hid hall
    clear hall
    by_cases hlt : k < xs.length
    · obtain ⟨b, o, rfl, hbb, h0, h1, h2, h3⟩ := hcell k hlt
      clear hcell
      have hx := Lib.hid (hg xs[k] (List.getElem_mem hlt) _ hb)
      obtain ⟨hcr, hfr⟩ := bcell hb
      go_wp2_with fail
      rw [eg, Oper.upon_enter]
      refine hx.out.mono ?_
      rintro e w1 ⟨rfl, hb1⟩
      have hb2 := hb.trans (hb1.mono hb.size)
      clear hcr hfr
      cases hp : p xs[k]
      · have HP := Lib.hid hp
        clear hp
        go_wp2_with fail
        go_roundw
        case rel => exact ⟨k + 1, by omega, by go_num, hb2, take_all_succ _ _ _ hlt HA.out (by simp [HP.out])⟩
        case measure => simp [intOf]; omega
      · have HP := Lib.hid hp
        clear hp
        go_wp2_with fail
        go_ret
        exact ⟨ret_int (findI_at p xs k hlt HA.out HP.out).symm, hb2⟩
    · have hf := Lib.hid (findI_none p xs (all_of_take _ xs k (by omega) HA.out))
      go_wp2_with fail
      go_ret
      exact ⟨ret_int hf.out.symm, hb⟩
theorem containsFuncSlabM (xs : List Slab) (v : Value) (w : World) (hs : Sl w w.heap.size Slab.c 4 v xs) (g : FuncId) (fa : Value) (p : Slab → Bool) (eg : Enters Try.prog g)
    (hg : ∀ x ∈ xs, ∀ W, Below w.heap.size w W → Calls Try.prog g #[fa, x.v] W fun e W' => e = .returned (.bool (p x)) ∧ Below W.heap.size W W') :
    Calls Try.prog 159 #[v, .func (.func g) #[fa] #[]] w fun e w' => e = .returned (.bool (xs.any p)) ∧ Below w.heap.size w w' := by
  have hf := Lib.hid (findI_ge p xs)
  go_enter Try.func159, Try.ntmps159
  go_wp2_with fail
  refine (indexFuncSlabM xs v w hs g fa p eg hg).mono ?_
  rintro e w1 ⟨rfl, hb1⟩
  go_wp2_with fail
  go_ret
  exact ⟨ret_bool hf.out, hb1⟩
end Go.Proofs.Yteflpdfajfljfaa
