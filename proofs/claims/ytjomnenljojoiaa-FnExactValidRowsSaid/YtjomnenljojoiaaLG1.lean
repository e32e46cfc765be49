/-
The laws on gangs, rows and mixes, walked: each answers true. Conditions: numbers are of their kinds, slices can be read.
-/
import Derived.Test.YtjomnenljojoiaaG1
import Derived.Test.YtjomnenljojoiaaLaw
set_option linter.unusedVariables false
set_option linter.unusedSimpArgs false
namespace Go.Proofs.Ytjomnenljojoiaa
open Go.RowKit
theorem law_FnExactValidGang (w : World) (x : Gang) (hx : x.ok) :
    Calls Try.prog 3 #[x.v] w fun e w' => e = .returned (.bool true) ∧ Below w.heap.size w w' := by
  unfold Gang.v
  go_enter Try.func3, Try.ntmps3
  go_wp2_with fail
  refine (toGang_calls x _).mono ?_
  rintro e w1 ⟨rfl, hb1⟩
  obtain ⟨hc1, hf1⟩ := bcell hb1
  go_wp2_with fail
  refine (specValidGang_calls x hx _).mono ?_
  rintro e w2 ⟨rfl, hb2⟩
  have hb2 := ext_trans hb1 hb2
  clear hc1 hf1
  obtain ⟨hc1, hf1⟩ := bcell hb2
  go_wp2_with fail
  refine (toGang_calls x _).mono ?_
  rintro e w3 ⟨rfl, hb3⟩
  have hb3 := ext_trans hb2 hb3
  clear hc1 hf1
  go_wp2_with fail
  refine (implValidGang_calls x hx _).mono ?_
  rintro e w4 ⟨rfl, hb4⟩
  have hb4 := ext_trans hb3 hb4
  go_wp2_with fail
  go_ret
  exact ⟨rfl, ext_of_alloc hb4⟩
theorem law_FnExactDaysFor (w : World) (x : Gang) (hx : x.ok) (work : Int) (_h0 : -9223372036854775808 ≤ work) (_h1 : work ≤ 9223372036854775807) :
    Calls Try.prog 6 #[x.v, .int .i64 work] w fun e w' => e = .returned (.bool true) ∧ Below w.heap.size w w' := by
  unfold Gang.v
  go_enter Try.func6, Try.ntmps6
  go_wp2_with fail
  refine (toGang_calls x _).mono ?_
  rintro e w1 ⟨rfl, hb1⟩
  obtain ⟨hc1, hf1⟩ := bcell hb1
  go_wp2_with fail
  refine (specDaysFor_calls x hx work _).mono ?_
  rintro e w2 ⟨rfl, hb2⟩
  have hb2 := ext_trans hb1 hb2
  clear hc1 hf1
  obtain ⟨hc1, hf1⟩ := bcell hb2
  go_wp2_with fail
  refine (toGang_calls x _).mono ?_
  rintro e w3 ⟨rfl, hb3⟩
  have hb3 := ext_trans hb2 hb3
  clear hc1 hf1
  go_wp2_with fail
  refine (implDaysFor_calls x hx work _).mono ?_
  rintro e w4 ⟨rfl, hb4⟩
  have hb4 := ext_trans hb3 hb4
  go_wp2_with fail
  go_ret
  exact ⟨rfl, ext_of_alloc hb4⟩
theorem toMix_calls (m : Mix) (w : World) :
    Calls Try.prog 15 #[Mix.v m] w fun e w' => e = .returned (Mix.v m) ∧ Below w.heap.size w w' := by
  unfold Mix.v
  go_enter Try.func15, Try.ntmps15
  go_wp2_with fail
  refine wp_loop_rounds 4 ?_
  rw [rounds_succ]
  go_wp2_with fail
  rw [rounds_succ]
  go_wp2_with fail
  rw [rounds_succ]
  go_wp2_with fail
  rw [rounds_succ]
  go_wp2_with fail
  exact bodyPost_ret (v := .agg #[.int .i16 m.x, .int .i16 m.y, .int .i16 m.z]) (by simp [results, Try.results15, go_sem]) rfl ⟨rfl, (((Below.refl _ _).alloc (Nat.le_refl _) _).alloc (by simp) _).alloc (by simp; omega) _⟩
theorem law_FnExactValidMix (w : World) (m : Mix) (hm : m.ok) :
    Calls Try.prog 5 #[Mix.v m] w fun e w' => e = .returned (.bool true) ∧ Below w.heap.size w w' := by
  have HE := Lib.hid (vMix_eq m)
  unfold Mix.v
  go_enter Try.func5, Try.ntmps5
  go_wp2_with fail
  refine (toMix_calls m _).mono ?_
  rintro e w1 ⟨rfl, hb1⟩
  obtain ⟨hc1, hf1⟩ := bcell hb1
  go_wp2_with fail
  refine (specValidMix_calls m hm _).mono ?_
  rintro e w2 ⟨rfl, hb2⟩
  have hb2 := ext_trans hb1 hb2
  clear hc1 hf1
  obtain ⟨hc1, hf1⟩ := bcell hb2
  go_wp2_with fail
  refine (toMix_calls m _).mono ?_
  rintro e w3 ⟨rfl, hb3⟩
  have hb3 := ext_trans hb2 hb3
  clear hc1 hf1
  go_wp2_with fail
  refine (implValidMix_calls m hm _).mono ?_
  rintro e w4 ⟨rfl, hb4⟩
  have hb4 := ext_trans hb3 hb4
  rw [HE.out]
  go_wp2_with fail
  go_ret
  exact ⟨rfl, ext_of_alloc hb4⟩
abbrev MayS (W0 : World) (b : Nat) (x : Gang) (r : Row) (w' : World) : Prop :=
  Below W0.heap.size W0 w' ∧ w'.cell? ⟨b, 0, none⟩ = some (.int .i8 x.s) ∧ w'.cell? ⟨b, 1, none⟩ = some (.int .i8 x.p) ∧ w'.cell? ⟨b, 2, none⟩ = some (.int .i8 x.k) ∧ w'.cell? ⟨b, 3, none⟩ = some (.int .i8 x.r) ∧ w'.cell? ⟨b, 4, none⟩ = some (.int .i16 x.g) ∧
    w'.cell? ⟨b + 1, 0, none⟩ = some (.int .i8 r.n) ∧ w'.cell? ⟨b + 1, 1, none⟩ = some (.int .i16 r.w)
theorem MayS.keep {W0 w1 w2 : World} {b : Nat} {x : Gang} {r : Row} (hb : b + 1 < W0.heap.size) (h : MayS W0 b x r w1) (k : Below w1.heap.size w1 w2) : MayS W0 b x r w2 := by
  obtain ⟨h0, h1, h2, h3, h4, h5, h6, h7⟩ := h
  have hl : b + 1 < w1.heap.size := Nat.lt_of_lt_of_le hb h0.size
  have q : ∀ o, w2.cell? ⟨b, o, none⟩ = w1.cell? ⟨b, o, none⟩ := fun o => k.cell (p := ⟨b, o, none⟩) (by show b < _; omega)
  have q2 : ∀ o, w2.cell? ⟨b + 1, o, none⟩ = w1.cell? ⟨b + 1, o, none⟩ := fun o => k.cell (p := ⟨b + 1, o, none⟩) hl
  exact ⟨ext_trans h0 k, (q _).trans h1, (q _).trans h2, (q _).trans h3, (q _).trans h4, (q _).trans h5, (q2 _).trans h6, (q2 _).trans h7⟩
theorem law_FnExactMayLay (w : World) (x : Gang) (hx : x.ok) (r : Row) (hr : r.ok) :
    Calls Try.prog 7 #[x.v, r.v] w fun e w' => e = .returned (.bool true) ∧ Below w.heap.size w w' := by
  unfold Gang.v Row.v
  go_enter Try.func7, Try.ntmps7
  go_wp2_with fail
  have hS : MayS ((w.alloc (.cells #[.int .i8 x.s, .int .i8 x.p, .int .i8 x.k, .int .i8 x.r, .int .i16 x.g] 25)).alloc (.cells #[.int .i8 r.n, .int .i16 r.w] 41)) w.heap.size x r ((w.alloc (.cells #[.int .i8 x.s, .int .i8 x.p, .int .i8 x.k, .int .i8 x.r, .int .i16 x.g] 25)).alloc (.cells #[.int .i8 r.n, .int .i16 r.w] 41)) := by
    refine ⟨Below.refl _ _, ?_, ?_, ?_, ?_, ?_, ?_, ?_⟩ <;> simp
  have hB := ext_alloc ((Below.refl w.heap.size w).alloc (Nat.le_refl _) (.cells #[.int .i8 x.s, .int .i8 x.p, .int .i8 x.k, .int .i8 x.r, .int .i16 x.g] 25)) (.cells #[.int .i8 r.n, .int .i16 r.w] 41)
  have hsz : w.heap.size + 1 < ((w.alloc (.cells #[.int .i8 x.s, .int .i8 x.p, .int .i8 x.k, .int .i8 x.r, .int .i16 x.g] 25)).alloc (.cells #[.int .i8 r.n, .int .i16 r.w] 41)).heap.size := by simp
  generalize ((w.alloc (.cells #[.int .i8 x.s, .int .i8 x.p, .int .i8 x.k, .int .i8 x.r, .int .i16 x.g] 25)).alloc (.cells #[.int .i8 r.n, .int .i16 r.w] 41)) = W0 at hS hB hsz
  go_region_held3 (MayS W0 w.heap.size x r) (first | assumption | exact MayS.keep hsz (by assumption) ((Below.refl _ _).drew) | exact MayS.keep hsz (by assumption) (by assumption)) (first | (go_at_call 10; refine (toGang_calls x _).mono ?_; rintro e w' ⟨rfl, hb⟩) | (go_at_call 20; refine (toRow_calls r _).mono ?_; rintro e w' ⟨rfl, hb⟩) | (go_at_call 19; refine (specMayLay_calls x hx r hr _).mono ?_; rintro e w' ⟨rfl, hb⟩))
  go_wp2_with fail
  go_region_held3 (MayS W0 w.heap.size x r) (first | assumption | exact MayS.keep hsz (by assumption) ((Below.refl _ _).drew) | exact MayS.keep hsz (by assumption) (by assumption)) (first | (go_at_call 10; refine (toGang_calls x _).mono ?_; rintro e w' ⟨rfl, hb⟩) | (go_at_call 20; refine (toRow_calls r _).mono ?_; rintro e w' ⟨rfl, hb⟩) | (go_at_call 21; refine (implMayLay_calls x hx r hr _).mono ?_; rintro e w' ⟨rfl, hb⟩))
  go_wp2_with fail
  go_ret
  exact ⟨rfl, ext_trans hB (And.left (b := _) (by assumption))⟩
theorem law_FnExactValidRows (w : World) (xs : List Row) (v : Value) (hs : Sl w w.heap.size Row.c 2 v xs) (hx : ∀ x ∈ xs, x.ok) :
    Calls Try.prog 8 #[v] w fun e w' => e = .returned (.bool true) ∧ Below w.heap.size w w' := by
  go_enter Try.func8, Try.ntmps8
  go_wp2_with fail
  refine (szRowS_calls xs v _ _ (by omega) (by omega) hs).mono ?_
  rintro e w1 ⟨rfl, rfl⟩
  by_cases hl : (1048576 : Int) < xs.length
  · rw [if_pos hl]
    go_wp2_with fail
    go_ret
    exact ⟨rfl, Below.refl _ _⟩
  · rw [if_neg hl]
    have hn : xs.length ≤ 1048576 := by omega
    go_wp2_with fail
    refine (toRowS_calls xs v _ hs hn).mono ?_
    rintro e w1 ⟨v1, rfl, hO1, hb1⟩
    go_wp2_with fail
    refine (specValidRows_calls xs hx v1 _ (hO1.sl Row.c_len)).mono ?_
    rintro e w2 ⟨rfl, rfl⟩
    go_wp2_with fail
    have hs1 := hs.ext hb1
    refine (toRowS_calls xs v _ hs1 hn).mono ?_
    rintro e w2 ⟨v2, rfl, hO2, hb2⟩
    have hb2' := ext_trans hb1 hb2
    go_wp2_with fail
    refine (implValidRows_calls xs hx v2 _ (hO2.sl Row.c_len)).mono ?_
    rintro e w3 ⟨rfl, hb3⟩
    have hb3' := ext_trans hb2' hb3
    go_wp2_with fail
    refine (toRowS_calls xs v _ (hs.ext hb3') hn).mono ?_
    rintro e w4 ⟨v4, rfl, hO4, hb4⟩
    have hb4' := ext_trans hb3' hb4
    go_wp2_with fail
    refine (eqRowS_calls xs xs v2 v4 _ (((hO2.sl Row.c_len).ext hb3).ext hb4) (hO4.sl Row.c_len)).mono ?_
    rintro e w5 ⟨rfl, hb5⟩
    have hd : decide (xs = xs) = true := by simp
    rw [hd]
    go_wp2_with fail
    go_ret
    exact ⟨rfl, ext_trans hb4' hb5⟩
end Go.Proofs.Ytjomnenljojoiaa
