/-
The laws on mixes, walked: each answers true. Conditions: numbers are of their kinds, slices can be read.
-/
import Derived.Test.YtjomnenljojoiabG3
set_option linter.unusedVariables false
set_option linter.unusedSimpArgs false
set_option maxRecDepth 100000
namespace Go.Proofs.Ytjomnenljojoiab
open Go.RowKit
theorem law_FnExactMixFor (w : World) (m : Mix) (hm : m.ok) (n : Int) (_h0 : -9223372036854775808 ≤ n) (_h1 : n ≤ 9223372036854775807) :
    Calls Try.prog 3 #[Mix.v m, .int .i64 n] w fun e w' => e = .returned (.bool true) ∧ Below w.heap.size w w' := by
  have hS := Lib.hid (fun W => specMixFor_calls m hm n W)
  have hI := Lib.hid (fun W => implMixFor_calls m hm n W)
  generalize mixFor m n = F at hS hI
  unfold Mix.v
  go_enter Try.func3, Try.ntmps3
  go_wp2_with fail
  refine (toMix_calls m _).mono ?_
  rintro e w1 ⟨rfl, hb1⟩
  obtain ⟨hc1, hf1⟩ := bcell hb1
  go_wp2_with fail
  refine (hS.out _).mono ?_
  rintro e w2 ⟨rfl, hb2⟩
  have hb2 := ext_trans hb1 hb2
  clear hc1 hf1
  obtain ⟨hc1, hf1⟩ := bcell hb2
  have hl2 : w.heap.size < w2.heap.size := Nat.lt_of_lt_of_le (by simp) hb2.size
  unfold Mix.v
  go_wp2_with fail
  refine (toMix_calls m _).mono ?_
  rintro e w3 ⟨rfl, hb3⟩
  have hb3' := ext_trans (ext_alloc hb2 _) hb3
  clear hc1 hf1
  go_wp2_with fail
  refine (hI.out _).mono ?_
  rintro e w4 ⟨rfl, hb4⟩
  have hb4' := ext_trans hb3' hb4
  have hbk := Lib.hid (((Bk.new w2 24 #[.int .i16 F.1.x, .int .i16 F.1.y, .int .i16 F.1.z] w2.heap.size rfl).ext hb3).ext hb4)
  have d0 := hbk.out.cell 0 _ rfl
  have d1 := hbk.out.cell 1 _ rfl
  have d2 := hbk.out.cell 2 _ rfl
  have hl4 := hbk.out.lt
  unfold Mix.v
  clear hb3 hb4
  go_wp2_with fail
  refine (eqMix_calls F.1 F.1 _).mono ?_
  rintro e w5 ⟨rfl, hb5⟩
  have hb5' := ext_trans (ext_alloc hb4' _) hb5
  have hd : decide (F.1 = F.1) = true := by simp
  rw [hd]
  go_wp2_with fail
  go_ret
  exact ⟨rfl, ext_of_alloc hb5'⟩
abbrev MixS (W0 : World) (b : Nat) (m s : Mix) (w' : World) : Prop :=
  Below W0.heap.size W0 w' ∧ w'.cell? ⟨b, 0, none⟩ = some (.int .i16 m.x) ∧ w'.cell? ⟨b, 1, none⟩ = some (.int .i16 m.y) ∧ w'.cell? ⟨b, 2, none⟩ = some (.int .i16 m.z) ∧
    w'.cell? ⟨b + 1, 0, none⟩ = some (.int .i16 s.x) ∧ w'.cell? ⟨b + 1, 1, none⟩ = some (.int .i16 s.y) ∧ w'.cell? ⟨b + 1, 2, none⟩ = some (.int .i16 s.z)
theorem MixS.keep {W0 w1 w2 : World} {b : Nat} {m s : Mix} (hb : b + 1 < W0.heap.size) (h : MixS W0 b m s w1) (k : Below w1.heap.size w1 w2) : MixS W0 b m s w2 := by
  obtain ⟨h0, h1, h2, h3, h4, h5, h6⟩ := h
  have hl : b + 1 < w1.heap.size := Nat.lt_of_lt_of_le hb h0.size
  have q : ∀ o, w2.cell? ⟨b, o, none⟩ = w1.cell? ⟨b, o, none⟩ := fun o => k.cell (p := ⟨b, o, none⟩) (by show b < _; omega)
  have q2 : ∀ o, w2.cell? ⟨b + 1, o, none⟩ = w1.cell? ⟨b + 1, o, none⟩ := fun o => k.cell (p := ⟨b + 1, o, none⟩) hl
  exact ⟨ext_trans h0 k, (q _).trans h1, (q _).trans h2, (q _).trans h3, (q2 _).trans h4, (q2 _).trans h5, (q2 _).trans h6⟩
theorem law_FnExactMostFrom (w : World) (m : Mix) (hm : m.ok) (s : Mix) (hs : s.ok) :
    Calls Try.prog 4 #[Mix.v m, Mix.v s] w fun e w' => e = .returned (.bool true) ∧ Below w.heap.size w w' := by
  unfold Mix.v
  go_enter Try.func4, Try.ntmps4
  go_wp2_with fail
  have hS : MixS ((w.alloc (.cells #[.int .i16 m.x, .int .i16 m.y, .int .i16 m.z] 23)).alloc (.cells #[.int .i16 s.x, .int .i16 s.y, .int .i16 s.z] 23)) w.heap.size m s ((w.alloc (.cells #[.int .i16 m.x, .int .i16 m.y, .int .i16 m.z] 23)).alloc (.cells #[.int .i16 s.x, .int .i16 s.y, .int .i16 s.z] 23)) := by
    refine ⟨Below.refl _ _, ?_, ?_, ?_, ?_, ?_, ?_⟩ <;> simp
  have hB := ext_alloc ((Below.refl w.heap.size w).alloc (Nat.le_refl _) (.cells #[.int .i16 m.x, .int .i16 m.y, .int .i16 m.z] 23)) (.cells #[.int .i16 s.x, .int .i16 s.y, .int .i16 s.z] 23)
  have hsz : w.heap.size + 1 < ((w.alloc (.cells #[.int .i16 m.x, .int .i16 m.y, .int .i16 m.z] 23)).alloc (.cells #[.int .i16 s.x, .int .i16 s.y, .int .i16 s.z] 23)).heap.size := by simp
  generalize ((w.alloc (.cells #[.int .i16 m.x, .int .i16 m.y, .int .i16 m.z] 23)).alloc (.cells #[.int .i16 s.x, .int .i16 s.y, .int .i16 s.z] 23)) = W0 at hS hB hsz
  go_region_held3 (MixS W0 w.heap.size m s) (first | assumption | exact MixS.keep hsz (by assumption) ((Below.refl _ _).drew) | exact MixS.keep hsz (by assumption) (by assumption)) (first | (go_at_call 10; refine (toMix3_calls _ _ _ _).mono ?_; rintro e w' ⟨rfl, hb⟩) | (go_at_call 13; refine (specMostFrom_calls m hm s hs _).mono ?_; rintro e w' ⟨rfl, hb⟩))
  go_wp2_with fail
  go_region_held3 (MixS W0 w.heap.size m s) (first | assumption | exact MixS.keep hsz (by assumption) ((Below.refl _ _).drew) | exact MixS.keep hsz (by assumption) (by assumption)) (first | (go_at_call 10; refine (toMix3_calls _ _ _ _).mono ?_; rintro e w' ⟨rfl, hb⟩) | (go_at_call 14; refine (implMostFrom_calls m hm s hs _).mono ?_; rintro e w' ⟨rfl, hb⟩))
  go_wp2_with fail
  go_ret
  exact ⟨rfl, ext_trans hB (And.left (b := _) (by assumption))⟩
abbrev StS (W0 : World) (b : Nat) (s : Mix) (w' : World) : Prop :=
  Below W0.heap.size W0 w' ∧ w'.cell? ⟨b, 0, none⟩ = some (.int .i16 s.x) ∧ w'.cell? ⟨b, 1, none⟩ = some (.int .i16 s.y) ∧ w'.cell? ⟨b, 2, none⟩ = some (.int .i16 s.z)
theorem StS.keep {W0 w1 w2 : World} {b : Nat} {s : Mix} (hb : b < W0.heap.size) (h : StS W0 b s w1) (k : Below w1.heap.size w1 w2) : StS W0 b s w2 := by
  obtain ⟨h0, h1, h2, h3⟩ := h
  have hl : b < w1.heap.size := Nat.lt_of_lt_of_le hb h0.size
  have q : ∀ o, w2.cell? ⟨b, o, none⟩ = w1.cell? ⟨b, o, none⟩ := fun o => k.cell (p := ⟨b, o, none⟩) hl
  exact ⟨ext_trans h0 k, (q _).trans h1, (q _).trans h2, (q _).trans h3⟩
set_option maxHeartbeats 1000000 in
theorem law_FnExactBestMix (w : World) (xs : List Mix) (v : Value) (hsl : Sl w w.heap.size Mix.c 3 v xs) (hx : ∀ x ∈ xs, x.ok) (s : Mix) (hs : s.ok) :
    Calls Try.prog 6 #[v, Mix.v s] w fun e w' => e = .returned (.bool true) ∧ Below w.heap.size w w' := by
  unfold Mix.v
  go_enter Try.func6, Try.ntmps6
  go_wp2_with fail
  refine (szMixS_calls xs v _ _ (by omega) (by omega) (hsl.alloc _)).mono ?_
  rintro e w1 ⟨rfl, rfl⟩
  by_cases hl : (1048576 : Int) < xs.length
  · rw [if_pos hl]
    go_wp2_with fail
    go_ret
    exact ⟨rfl, (Below.refl _ _).alloc (Nat.le_refl _) _⟩
  · rw [if_neg hl]
    have hn : xs.length ≤ 1048576 := by omega
    go_wp2_with fail
    have hS : StS (w.alloc (.cells #[.int .i16 s.x, .int .i16 s.y, .int .i16 s.z] 23)) w.heap.size s (w.alloc (.cells #[.int .i16 s.x, .int .i16 s.y, .int .i16 s.z] 23)) := by
      refine ⟨Below.refl _ _, ?_, ?_, ?_⟩ <;> simp
    have hB := (Below.refl w.heap.size w).alloc (Nat.le_refl _) (.cells #[.int .i16 s.x, .int .i16 s.y, .int .i16 s.z] 23)
    have hsz : w.heap.size < (w.alloc (.cells #[.int .i16 s.x, .int .i16 s.y, .int .i16 s.z] 23)).heap.size := by simp
    have HSL := Lib.hid (hsl.alloc (.cells #[.int .i16 s.x, .int .i16 s.y, .int .i16 s.z] 23))
    generalize (w.alloc (.cells #[.int .i16 s.x, .int .i16 s.y, .int .i16 s.z] 23)) = W0 at hS hB hsz HSL
    go_region_held3 (StS W0 w.heap.size s) (first | assumption | exact StS.keep hsz (by assumption) ((Below.refl _ _).drew) | exact StS.keep hsz (by assumption) (by assumption)) (first | (go_at_call 10; refine (toMix3_calls _ _ _ _).mono ?_; rintro e w' ⟨rfl, hb⟩) | (go_at_call 22; refine (toMixS_calls xs v _ (HSL.out.ext (And.left (b := _) (by assumption))) hn).mono ?_; rintro e w' ⟨v1, rfl, hO, hb⟩) | (go_at_call 21; refine (specBestMix_calls xs hx _ s hs _ (by repeat (first | exact Own.sl Mix.c_len (by assumption) | refine Sl.ext ?_ (by assumption) | refine Sl.ext ?_ ((Below.refl _ _).drew)))).mono ?_; rintro e w' ⟨rfl, hb⟩))
    go_wp2_with fail
    refine (toMixS_calls xs v _ (HSL.out.ext (And.left (b := _) (by assumption))) hn).mono ?_
    rintro e w9 ⟨v2, rfl, hO2, hb9⟩
    obtain ⟨hB9, s0, s1, s2⟩ := StS.keep hsz (by assumption) hb9
    clear hb9
    go_wp2_with fail
    refine (toMix3_calls _ _ _ _).mono ?_
    rintro e w10 ⟨rfl, hb10⟩
    have hB10 := ext_trans hB9 hb10
    have hO3 := hO2.ext hb10
    clear s0 s1 s2 hb10 hO2
    go_wp2_with fail
    refine (implBestMix_calls xs hx v2 s hs _ (hO3.sl Mix.c_len)).mono ?_
    rintro e w11 ⟨rfl, hb11⟩
    have hB11 := ext_trans hB10 hb11
    have hO4 := hO3.ext hb11
    clear hb11 hO3
    go_wp2_with fail
    refine (toMixS_calls xs v _ (HSL.out.ext hB11) hn).mono ?_
    rintro e w12 ⟨v3, rfl, hO5, hb12⟩
    have hB12 := ext_trans hB11 hb12
    go_wp2_with fail
    refine (eqMixS_calls xs xs v2 v3 _ ((hO4.sl Mix.c_len).ext hb12) (hO5.sl Mix.c_len)).mono ?_
    rintro e w13 ⟨rfl, hb13⟩
    have hd : decide (xs = xs) = true := by simp
    rw [hd]
    go_wp2_with fail
    go_ret
    exact ⟨rfl, ext_trans hB (ext_trans hB12 hb13)⟩
end Go.Proofs.Ytjomnenljojoiab
