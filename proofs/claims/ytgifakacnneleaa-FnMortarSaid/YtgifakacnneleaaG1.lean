/-
Contracts of the functions on gangs, rows and mixes, each over plain numbers and lists. Conditions: numbers are of their kinds; slices can be read.
-/
import Derived.Test.YtgifakacnneleaaLaw
import Derived.Laws.StructEq
import Derived.ChangeKeysEq
set_option linter.unusedVariables false
set_option linter.unusedSimpArgs false
set_option maxRecDepth 100000
namespace Go.Proofs.Ytgifakacnneleaa
open Go.RowKit

def vGangB (x : Gang) : Bool := inB x.s 0 9 && inB x.p 1 100 && inB x.k 1 9 && inB x.r 0 9 && inB x.g 0 1000
theorem Gang.at_alloc (w : World) (x : Gang) (T : TypeId) : Gang.at_ (w.alloc (.cells #[.int .i8 x.s, .int .i8 x.p, .int .i8 x.k, .int .i8 x.r, .int .i16 x.g] T)) w.heap.size 0 x := by
  refine ⟨?_, ?_, ?_, ?_, ?_⟩ <;> simp
def vMixS (m : Mix) : Bool := inB m.x 0 100 && inB m.y 0 100 && inB m.z 0 100 && decide (m.x + m.y + m.z > 0)
def vMixI (m : Mix) : Bool := !(decide (m.x = 0) && decide (m.y = 0) && decide (m.z = 0)) && (inB m.x 0 100 && inB m.y 0 100 && inB m.z 0 100)
theorem vMix_eq (m : Mix) : vMixI m = vMixS m := by
  rw [Bool.eq_iff_iff]
  simp [vMixI, vMixS, inB]
  omega
theorem l07Parts_calls (b o : Nat) (m : Mix) (hm : m.ok) (w : World) (hat : Mix.at_ w b o m) :
    Calls Try.prog 52 #[.pointer (some ⟨b, o, none⟩)] w fun e w' => e = .returned (.int .i64 (m.x + m.y + m.z)) ∧ ∃ n, w' = w.drewN n := by
  obtain ⟨h0, h1, h2⟩ := hat
  obtain ⟨hx0, hx1, hy0, hy1, hz0, hz1⟩ := hm
  go_enter Try.func52, Try.ntmps52
  go_wp2_with fail
  go_quiet (fail)
  go_wp2_with fail
  go_ret
  exact ⟨rfl, _, rfl⟩
theorem l07Mix_calls (b o : Nat) (m : Mix) (hm : m.ok) (w : World) (hat : Mix.at_ w b o m) :
    Calls Try.prog 32 #[.pointer (some ⟨b, o, none⟩)] w fun e w' => e = .returned (.bool (vMixS m)) ∧ ∃ n, w' = w.drewN n := by
  have hat0 := Lib.hid hat
  have hm0 := Lib.hid hm
  obtain ⟨h0, h1, h2⟩ := hat
  obtain ⟨hx0, hx1, hy0, hy1, hz0, hz1⟩ := hm
  go_enter Try.func32, Try.ntmps32
  go_wp2_with fail
  refine wp_loop_rounds 4 ?_
  rw [rounds_succ]
  go_wp2_with ((with_reducible refine (in_calls _ _ _ _).mono ?_); rintro e w' ⟨rfl, rfl⟩)
  · go_ret
    exact ⟨ret_bool (by simp_all [vMixS]), 0, rfl⟩
  rw [rounds_succ]
  go_wp2_with ((with_reducible refine (in_calls _ _ _ _).mono ?_); rintro e w' ⟨rfl, rfl⟩)
  · go_ret
    exact ⟨ret_bool (by simp_all [vMixS]), 0, rfl⟩
  rw [rounds_succ]
  go_wp2_with ((with_reducible refine (in_calls _ _ _ _).mono ?_); rintro e w' ⟨rfl, rfl⟩)
  · go_ret
    exact ⟨ret_bool (by simp_all [vMixS]), 0, rfl⟩
  rw [rounds_succ]
  go_wp2_with fail
  refine (l07Parts_calls b o m hm0.out _ hat0.out).mono ?_
  rintro e w' ⟨rfl, n, rfl⟩
  go_wp2_with fail
  go_ret
  exact ⟨ret_bool (by simp_all [vMixS]), n, rfl⟩
theorem Mix.at_alloc (w : World) (m : Mix) (T : TypeId) : Mix.at_ (w.alloc (.cells #[.int .i16 m.x, .int .i16 m.y, .int .i16 m.z] T)) w.heap.size 0 m := by
  refine ⟨?_, ?_, ?_⟩ <;> simp
theorem validMixFn (x : Int) (w : World) (h0 : -32768 ≤ x) (h1 : x ≤ 32767) : Tells Try.prog 49 #[] i16v (fun x => !inB x 0 100) w x := by
  intro W hW
  unfold i16v
  go_enter Try.func49, Try.ntmps49
  go_wp2_with ((with_reducible refine (within_calls _ _ _ _).mono ?_); rintro e w' ⟨rfl, rfl⟩)
  go_ret
  exact ⟨rfl, Below.refl _ _⟩
def Mix.l (m : Mix) : List Int := [m.x, m.y, m.z]
theorem Mix.sl (w : World) (b o : Nat) (m : Mix) (hb : b < w.heap.size) (h : Mix.at_ w b o m) : Sl w w.heap.size i16c 1 (.slice (some ⟨b, o, none⟩) 3 3) m.l := by
  obtain ⟨h0, h1, h2⟩ := h
  refine ⟨_, 3, rfl, Nat.le_refl _, by simp [Mix.l], fun _ => ⟨b, o, rfl, hb, ?_⟩⟩
  intro i x hx j u hu
  match i, hx with
  | 0, hx =>
    match j, hu with
    | 0, hu => simp_all [Mix.l, i16c]
  | 1, hx =>
    match j, hu with
    | 0, hu => simp_all [Mix.l, i16c]
  | 2, hx =>
    match j, hu with
    | 0, hu => simp_all [Mix.l, i16c]
  | n + 3, hx => simp [Mix.l] at hx
theorem neqMix (w : World) (a b c a' b' c' : Int) : (binOp .neq 24 (.agg #[.int .i16 a, .int .i16 b, .int .i16 c]) (.agg #[.int .i16 a', .int .i16 b', .int .i16 c'])).run Try.prog w = .ok (.bool (!(decide (a = a') && decide (b = b') && decide (c = c')))) w := by
  obtain ⟨i, hi⟩ : ∃ i, Try.prog.info? 22 = some i := Option.isSome_iff_exists.1 (by kernel_rfl)
  rw [run_neq_struct, run_equalIn_array w 9999 _ _ Try.underlying24 hi]
  have hc : Try.prog.cellsOf 22 = 1 := by kernel_rfl
  have hu := Try.underlying22
  rw [hc]
  simp only [List.range, List.range.loop, Op.eqItems]
  go_simp
  by_cases ha : a = a' <;> by_cases hb : b = b' <;> by_cases hc : c = c' <;> simp [ha, hb, hc]
theorem implValidMix_calls (m : Mix) (hm : m.ok) (w : World) :
    Calls Try.prog 28 #[m.v] w fun e w' => e = .returned (.bool (vMixI m)) ∧ Below w.heap.size w w' := by
  have HE := Lib.hid (show vMixI m = (!(decide (m.x = 0) && decide (m.y = 0) && decide (m.z = 0)) && !(m.l.any fun x => !inB x 0 100)) from by simp [vMixI, Mix.l, Bool.and_assoc])
  unfold Mix.v
  have eg := Lib.hid (enters_of Try.func49 (by kernel_rfl) rfl)
  have hb : ∀ x ∈ m.l, -32768 ≤ x ∧ x ≤ 32767 := by
    obtain ⟨hx0, hx1, hy0, hy1, hz0, hz1⟩ := hm
    simp [Mix.l]; omega
  have HB := Lib.hid hb
  clear hb
  generalize hz : (!(decide (m.x = 0) && decide (m.y = 0) && decide (m.z = 0))) = z at HE
  have hne : ∀ w, (binOp .neq 24 (.agg #[.int .i16 m.x, .int .i16 m.y, .int .i16 m.z]) (.agg #[.int .i16 0, .int .i16 0, .int .i16 0])).run Try.prog w = .ok (.bool z) w := fun w => by rw [← hz]; exact neqMix w _ _ _ _ _ _
  clear hz
  cases z
  · go_enter Try.func28, Try.ntmps28
    go_wp2_with fail
    go_ret
    exact ⟨ret_bool (by rw [HE.out]; rfl), (Below.refl _ _).alloc (Nat.le_refl _) _⟩
  · go_enter Try.func28, Try.ntmps28
    go_wp2_with fail
    refine (containsFunci16 m.l _ _ (Mix.sl _ _ _ m (by simp) (Mix.at_alloc _ _ _)) _ _ _ eg.out (fun x hx => validMixFn x _ (HB.out x hx).1 (HB.out x hx).2)).mono ?_
    rintro e w1 ⟨rfl, hb1⟩
    go_wp2_with fail
    go_ret
    exact ⟨ret_bool (by rw [HE.out]; rfl), ext_of_alloc hb1⟩
def daysS (x : Gang) (work : Int) : Int :=
  let d := (work + x.p - 1) / x.p
  if d = 0 then 0 else d + (d - 1) / x.k * x.r
/-- What is known of a gang that is valid. -/
theorem vGang_bounds {x : Gang} (h : vGangB x = true) : 0 ≤ x.s ∧ x.s ≤ 9 ∧ 1 ≤ x.p ∧ x.p ≤ 100 ∧ 1 ≤ x.k ∧ x.k ≤ 9 ∧ 0 ≤ x.r ∧ x.r ≤ 9 ∧ 0 ≤ x.g ∧ x.g ≤ 1000 := by
  simp [vGangB, inB] at h
  omega
theorem days_bounds (x : Gang) (work : Int) (hx : vGangB x = true) (h0 : 0 ≤ work) (h1 : work ≤ 2000) : 0 ≤ (work + x.p - 1) / x.p ∧ (work + x.p - 1) / x.p ≤ 2000 := by
  obtain ⟨_, _, p0, p1, _⟩ := vGang_bounds hx
  constructor
  · exact Int.ediv_nonneg (by omega) (by omega)
  · have : (work + x.p - 1) / x.p < 2001 := by
      rw [Int.ediv_lt_iff_lt_mul (by omega)]
      have : (2001 - work) * 1 ≤ 2001 * x.p - work * 1 := by omega
      have h2 : work + x.p - 1 < 2001 * x.p := by omega
      exact h2
    omega
theorem days_rest (x : Gang) (d : Int) (hx : vGangB x = true) (h0 : 1 ≤ d) (h1 : d ≤ 2000) : 0 ≤ (d - 1) / x.k ∧ (d - 1) / x.k ≤ 2000 ∧ 0 ≤ (d - 1) / x.k * x.r ∧ (d - 1) / x.k * x.r ≤ 18000 := by
  obtain ⟨_, _, _, _, k0, k1, r0, r1, _⟩ := vGang_bounds hx
  have a : 0 ≤ (d - 1) / x.k := Int.ediv_nonneg (by omega) (by omega)
  have b : (d - 1) / x.k ≤ d - 1 := Int.ediv_le_self _ (by omega)
  refine ⟨a, by omega, Int.mul_nonneg a r0, ?_⟩
  have : (d - 1) / x.k * x.r ≤ 2000 * 9 := Int.mul_le_mul (by omega) r1 r0 (by omega)
  omega
theorem daysS_bounds (x : Gang) (work : Int) (hx : vGangB x = true) (h0 : 0 ≤ work) (h1 : work ≤ 2000) : 0 ≤ daysS x work ∧ daysS x work ≤ 20000 := by
  obtain ⟨a, b⟩ := days_bounds x work hx h0 h1
  unfold daysS
  simp only
  by_cases h : (work + x.p - 1) / x.p = 0
  · rw [if_pos h]; omega
  · rw [if_neg h]
    obtain ⟨c, d, e, f⟩ := days_rest x _ hx (show 1 ≤ (work + x.p - 1) / x.p by omega) b
    omega
theorem daysS_zero (x : Gang) (hx : vGangB x = true) : daysS x 0 = 0 := by
  obtain ⟨_, _, p0, p1, _⟩ := vGang_bounds hx
  have : (0 + x.p - 1) / x.p = 0 := Int.ediv_eq_zero_of_lt (by omega) (by omega)
  show (if (0 + x.p - 1) / x.p = 0 then _ else _) = 0
  rw [if_pos this]
theorem days_pos (x : Gang) (work : Int) (hx : vGangB x = true) (h0 : 1 ≤ work) : 1 ≤ (work + x.p - 1) / x.p := by
  obtain ⟨_, _, p0, p1, _⟩ := vGang_bounds hx
  rw [Int.le_ediv_iff_mul_le (by omega)]
  omega
theorem Gang.at_ext {w w' : World} {b o : Nat} {x : Gang} (h : Gang.at_ w b o x) (hb : Below w.heap.size w w') (hl : b < w.heap.size) : Gang.at_ w' b o x :=
  ⟨(hb.cell (p := ⟨b, _, none⟩) hl).trans h.1, (hb.cell (p := ⟨b, _, none⟩) hl).trans h.2.1, (hb.cell (p := ⟨b, _, none⟩) hl).trans h.2.2.1, (hb.cell (p := ⟨b, _, none⟩) hl).trans h.2.2.2.1, (hb.cell (p := ⟨b, _, none⟩) hl).trans h.2.2.2.2⟩
theorem Row.at_ext {w w' : World} {b o : Nat} {x : Row} (h : Row.at_ w b o x) (hb : Below w.heap.size w w') (hl : b < w.heap.size) : Row.at_ w' b o x :=
  ⟨(hb.cell (p := ⟨b, _, none⟩) hl).trans h.1, (hb.cell (p := ⟨b, _, none⟩) hl).trans h.2⟩
def daysFor (x : Gang) (work : Int) : Int × Int := if vGangB x then (if inB work 0 2000 then (daysS x work, 0) else (0, 2)) else (0, 1)
def vRowB (x : Row) : Bool := inB x.n 0 9 && inB x.w 1 2000
def vRowsB (xs : List Row) : Bool := decide (xs.length ≤ 6) && xs.all vRowB
theorem Sl.one {α : Type} (c : α → List Value) (sz : Nat) (hc : ∀ x, (c x).length = sz) (x : α) (w : World) (T : TypeId) (cs : Array Value) (hcs : cs.toList = c x) (g : Nat) (hg : g = w.heap.size) :
    Sl (w.alloc (.cells cs T)) (w.alloc (.cells cs T)).heap.size c sz (.slice (some ⟨g, 0, none⟩) 1 1) [x] := by
  subst hg
  refine ⟨_, 1, rfl, Nat.le_refl _, by simp, fun _ => ⟨w.heap.size, 0, rfl, by simp, ?_⟩⟩
  intro i y hy j u hu
  match i, hy with
  | 0, hy =>
    simp only [List.getElem?_cons_zero, Option.some.injEq] at hy
    subst hy
    rw [← hcs] at hu
    have : (w.alloc (.cells cs T)).cell? ⟨w.heap.size, 0 + (0 * sz + j), none⟩ = cs[j]? := by simp
    rw [this]
    simpa using hu
  | n + 1, hy => simp at hy
def mayLay (x : Gang) (r : Row) : Bool × Int := if vGangB x && vRowsB [r] then (decide (r.n ≤ x.s), 0) else (false, 1)
theorem Gang.at_alloc2 (w : World) (x : Gang) (T : TypeId) (O : Obj) : Gang.at_ ((w.alloc (.cells #[.int .i8 x.s, .int .i8 x.p, .int .i8 x.k, .int .i8 x.r, .int .i16 x.g] T)).alloc O) w.heap.size 0 x :=
  Gang.at_ext (Gang.at_alloc w x T) ((Below.refl _ _).alloc (Nat.le_refl _) O) (by simp)
theorem Gang.at_alloc3 (w : World) (x : Gang) (T : TypeId) (O O2 : Obj) : Gang.at_ (((w.alloc (.cells #[.int .i8 x.s, .int .i8 x.p, .int .i8 x.k, .int .i8 x.r, .int .i16 x.g] T)).alloc O).alloc O2) w.heap.size 0 x :=
  Gang.at_ext (Gang.at_alloc2 w x T O) ((Below.refl _ _).alloc (Nat.le_refl _) O2) (by simp; omega)
theorem Row.at_alloc2 (w : World) (x : Row) (T : TypeId) (O O2 : Obj) : Row.at_ (((w.alloc O).alloc (.cells #[.int .i8 x.n, .int .i16 x.w] T)).alloc O2) (w.heap.size + 1) 0 x := by
  refine Row.at_ext (w := (w.alloc O).alloc (.cells #[.int .i8 x.n, .int .i16 x.w] T)) ?_ ((Below.refl _ _).alloc (Nat.le_refl _) O2) (by simp)
  refine ⟨?_, ?_⟩ <;> simp
end Go.Proofs.Ytgifakacnneleaa
