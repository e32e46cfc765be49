/-
Contracts of the functions on gangs, rows and mixes, each over plain numbers and lists. Conditions: numbers are of their kinds; slices can be read.
-/
import Derived.Test.YthlcmiediedcfaaDoorLaw
import Derived.Laws.StructEq
import Derived.ChangeKeysEq
set_option linter.unusedVariables false
set_option linter.unusedSimpArgs false
set_option maxRecDepth 100000
namespace Go.Proofs.YthlcmiediedcfaaDoor
open Go.RowKit

def vGangB (x : Gang) : Bool := inB x.s 0 9 && inB x.p 1 100 && inB x.k 1 9 && inB x.r 0 9 && inB x.g 0 1000
theorem Gang.at_alloc (w : World) (x : Gang) (T : TypeId) : Gang.at_ (w.alloc (.cells #[.int .i8 x.s, .int .i8 x.p, .int .i8 x.k, .int .i8 x.r, .int .i16 x.g] T)) w.heap.size 0 x := by
  refine ⟨?_, ?_, ?_, ?_, ?_⟩ <;> simp
def vMixS (m : Mix) : Bool := inB m.x 0 100 && inB m.y 0 100 && inB m.z 0 100 && decide (m.x + m.y + m.z > 0)
def vMixI (m : Mix) : Bool := !(decide (m.x = 0) && decide (m.y = 0) && decide (m.z = 0)) && (inB m.x 0 100 && inB m.y 0 100 && inB m.z 0 100)
theorem vMix_eq (m : Mix) : vMixI m = vMixS m := by
  rw [Bool.eq_iff_iff]
  simp [vMixI, vMixS, inB]
  omega
theorem Mix.at_alloc (w : World) (m : Mix) (T : TypeId) : Mix.at_ (w.alloc (.cells #[.int .i16 m.x, .int .i16 m.y, .int .i16 m.z] T)) w.heap.size 0 m := by
  refine ⟨?_, ?_, ?_⟩ <;> simp
def Mix.l (m : Mix) : List Int := [m.x, m.y, m.z]
theorem Mix.sl (w : World) (b o : Nat) (m : Mix) (hb : b < w.heap.size) (h : Mix.at_ w b o m) : Sl w w.heap.size i16c 1 (.slice (some ⟨b, o, none⟩) 3 3) m.l := by
  obtain ⟨h0, h1, h2⟩ := h
  refine ⟨_, 3, rfl, Nat.le_refl _, by simp [Mix.l], fun _ => ⟨b, o, rfl, hb, ?_⟩⟩
  intro i x hx j u hu
  match i, hx with
  | 0, hx =>
    match j, hu with
    | 0, hu => simp_all [Mix.l, i16c]
  | 1, hx =>
    match j, hu with
    | 0, hu => simp_all [Mix.l, i16c]
  | 2, hx =>
    match j, hu with
    | 0, hu => simp_all [Mix.l, i16c]
  | n + 3, hx => simp [Mix.l] at hx
def daysS (x : Gang) (work : Int) : Int :=
  let d := (work + x.p - 1) / x.p
  if d = 0 then 0 else d + (d - 1) / x.k * x.r
/-- What is known of a gang that is valid. -/
theorem vGang_bounds {x : Gang} (h : vGangB x = true) : 0 ≤ x.s ∧ x.s ≤ 9 ∧ 1 ≤ x.p ∧ x.p ≤ 100 ∧ 1 ≤ x.k ∧ x.k ≤ 9 ∧ 0 ≤ x.r ∧ x.r ≤ 9 ∧ 0 ≤ x.g ∧ x.g ≤ 1000 := by
  simp [vGangB, inB] at h
  omega
theorem days_bounds (x : Gang) (work : Int) (hx : vGangB x = true) (h0 : 0 ≤ work) (h1 : work ≤ 2000) : 0 ≤ (work + x.p - 1) / x.p ∧ (work + x.p - 1) / x.p ≤ 2000 := by
  obtain ⟨_, _, p0, p1, _⟩ := vGang_bounds hx
  constructor
  · exact Int.ediv_nonneg (by omega) (by omega)
  · have : (work + x.p - 1) / x.p < 2001 := by
      rw [Int.ediv_lt_iff_lt_mul (by omega)]
      have : (2001 - work) * 1 ≤ 2001 * x.p - work * 1 := by omega
      have h2 : work + x.p - 1 < 2001 * x.p := by omega
      exact h2
    omega
theorem days_rest (x : Gang) (d : Int) (hx : vGangB x = true) (h0 : 1 ≤ d) (h1 : d ≤ 2000) : 0 ≤ (d - 1) / x.k ∧ (d - 1) / x.k ≤ 2000 ∧ 0 ≤ (d - 1) / x.k * x.r ∧ (d - 1) / x.k * x.r ≤ 18000 := by
  obtain ⟨_, _, _, _, k0, k1, r0, r1, _⟩ := vGang_bounds hx
  have a : 0 ≤ (d - 1) / x.k := Int.ediv_nonneg (by omega) (by omega)
  have b : (d - 1) / x.k ≤ d - 1 := Int.ediv_le_self _ (by omega)
  refine ⟨a, by omega, Int.mul_nonneg a r0, ?_⟩
  have : (d - 1) / x.k * x.r ≤ 2000 * 9 := Int.mul_le_mul (by omega) r1 r0 (by omega)
  omega
theorem daysS_bounds (x : Gang) (work : Int) (hx : vGangB x = true) (h0 : 0 ≤ work) (h1 : work ≤ 2000) : 0 ≤ daysS x work ∧ daysS x work ≤ 20000 := by
  obtain ⟨a, b⟩ := days_bounds x work hx h0 h1
  unfold daysS
  simp only
  by_cases h : (work + x.p - 1) / x.p = 0
  · rw [if_pos h]; omega
  · rw [if_neg h]
    obtain ⟨c, d, e, f⟩ := days_rest x _ hx (show 1 ≤ (work + x.p - 1) / x.p by omega) b
    omega
theorem daysS_zero (x : Gang) (hx : vGangB x = true) : daysS x 0 = 0 := by
  obtain ⟨_, _, p0, p1, _⟩ := vGang_bounds hx
  have : (0 + x.p - 1) / x.p = 0 := Int.ediv_eq_zero_of_lt (by omega) (by omega)
  show (if (0 + x.p - 1) / x.p = 0 then _ else _) = 0
  rw [if_pos this]
theorem days_pos (x : Gang) (work : Int) (hx : vGangB x = true) (h0 : 1 ≤ work) : 1 ≤ (work + x.p - 1) / x.p := by
  obtain ⟨_, _, p0, p1, _⟩ := vGang_bounds hx
  rw [Int.le_ediv_iff_mul_le (by omega)]
  omega
theorem Gang.at_ext {w w' : World} {b o : Nat} {x : Gang} (h : Gang.at_ w b o x) (hb : Below w.heap.size w w') (hl : b < w.heap.size) : Gang.at_ w' b o x :=
  ⟨(hb.cell (p := ⟨b, _, none⟩) hl).trans h.1, (hb.cell (p := ⟨b, _, none⟩) hl).trans h.2.1, (hb.cell (p := ⟨b, _, none⟩) hl).trans h.2.2.1, (hb.cell (p := ⟨b, _, none⟩) hl).trans h.2.2.2.1, (hb.cell (p := ⟨b, _, none⟩) hl).trans h.2.2.2.2⟩
theorem Row.at_ext {w w' : World} {b o : Nat} {x : Row} (h : Row.at_ w b o x) (hb : Below w.heap.size w w') (hl : b < w.heap.size) : Row.at_ w' b o x :=
  ⟨(hb.cell (p := ⟨b, _, none⟩) hl).trans h.1, (hb.cell (p := ⟨b, _, none⟩) hl).trans h.2⟩
def daysFor (x : Gang) (work : Int) : Int × Int := if vGangB x then (if inB work 0 2000 then (daysS x work, 0) else (0, 2)) else (0, 1)
def vRowB (x : Row) : Bool := inB x.n 0 9 && inB x.w 1 2000
def vRowsB (xs : List Row) : Bool := decide (xs.length ≤ 6) && xs.all vRowB
theorem l07Rows_calls (xs : List Row) (hx : ∀ x ∈ xs, x.ok) (v : Value) (w : World) (hs : Sl w w.heap.size Row.c 2 v xs) :
    Calls Tryd.prog 39 #[v] w fun e w' => e = .returned (.bool (vRowsB xs)) ∧ w = w' := by
  obtain ⟨A, cap, rfl, hl, hm, hcell⟩ := hs.row
  clear hs
  go_enter Tryd.func39, Tryd.ntmps39
  go_wp2_with fail
  go_loop [3] (fun i => ∃ k : Nat, k ≤ xs.length ∧ i = .int .i64 k ∧ (xs.take k).all vRowB = true) (fun i => xs.length - (intOf i).toNat)
  case atStart => exact ⟨0, by omega, rfl, rfl⟩
  case round =>
    obtain ⟨k, hk, rfl, hall⟩ := hrel
    have HA := Lib.hid hall
    clear hall
    by_cases hlt : k < xs.length
    · obtain ⟨b, o, rfl, hb, h0, h1⟩ := hcell k hlt
      clear hcell
      obtain ⟨n0, n1, w0, w1⟩ := hx xs[k] (List.getElem_mem hlt)
      have hno := fun h => Lib.hid (show vRowsB xs = false from by rw [vRowsB, all_false_at _ xs k hlt h, Bool.and_false])
      have hyes := fun h => take_all_succ vRowB xs k hlt HA.out h
      cases hq : inB xs[k].n 0 9
      · have hn := hno (by simp [vRowB, hq])
        clear hno hyes
        go_wp2_with ((with_reducible refine (in_calls _ _ _ _).mono ?_); rintro e w' ⟨rfl, rfl⟩)
        go_ret
        exact ⟨ret_bool hn.out.symm, rfl⟩
      cases hq2 : inB xs[k].w 1 2000
      · have hn := hno (by simp [vRowB, hq2])
        clear hno hyes
        go_wp2_with ((with_reducible refine (in_calls _ _ _ _).mono ?_); rintro e w' ⟨rfl, rfl⟩)
        go_ret
        exact ⟨ret_bool hn.out.symm, rfl⟩
      · have hn := Lib.hid (hyes (by simp [vRowB, hq, hq2]))
        clear hno hyes
        go_wp2_with ((with_reducible refine (in_calls _ _ _ _).mono ?_); rintro e w' ⟨rfl, rfl⟩)
        go_round
        case rel => exact ⟨k + 1, by omega, by go_num, hn.out⟩
        case measure => simp [intOf]; omega
    · have hn := Lib.hid (show vRowsB xs = decide ((xs.length : Int) ≤ 6) from by
        rw [vRowsB, all_of_take _ xs k (by omega) HA.out, Bool.and_true]
        congr 1
        rw [eq_iff_iff]
        omega)
      go_wp2_with fail
      go_ret
      exact ⟨ret_bool hn.out.symm, rfl⟩
theorem validRowsFn (x : Row) (hx : x.ok) (w : World) : Tells Tryd.prog 83 #[] Row.v (fun x => !vRowB x) w x := by
  intro W hW
  obtain ⟨n0, n1, w0, w1⟩ := hx
  unfold Row.v
  cases hq : inB x.n 0 9
  · have hn := Lib.hid (show (!vRowB x) = true from by simp [vRowB, hq])
    go_enter Tryd.func83, Tryd.ntmps83
    go_wp2_with ((with_reducible refine (within_calls _ _ _ _).mono ?_); rintro e w' ⟨rfl, rfl⟩)
    go_ret
    exact ⟨ret_bool hn.out.symm, (Below.refl _ _).alloc (Nat.le_refl _) _⟩
  · have hn := Lib.hid (show (!vRowB x) = (!inB x.w 1 2000) from by simp [vRowB, hq])
    go_enter Tryd.func83, Tryd.ntmps83
    go_wp2_with ((with_reducible refine (within_calls _ _ _ _).mono ?_); rintro e w' ⟨rfl, rfl⟩)
    go_ret
    exact ⟨ret_bool hn.out.symm, (Below.refl _ _).alloc (Nat.le_refl _) _⟩
theorem implValidRows_calls (xs : List Row) (hx : ∀ x ∈ xs, x.ok) (v : Value) (w : World) (hs : Sl w w.heap.size Row.c 2 v xs) :
    Calls Tryd.prog 42 #[v] w fun e w' => e = .returned (.bool (vRowsB xs)) ∧ Below w.heap.size w w' := by
  have hs0 := Lib.hid hs
  obtain ⟨A, cap, rfl, hl, hm, _⟩ := hs.row
  clear hs
  have eg := Lib.hid (enters_of Tryd.func83 (by kernel_rfl) rfl)
  have HX := Lib.hid hx
  clear hx
  by_cases h6 : xs.length ≤ 6
  · have hd : decide ((xs.length : Int) ≤ 6) = true := by simp; omega
    have hn := Lib.hid (show vRowsB xs = !(xs.any fun x => !vRowB x) from by rw [vRowsB, ← List.all_eq_not_any_not]; simp [h6])
    go_enter Tryd.func42, Tryd.ntmps42
    go_wp2_with fail
    refine (containsFuncRow xs _ _ hs0.out _ _ _ eg.out (fun x h => validRowsFn x (HX.out x h) _)).mono ?_
    rintro e w1 ⟨rfl, hb1⟩
    go_wp2_with fail
    go_ret
    exact ⟨ret_bool hn.out.symm, hb1⟩
  · have hd : decide ((xs.length : Int) ≤ 6) = false := by simp; omega
    have hn := Lib.hid (show vRowsB xs = false from by simp [vRowsB, h6])
    go_enter Tryd.func42, Tryd.ntmps42
    go_wp2_with fail
    go_ret
    exact ⟨ret_bool hn.out.symm, Below.refl _ _⟩
theorem Sl.one {α : Type} (c : α → List Value) (sz : Nat) (hc : ∀ x, (c x).length = sz) (x : α) (w : World) (T : TypeId) (cs : Array Value) (hcs : cs.toList = c x) (g : Nat) (hg : g = w.heap.size) :
    Sl (w.alloc (.cells cs T)) (w.alloc (.cells cs T)).heap.size c sz (.slice (some ⟨g, 0, none⟩) 1 1) [x] := by
  subst hg
  refine ⟨_, 1, rfl, Nat.le_refl _, by simp, fun _ => ⟨w.heap.size, 0, rfl, by simp, ?_⟩⟩
  intro i y hy j u hu
  match i, hy with
  | 0, hy =>
    simp only [List.getElem?_cons_zero, Option.some.injEq] at hy
    subst hy
    rw [← hcs] at hu
    have : (w.alloc (.cells cs T)).cell? ⟨w.heap.size, 0 + (0 * sz + j), none⟩ = cs[j]? := by simp
    rw [this]
    simpa using hu
  | n + 1, hy => simp at hy
def mayLay (x : Gang) (r : Row) : Bool × Int := if vGangB x && vRowsB [r] then (decide (r.n ≤ x.s), 0) else (false, 1)
theorem Gang.at_alloc2 (w : World) (x : Gang) (T : TypeId) (O : Obj) : Gang.at_ ((w.alloc (.cells #[.int .i8 x.s, .int .i8 x.p, .int .i8 x.k, .int .i8 x.r, .int .i16 x.g] T)).alloc O) w.heap.size 0 x :=
  Gang.at_ext (Gang.at_alloc w x T) ((Below.refl _ _).alloc (Nat.le_refl _) O) (by simp)
theorem Gang.at_alloc3 (w : World) (x : Gang) (T : TypeId) (O O2 : Obj) : Gang.at_ (((w.alloc (.cells #[.int .i8 x.s, .int .i8 x.p, .int .i8 x.k, .int .i8 x.r, .int .i16 x.g] T)).alloc O).alloc O2) w.heap.size 0 x :=
  Gang.at_ext (Gang.at_alloc2 w x T O) ((Below.refl _ _).alloc (Nat.le_refl _) O2) (by simp; omega)
theorem Row.at_alloc2 (w : World) (x : Row) (T : TypeId) (O O2 : Obj) : Row.at_ (((w.alloc O).alloc (.cells #[.int .i8 x.n, .int .i16 x.w] T)).alloc O2) (w.heap.size + 1) 0 x := by
  refine Row.at_ext (w := (w.alloc O).alloc (.cells #[.int .i8 x.n, .int .i16 x.w] T)) ?_ ((Below.refl _ _).alloc (Nat.le_refl _) O2) (by simp)
  refine ⟨?_, ?_⟩ <;> simp
end Go.Proofs.YthlcmiediedcfaaDoor
