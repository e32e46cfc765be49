/-
Contracts of the functions on mixes and stocks, over plain numbers. Conditions: numbers are of their kinds; mixes are valid where the program asks it.
-/
import Derived.Test.YtgifakacnneleaaG1
set_option linter.unusedVariables false
set_option linter.unusedSimpArgs false
set_option maxRecDepth 100000
namespace Go.Proofs.Ytgifakacnneleaa
open Go.RowKit
theorem index_i64 (xs : List Int) (v : Value) (x : Int) (w : World) (hs : Sl w w.heap.size i64c 1 v xs) :
    Calls Try.prog 53 #[v, .int .i64 x] w fun e w' => e = .returned (.int .i64 (findI (fun y => y == x) xs)) ∧ w = w' := by
  obtain ⟨A, cap, rfl, hl, hm, hcell⟩ := hs.i64
  clear hs
  go_enter Try.func53, Try.ntmps53
  go_wp2_with fail
  go_loop [5, 8] (fun _ i => ∃ k : Nat, k ≤ xs.length ∧ i = .int .i64 k ∧ (xs.take k).all (fun y => !(y == x)) = true) (fun _ i => xs.length - (intOf i).toNat)
  case atStart => exact ⟨0, by omega, rfl, rfl⟩
  case round =>
    obtain ⟨k, hk, rfl, hall⟩ := hrel
    have HA := Lib.hid hall
    clear hall
    by_cases hlt : k < xs.length
    · obtain ⟨b, o, rfl, hbb, h0⟩ := hcell k hlt
      clear hcell
      by_cases he : xs[k] = x
      · have hE := Lib.hid (findI_at (fun y => y == x) xs k hlt HA.out (by simp [he]))
        have hq : (x == xs[k]) = true := by simp [he]
        clear he
        go_wp2_with fail
        go_ret
        exact ⟨ret_int hE.out.symm, rfl⟩
      · have hE := Lib.hid (take_all_succ _ xs k hlt HA.out (by simp [he]))
        have hq : (x == xs[k]) = false := by simp; omega
        clear he
        go_wp2_with fail
        go_round
        case rel => exact ⟨k + 1, by omega, by go_num, hE.out⟩
        case measure => simp [intOf]; omega
    · have hE := Lib.hid (findI_none _ xs (all_of_take _ xs k (by omega) HA.out))
      go_wp2_with fail
      go_ret
      exact ⟨ret_int hE.out.symm, rfl⟩
def maxL : List Int → Int
  | [] => 0
  | a :: r => r.foldl max a
theorem maxL_succ (xs : List Int) (k : Nat) (h0 : 0 < k) (hk : k < xs.length) : maxL (xs.take (k + 1)) = max (maxL (xs.take k)) xs[k] := by
  match xs, hk with
  | a :: r, hk =>
    match k, h0 with
    | k + 1, _ =>
      simp only [List.take_succ_cons, maxL, List.getElem_cons_succ]
      rw [List.take_succ_eq_append_getElem (by simpa using hk), List.foldl_append]
      rfl
theorem max_i64 (xs : List Int) (v : Value) (w : World) (hp : 0 < xs.length) (hs : Sl w w.heap.size i64c 1 v xs) :
    Calls Try.prog 54 #[v] w fun e w' => e = .returned (.int .i64 (maxL xs)) ∧ w = w' := by
  obtain ⟨A, cap, rfl, hl, hm, hcell⟩ := hs.i64
  clear hs
  have h00 : (xs.take 1) = [xs[0]] := by
    match xs, hp with
    | a :: r, _ => rfl
  have H0 := Lib.hid (show maxL (xs.take 1) = xs[0] from by rw [h00]; rfl)
  clear h00
  obtain ⟨b, o, rfl, hbb, h0⟩ := hcell 0 hp
  replace h0 : w.cell? ⟨b, o, none⟩ = some (.int .i64 xs[0]) := h0
  go_enter Try.func54, Try.ntmps54
  go_wp2_with fail
  go_loop [3, 4] (fun m i => ∃ k : Nat, 0 < k ∧ k ≤ xs.length ∧ i = .int .i64 k ∧ m = .int .i64 (maxL (xs.take k))) (fun _ i => xs.length - (intOf i).toNat)
  case atStart => exact ⟨1, by omega, by omega, rfl, by rw [H0.out]⟩
  case round =>
    obtain ⟨k, hk0, hk, rfl, rfl⟩ := hrel
    by_cases hlt : k < xs.length
    · obtain ⟨b, o, he, hbb, h0⟩ := hcell k hlt
      obtain ⟨rfl, rfl⟩ : b = _ ∧ o = _ := by
        injection he with he
        injection he with e1 e2
        exact ⟨e1.symm, e2.symm⟩
      clear hcell he
      have hE := Lib.hid (maxL_succ xs k hk0 hlt)
      generalize maxL (xs.take k) = m at hE
      go_wp2_with fail
      go_round
      case rel => exact ⟨k + 1, by omega, by omega, by go_num, congrArg (Value.int .i64) (by rw [hE.out, Int.max_def]; split <;> split <;> omega)⟩
      case measure => simp [intOf]; omega
    · have hE := Lib.hid (show maxL (xs.take k) = maxL xs from by rw [List.take_of_length_le (by omega)])
      generalize maxL (xs.take k) = m at hE
      go_wp2_with fail
      go_ret
      exact ⟨ret_int hE.out, rfl⟩
theorem amount_calls (n : Int) (w : World) : Calls Try.prog 33 #[.int .i64 n] w fun e w' => e = .returned (.bool (inB n 0 5000)) ∧ w = w' := by
  go_enter Try.func33, Try.ntmps33
  go_wp2_with ((with_reducible refine (in_calls _ _ _ _).mono ?_); rintro e w' ⟨rfl, rfl⟩)
  go_ret
  exact ⟨rfl, rfl⟩
def vStock (m : Mix) : Bool := inB m.x 0 5000 && inB m.y 0 5000 && inB m.z 0 5000
def mixCode (m : Mix) (n : Int) : Int := if vMixI m then (if inB n 0 5000 then 0 else 2) else 1
theorem l07Stock_calls (b o : Nat) (m : Mix) (hm : m.ok) (w : World) (hat : Mix.at_ w b o m) :
    Calls Try.prog 37 #[.pointer (some ⟨b, o, none⟩)] w fun e w' => e = .returned (.bool (vStock m)) ∧ w = w' := by
  obtain ⟨h0, h1, h2⟩ := hat
  obtain ⟨hx0, hx1, hy0, hy1, hz0, hz1⟩ := hm
  go_enter Try.func37, Try.ntmps37
  go_wp2_with ((with_reducible refine (amount_calls _ _).mono ?_); rintro e w' ⟨rfl, rfl⟩)
  all_goals (go_ret; refine ⟨?_, rfl⟩; simp [*, vStock])
theorem isStockFn (x : Int) (w : World) (h0 : -32768 ≤ x) (h1 : x ≤ 32767) : Tells Try.prog 55 #[] i16v (fun x => !inB x 0 5000) w x := by
  intro W hW
  unfold i16v
  go_enter Try.func55, Try.ntmps55
  go_wp2_with ((with_reducible refine (within_calls _ _ _ _).mono ?_); rintro e w' ⟨rfl, rfl⟩)
  go_ret
  exact ⟨rfl, Below.refl _ _⟩
theorem isStock_calls (m : Mix) (hm : m.ok) (w : World) :
    Calls Try.prog 39 #[Mix.v m] w fun e w' => e = .returned (.bool (vStock m)) ∧ Below w.heap.size w w' := by
  have HE := Lib.hid (show vStock m = !(m.l.any fun x => !inB x 0 5000) from by simp [vStock, Mix.l, Bool.and_assoc])
  unfold Mix.v
  have eg := Lib.hid (enters_of Try.func55 (by kernel_rfl) rfl)
  have hb : ∀ x ∈ m.l, -32768 ≤ x ∧ x ≤ 32767 := by
    obtain ⟨hx0, hx1, hy0, hy1, hz0, hz1⟩ := hm
    simp [Mix.l]; omega
  have HB := Lib.hid hb
  clear hb
  go_enter Try.func39, Try.ntmps39
  go_wp2_with fail
  refine (containsFunci16 m.l _ _ (Mix.sl _ _ _ m (by simp) (Mix.at_alloc _ _ _)) _ _ _ eg.out (fun x hx => isStockFn x _ (HB.out x hx).1 (HB.out x hx).2)).mono ?_
  rintro e w1 ⟨rfl, hb1⟩
  go_wp2_with fail
  go_ret
  exact ⟨ret_bool HE.out.symm, ext_of_alloc hb1⟩
theorem mixCode_calls (m : Mix) (hm : m.ok) (n : Int) (w : World) :
    Calls Try.prog 35 #[Mix.v m, .int .i64 n] w fun e w' => e = .returned (.int .i64 (mixCode m n)) ∧ Below w.heap.size w w' := by
  cases hv : vMixI m
  · have HE := Lib.hid (show mixCode m n = 1 from by simp [mixCode, hv])
    have HV := Lib.hid hv
    clear hv
    unfold Mix.v
    go_enter Try.func35, Try.ntmps35
    go_wp2_with fail
    refine (implValidMix_calls m hm _).mono ?_
    rintro e w1 ⟨rfl, hb1⟩
    rw [HV.out]
    go_wp2_with fail
    go_ret
    exact ⟨ret_int HE.out.symm, ext_of_alloc hb1⟩
  · have HE := Lib.hid (show mixCode m n = (if inB n 0 5000 then 0 else 2) from by simp [mixCode, hv])
    have HV := Lib.hid hv
    clear hv
    unfold Mix.v
    go_enter Try.func35, Try.ntmps35
    go_wp2_with fail
    refine (implValidMix_calls m hm _).mono ?_
    rintro e w1 ⟨rfl, hb1⟩
    rw [HV.out]
    go_wp2_with (first | ((with_reducible refine (within_calls _ _ _ _).mono ?_); rintro e w' ⟨rfl, rfl⟩) | ((with_reducible refine (unless_calls _ _ _).mono ?_); rintro e w' ⟨rfl, rfl⟩))
    all_goals (go_ret; exact ⟨ret_int (by rw [HE.out]; simp [*]), ext_of_alloc hb1⟩)
/-- What is left is added, one for each, to those with the greatest rests. -/
def idx3 (a b c : Int) : Nat := if b ≤ a ∧ c ≤ a then 0 else if c ≤ b then 1 else 2
def bump : Nat → Mix → Int → Int → Int → Mix
  | 0, m, _, _, _ => m
  | n + 1, m, a, b, c => match idx3 a b c with
    | 0 => bump n ⟨m.x + 1, m.y, m.z⟩ (-1) b c
    | 1 => bump n ⟨m.x, m.y + 1, m.z⟩ a (-1) c
    | _ => bump n ⟨m.x, m.y, m.z + 1⟩ a b (-1)
def Mix.sum (m : Mix) : Int := m.x + m.y + m.z
def forA (m : Mix) (n : Int) : Mix :=
  bump (n - n * m.x / m.sum - n * m.y / m.sum - n * m.z / m.sum).toNat ⟨n * m.x / m.sum, n * m.y / m.sum, n * m.z / m.sum⟩ (n * m.x % m.sum) (n * m.y % m.sum) (n * m.z % m.sum)
theorem idx3_find (a b c : Int) : findI (fun y => y == maxL [a, b, c]) [a, b, c] = (idx3 a b c : Int) := by
  have hm : maxL [a, b, c] = max (max a b) c := rfl
  rw [hm]
  unfold idx3
  by_cases h1 : b ≤ a ∧ c ≤ a
  · rw [if_pos h1]
    have : max (max a b) c = a := by omega
    rw [this]
    exact findI_at _ _ 0 (by simp) rfl (by simp)
  · rw [if_neg h1]
    by_cases h2 : c ≤ b
    · rw [if_pos h2]
      have : max (max a b) c = b := by omega
      rw [this]
      exact findI_at _ _ 1 (by simp) (by simp; omega) (by simp)
    · rw [if_neg h2]
      have : max (max a b) c = c := by omega
      rw [this]
      exact findI_at _ _ 2 (by simp) (by simp; omega) (by simp)
theorem vMix_bounds {m : Mix} (h : vMixS m = true) : 0 ≤ m.x ∧ m.x ≤ 100 ∧ 0 ≤ m.y ∧ m.y ≤ 100 ∧ 0 ≤ m.z ∧ m.z ≤ 100 ∧ 1 ≤ m.sum ∧ m.sum ≤ 300 := by
  simp [vMixS, inB] at h
  unfold Mix.sum
  omega
/-- The numbers of one part. -/
theorem part_bounds (n x s : Int) (hn0 : 0 ≤ n) (hn1 : n ≤ 5000) (hx0 : 0 ≤ x) (hx1 : x ≤ 100) (hs0 : 1 ≤ s) (hs1 : s ≤ 300) (hxs : x ≤ s) :
    0 ≤ n * x ∧ n * x ≤ 500000 ∧ 0 ≤ n * x / s ∧ n * x / s ≤ 5000 ∧ 0 ≤ n * x % s ∧ n * x % s < 300 := by
  have h1 : 0 ≤ n * x := Int.mul_nonneg hn0 hx0
  have h2 : n * x ≤ 5000 * 100 := Int.mul_le_mul hn1 hx1 hx0 (by omega)
  have h3 : 0 ≤ n * x / s := Int.ediv_nonneg h1 (by omega)
  have h4 : n * x / s ≤ 5000 := by
    have : n * x ≤ 5000 * s := Int.mul_le_mul hn1 hxs hx0 (by omega)
    exact Int.ediv_le_of_le_mul (by omega) this
  have h5 := Int.emod_nonneg (n * x) (show s ≠ 0 by omega)
  have h6 := Int.emod_lt_of_pos (n * x) (show 0 < s by omega)
  omega
theorem sum_le (n x y z s : Int) (hn : 0 ≤ n) (hs : 1 ≤ s) (h : x + y + z = s) : n * x / s + n * y / s + n * z / s ≤ n := by
  have hx := Int.ediv_mul_le (n * x) (show s ≠ 0 by omega)
  have hy := Int.ediv_mul_le (n * y) (show s ≠ 0 by omega)
  have hz := Int.ediv_mul_le (n * z) (show s ≠ 0 by omega)
  have e : n * s = n * x + n * y + n * z := by rw [← h, Int.mul_add, Int.mul_add]
  have e2 : (n * x / s + n * y / s + n * z / s) * s = n * x / s * s + n * y / s * s + n * z / s * s := by rw [Int.add_mul, Int.add_mul]
  exact Int.le_of_mul_le_mul_right (a := s) (by omega) (by omega)
theorem idx3_cases (a b c : Int) : idx3 a b c = 0 ∨ idx3 a b c = 1 ∨ idx3 a b c = 2 := by
  unfold idx3
  split
  · exact .inl rfl
  · split
    · exact .inr (.inl rfl)
    · exact .inr (.inr rfl)
def MixIn (B g1 g2 g3 : Nat) (T2 T3 : TypeId) (w : World) (o : Mix) (a b c : Int) (W : World) : Prop :=
  Bk W g2 T2 #[.int .i16 o.x, .int .i16 o.y, .int .i16 o.z] ∧ Bk W g3 T3 #[.int .i64 a, .int .i64 b, .int .i64 c] ∧ Bk W g1 T2 #[.int .i16 0, .int .i16 0, .int .i16 0] ∧ Below B w W ∧ B ≤ g1 ∧ g1 < g2 ∧ g2 < g3
theorem MixIn.facts {B g1 g2 g3 : Nat} {T2 T3 : TypeId} {w W : World} {o : Mix} {a b c : Int} (h : MixIn B g1 g2 g3 T2 T3 w o a b c W) :
    W.cell? ⟨g2, 0, none⟩ = some (.int .i16 o.x) ∧ W.cell? ⟨g2, 1, none⟩ = some (.int .i16 o.y) ∧ W.cell? ⟨g2, 2, none⟩ = some (.int .i16 o.z) ∧
    W.cell? ⟨g3, 0, none⟩ = some (.int .i64 a) ∧ W.cell? ⟨g3, 1, none⟩ = some (.int .i64 b) ∧ W.cell? ⟨g3, 2, none⟩ = some (.int .i64 c) ∧
    (∀ j, W.frozen? ⟨g2, j, none⟩ = false) ∧ (∀ j, W.frozen? ⟨g3, j, none⟩ = false) :=
  ⟨h.1.cell 0 _ rfl, h.1.cell 1 _ rfl, h.1.cell 2 _ rfl, h.2.1.cell 0 _ rfl, h.2.1.cell 1 _ rfl, h.2.1.cell 2 _ rfl, h.1.frz, h.2.1.frz⟩
theorem MixIn.res {B g1 g2 g3 : Nat} {T2 T3 : TypeId} {w W : World} {o : Mix} {a b c : Int} (h : MixIn B g1 g2 g3 T2 T3 w o a b c W) :
    W.cell? ⟨g1, 0, none⟩ = some (.int .i16 0) ∧ W.cell? ⟨g1, 1, none⟩ = some (.int .i16 0) ∧ W.cell? ⟨g1, 2, none⟩ = some (.int .i16 0) ∧ (∀ j, W.frozen? ⟨g1, j, none⟩ = false) :=
  ⟨h.2.2.1.cell 0 _ rfl, h.2.2.1.cell 1 _ rfl, h.2.2.1.cell 2 _ rfl, h.2.2.1.frz⟩
theorem MixIn.step0 {B g1 g2 g3 : Nat} {T2 T3 : TypeId} {w W : World} {o : Mix} {a b c q r : Int} (h : MixIn B g1 g2 g3 T2 T3 w o a b c W) :
    MixIn B g1 g2 g3 T2 T3 w ⟨q, o.y, o.z⟩ r b c ((W.setCell ⟨g2, 0, none⟩ (.int .i16 q)).setCell ⟨g3, 0, none⟩ (.int .i64 r)) := by
  obtain ⟨h1, h2, h3, h4, h5, h6, h7⟩ := h
  exact ⟨(h1.set 0 _).oth 0 _ (by omega), (h2.oth 0 _ (by omega)).set 0 _, (h3.oth 0 _ (by omega)).oth 0 _ (by omega), (h4.setCell (p := ⟨g2, 0, none⟩) (by show B ≤ g2; omega) _).setCell (p := ⟨g3, 0, none⟩) (by show B ≤ g3; omega) _, h5, h6, h7⟩
theorem MixIn.step1 {B g1 g2 g3 : Nat} {T2 T3 : TypeId} {w W : World} {o : Mix} {a b c q r : Int} (h : MixIn B g1 g2 g3 T2 T3 w o a b c W) :
    MixIn B g1 g2 g3 T2 T3 w ⟨o.x, q, o.z⟩ a r c ((W.setCell ⟨g2, 1, none⟩ (.int .i16 q)).setCell ⟨g3, 1, none⟩ (.int .i64 r)) := by
  obtain ⟨h1, h2, h3, h4, h5, h6, h7⟩ := h
  exact ⟨(h1.set 1 _).oth 1 _ (by omega), (h2.oth 1 _ (by omega)).set 1 _, (h3.oth 1 _ (by omega)).oth 1 _ (by omega), (h4.setCell (p := ⟨g2, 1, none⟩) (by show B ≤ g2; omega) _).setCell (p := ⟨g3, 1, none⟩) (by show B ≤ g3; omega) _, h5, h6, h7⟩
theorem MixIn.step2 {B g1 g2 g3 : Nat} {T2 T3 : TypeId} {w W : World} {o : Mix} {a b c q r : Int} (h : MixIn B g1 g2 g3 T2 T3 w o a b c W) :
    MixIn B g1 g2 g3 T2 T3 w ⟨o.x, o.y, q⟩ a b r ((W.setCell ⟨g2, 2, none⟩ (.int .i16 q)).setCell ⟨g3, 2, none⟩ (.int .i64 r)) := by
  obtain ⟨h1, h2, h3, h4, h5, h6, h7⟩ := h
  exact ⟨(h1.set 2 _).oth 2 _ (by omega), (h2.oth 2 _ (by omega)).set 2 _, (h3.oth 2 _ (by omega)).oth 2 _ (by omega), (h4.setCell (p := ⟨g2, 2, none⟩) (by show B ≤ g2; omega) _).setCell (p := ⟨g3, 2, none⟩) (by show B ≤ g3; omega) _, h5, h6, h7⟩
theorem MixIn.drw {B g1 g2 g3 : Nat} {T2 T3 : TypeId} {w W : World} {o : Mix} {a b c : Int} (h : MixIn B g1 g2 g3 T2 T3 w o a b c W) : MixIn B g1 g2 g3 T2 T3 w o a b c W.drew := ⟨h.1.drw, h.2.1.drw, h.2.2.1.drw, h.2.2.2.1.drew, h.2.2.2.2⟩
theorem MixIn.drwN {B g1 g2 g3 : Nat} {T2 T3 : TypeId} {w W : World} {o : Mix} {a b c : Int} (h : MixIn B g1 g2 g3 T2 T3 w o a b c W) (n : Nat) : MixIn B g1 g2 g3 T2 T3 w o a b c (W.drewN n) := ⟨h.1.drwN n, h.2.1.drwN n, h.2.2.1.drwN n, ext_drewN h.2.2.2.1 n, h.2.2.2.2⟩
theorem MixIn.ext {B g1 g2 g3 : Nat} {T2 T3 : TypeId} {w W : World} {o : Mix} {a b c : Int} (h : MixIn B g1 g2 g3 T2 T3 w o a b c W) {W2 : World} (hb : Below W.heap.size W W2) : MixIn B g1 g2 g3 T2 T3 w o a b c W2 := by
  have hl := h.1.lt
  obtain ⟨h1, h2, h3, h4, h5, h6, h7⟩ := h
  exact ⟨h1.ext hb, h2.ext hb, h3.ext hb, h4.trans (hb.mono (by omega)), h5, h6, h7⟩
theorem index3_calls (a b c : Int) (i : Nat) (hi : idx3 a b c = i) (g : Nat) (T : TypeId) (w : World) (h : Bk w g T #[.int .i64 a, .int .i64 b, .int .i64 c]) :
    Calls Try.prog 53 #[.slice (some ⟨g, 0, none⟩) 3 3, .int .i64 (maxL [a, b, c])] w fun e w' => e = .returned (.int .i64 i) ∧ w = w' := by
  refine (index_i64 [a, b, c] _ (maxL [a, b, c]) w h.sl3).mono ?_
  rintro e w' ⟨rfl, rfl⟩
  exact ⟨ret_int (by rw [idx3_find, hi]), rfl⟩
theorem max3_calls (a b c : Int) (g : Nat) (T : TypeId) (w : World) (h : Bk w g T #[.int .i64 a, .int .i64 b, .int .i64 c]) :
    Calls Try.prog 54 #[.slice (some ⟨g, 0, none⟩) 3 3] w fun e w' => e = .returned (.int .i64 (maxL [a, b, c])) ∧ w = w' := max_i64 [a, b, c] _ w (by simp) h.sl3
def MixRel (m : Mix) (n : Int) (k : Nat) (o : Mix) (a b c : Int) : Prop :=
  forA m n = bump k o a b c ∧ (0 ≤ o.x ∧ o.x + k ≤ 10000) ∧ (0 ≤ o.y ∧ o.y + k ≤ 10000) ∧ (0 ≤ o.z ∧ o.z + k ≤ 10000)
theorem MixRel.round {m : Mix} {n : Int} {k : Nat} {o : Mix} {a b c : Int} (h : MixRel m n (k + 1) o a b c) : 
    (idx3 a b c = 0 → MixRel m n k ⟨o.x + 1, o.y, o.z⟩ (-1) b c) ∧ (idx3 a b c = 1 → MixRel m n k ⟨o.x, o.y + 1, o.z⟩ a (-1) c) ∧ (idx3 a b c = 2 → MixRel m n k ⟨o.x, o.y, o.z + 1⟩ a b (-1)) := by
  obtain ⟨h1, h2, h3, h4⟩ := h
  refine ⟨fun hi => ?_, fun hi => ?_, fun hi => ?_⟩
  all_goals
    refine ⟨by rw [h1, bump, hi]; rfl, ?_, ?_, ?_⟩ <;> simp only <;> omega
theorem MixRel.start {m : Mix} {n : Int} (hv : vMixS m = true) (hn0 : 0 ≤ n) (hn1 : n ≤ 5000) : MixRel m n (n - n * m.x / m.sum - n * m.y / m.sum - n * m.z / m.sum).toNat ⟨n * m.x / m.sum, n * m.y / m.sum, n * m.z / m.sum⟩ (n * m.x % m.sum) (n * m.y % m.sum) (n * m.z % m.sum) := by
  obtain ⟨x0, x1, y0, y1, z0, z1, s0, s1⟩ := vMix_bounds hv
  have hsum : m.x + m.y + m.z = m.sum := rfl
  obtain ⟨px0, px1, px2, px3, px4, px5⟩ := part_bounds n m.x m.sum hn0 hn1 x0 x1 s0 s1 (by omega)
  obtain ⟨py0, py1, py2, py3, py4, py5⟩ := part_bounds n m.y m.sum hn0 hn1 y0 y1 s0 s1 (by omega)
  obtain ⟨pz0, pz1, pz2, pz3, pz4, pz5⟩ := part_bounds n m.z m.sum hn0 hn1 z0 z1 s0 s1 (by omega)
  have pl := sum_le n m.x m.y m.z m.sum hn0 s0 hsum
  refine ⟨rfl, ?_, ?_, ?_⟩ <;> simp only <;> omega
set_option maxHeartbeats 2000000 in
theorem forAmount_calls (m : Mix) (hv : vMixS m = true) (n : Int) (hn0 : 0 ≤ n) (hn1 : n ≤ 5000) (w : World) :
    Calls Try.prog 36 #[Mix.v m, .int .i64 n] w fun e w' => e = .returned (Mix.v (forA m n)) ∧ Below w.heap.size w w' := by
  obtain ⟨x0, x1, y0, y1, z0, z1, s0, s1⟩ := vMix_bounds hv
  have hsum : m.x + m.y + m.z = m.sum := rfl
  obtain ⟨px0, px1, px2, px3, px4, px5⟩ := part_bounds n m.x m.sum hn0 hn1 x0 x1 s0 s1 (by omega)
  obtain ⟨py0, py1, py2, py3, py4, py5⟩ := part_bounds n m.y m.sum hn0 hn1 y0 y1 s0 s1 (by omega)
  obtain ⟨pz0, pz1, pz2, pz3, pz4, pz5⟩ := part_bounds n m.z m.sum hn0 hn1 z0 z1 s0 s1 (by omega)
  have pl := sum_le n m.x m.y m.z m.sum hn0 s0 hsum
  have HS := Lib.hid (MixRel.start hv hn0 hn1)
  unfold Mix.v
  have i0 : ∀ w, (Instr.index 24 (.agg #[.int .i16 m.x, .int .i16 m.y, .int .i16 m.z]) (.int .i64 0)).run Try.prog w = .ok (.int .i16 m.x) w := fun _ => by kernel_rfl
  have i1 : ∀ w, (Instr.index 24 (.agg #[.int .i16 m.x, .int .i16 m.y, .int .i16 m.z]) (.int .i64 1)).run Try.prog w = .ok (.int .i16 m.y) w := fun _ => by kernel_rfl
  have i2 : ∀ w, (Instr.index 24 (.agg #[.int .i16 m.x, .int .i16 m.y, .int .i16 m.z]) (.int .i64 2)).run Try.prog w = .ok (.int .i16 m.z) w := fun _ => by kernel_rfl
  go_enter Try.func36, Try.ntmps36
  go_wp2_with fail
  refine wp_loop_rounds 4 ?_
  rw [rounds_succ]
  go_wp2_with fail
  have H1 : Hid (MixIn w.heap.size (w.heap.size + 1) (w.heap.size + 1 + 1) (w.heap.size + 1 + 1 + 1) 24 72 w ⟨0, 0, 0⟩ 0 0 0 ((((w.alloc (.cells #[.int .i16 m.x, .int .i16 m.y, .int .i16 m.z] 24)).alloc (.cells #[.int .i16 0, .int .i16 0, .int .i16 0] 24)).alloc (.cells #[.int .i16 0, .int .i16 0, .int .i16 0] 24)).alloc (.cells #[.int .i64 0, .int .i64 0, .int .i64 0] 72))) := Lib.hid ⟨(Bk.new ((w.alloc (.cells #[.int .i16 m.x, .int .i16 m.y, .int .i16 m.z] 24)).alloc (.cells #[.int .i16 0, .int .i16 0, .int .i16 0] 24)) 24 #[.int .i16 0, .int .i16 0, .int .i16 0] (w.heap.size + 1 + 1) (by simp)).alloc (.cells #[.int .i64 0, .int .i64 0, .int .i64 0] 72),
    Bk.new (((w.alloc (.cells #[.int .i16 m.x, .int .i16 m.y, .int .i16 m.z] 24)).alloc (.cells #[.int .i16 0, .int .i16 0, .int .i16 0] 24)).alloc (.cells #[.int .i16 0, .int .i16 0, .int .i16 0] 24)) 72 #[.int .i64 0, .int .i64 0, .int .i64 0] (w.heap.size + 1 + 1 + 1) (by simp),
    ((Bk.new (w.alloc (.cells #[.int .i16 m.x, .int .i16 m.y, .int .i16 m.z] 24)) 24 #[.int .i16 0, .int .i16 0, .int .i16 0] (w.heap.size + 1) (by simp)).alloc _).alloc _,
    ext_alloc (ext_alloc (ext_alloc ((Below.refl w.heap.size w).alloc (Nat.le_refl _) (.cells #[.int .i16 m.x, .int .i16 m.y, .int .i16 m.z] 24)) (.cells #[.int .i16 0, .int .i16 0, .int .i16 0] 24)) (.cells #[.int .i16 0, .int .i16 0, .int .i16 0] 24)) (.cells #[.int .i64 0, .int .i64 0, .int .i64 0] 72), by omega, by omega, by omega⟩
  generalize ((((w.alloc (.cells #[.int .i16 m.x, .int .i16 m.y, .int .i16 m.z] 24)).alloc (.cells #[.int .i16 0, .int .i16 0, .int .i16 0] 24)).alloc (.cells #[.int .i16 0, .int .i16 0, .int .i16 0] 24)).alloc (.cells #[.int .i64 0, .int .i64 0, .int .i64 0] 72)) = W1 at H1
  obtain ⟨c20, c21, c22, c30, c31, c32, f2, f3⟩ := H1.out.facts
  go_region
  go_wp2_with fail
  clear c20 c21 c22 c30 c31 c32 f2 f3
  have H2 := Lib.hid ((H1.out.step0 (q := n * m.x / m.sum) (r := n * m.x % m.sum)).drw)
  generalize ((W1.setCell ⟨w.heap.size + 1 + 1, 0, none⟩ (.int .i16 (n * m.x / m.sum))).setCell ⟨w.heap.size + 1 + 1 + 1, 0, none⟩ (.int .i64 (n * m.x % m.sum))).drew = W2 at H2
  clear H1
  rw [rounds_succ]
  go_wp2_with fail
  obtain ⟨c20, c21, c22, c30, c31, c32, f2, f3⟩ := H2.out.facts
  go_region
  go_wp2_with fail
  clear c20 c21 c22 c30 c31 c32 f2 f3
  have H3 := Lib.hid ((H2.out.step1 (q := n * m.y / m.sum) (r := n * m.y % m.sum)).drw)
  generalize ((W2.setCell ⟨w.heap.size + 1 + 1, 1, none⟩ (.int .i16 (n * m.y / m.sum))).setCell ⟨w.heap.size + 1 + 1 + 1, 1, none⟩ (.int .i64 (n * m.y % m.sum))).drew = W3 at H3
  clear H2
  rw [rounds_succ]
  go_wp2_with fail
  obtain ⟨c20, c21, c22, c30, c31, c32, f2, f3⟩ := H3.out.facts
  go_region
  go_wp2_with fail
  clear c20 c21 c22 c30 c31 c32 f2 f3
  have H4 := Lib.hid ((H3.out.step2 (q := n * m.z / m.sum) (r := n * m.z % m.sum)).drw)
  generalize ((W3.setCell ⟨w.heap.size + 1 + 1, 2, none⟩ (.int .i16 (n * m.z / m.sum))).setCell ⟨w.heap.size + 1 + 1 + 1, 2, none⟩ (.int .i64 (n * m.z % m.sum))).drew = W4 at H4
  clear H3
  rw [rounds_succ]
  go_wp2_with fail
  go_loopw [8] (fun l wr => ∃ (k : Nat) (o : Mix) (a b c : Int), l = .int .i64 k ∧ MixRel m n k o a b c ∧ MixIn w.heap.size (w.heap.size + 1) (w.heap.size + 1 + 1) (w.heap.size + 1 + 1 + 1) 24 72 w o a b c wr) (fun l _ => (intOf l).toNat)
  case atStart => exact ⟨_, _, _, _, _, by rw [Int.toNat_of_nonneg (by omega)], HS.out, H4.out⟩
  case round =>
    obtain ⟨k, o, a, b, c, rfl, hrel, hin⟩ := hrel
    have HR := Lib.hid hrel
    have HI := Lib.hid hin
    obtain ⟨-, ⟨ox0, ox1⟩, ⟨oy0, oy1⟩, oz0, oz1⟩ := hrel
    clear hin
    clear H4 HS px0 px1 px2 px3 px4 px5 py0 py1 py2 py3 py4 py5 pz0 pz1 pz2 pz3 pz4 pz5 pl i0 i1 i2
    cases k with
    | zero =>
      have HE := Lib.hid HR.out.1
      obtain ⟨c20, c21, c22, c30, c31, c32, f2, f3⟩ := HI.out.facts
      obtain ⟨d0, d1, d2, f1⟩ := HI.out.res
      have hbl := Lib.hid HI.out.2.2.2.1
      go_wp2_with fail
      exact bodyPost_ret (v := .agg #[.int .i16 o.x, .int .i16 o.y, .int .i16 o.z]) (by simp [results, Try.results36, go_sem, d0, d1, d2]) rfl ⟨by rw [HE.out]; rfl, ((hbl.out.setCell (p := ⟨_, 0, none⟩) (by simp) _).setCell (p := ⟨_, 1, none⟩) (by simp) _).setCell (p := ⟨_, 2, none⟩) (by simp) _⟩
    | succ k =>
      obtain ⟨c20, c21, c22, c30, c31, c32, f2, f3⟩ := HI.out.facts
      have hrd := HR.out.round
      rcases idx3_cases a b c with hi | hi | hi
      · have HX := Lib.hid hi
        have HR2 := Lib.hid (hrd.1 hi)
        clear hi hrd
        go_wp2_with fail
        go_quiet (first | (go_at_call 54; exact quiet_same (max3_calls a b c _ _ _ (HI.out.2.1.drwN _))) | (go_at_call 53; exact quiet_same (index3_calls a b c 0 HX.out _ _ _ (HI.out.2.1.drwN _))))
        go_wp2_with fail
        exact ⟨⟨k, _, _, _, _, rfl, HR2.out, (HI.out.drwN nq).step0⟩, by simp [intOf]⟩
      · have HX := Lib.hid hi
        have HR2 := Lib.hid (hrd.2.1 hi)
        clear hi hrd
        go_wp2_with fail
        go_quiet (first | (go_at_call 54; exact quiet_same (max3_calls a b c _ _ _ (HI.out.2.1.drwN _))) | (go_at_call 53; exact quiet_same (index3_calls a b c 1 HX.out _ _ _ (HI.out.2.1.drwN _))))
        go_wp2_with fail
        exact ⟨⟨k, _, _, _, _, rfl, HR2.out, (HI.out.drwN nq).step1⟩, by simp [intOf]⟩
      · have HX := Lib.hid hi
        have HR2 := Lib.hid (hrd.2.2 hi)
        clear hi hrd
        go_wp2_with fail
        go_quiet (first | (go_at_call 54; exact quiet_same (max3_calls a b c _ _ _ (HI.out.2.1.drwN _))) | (go_at_call 53; exact quiet_same (index3_calls a b c 2 HX.out _ _ _ (HI.out.2.1.drwN _))))
        go_wp2_with fail
        exact ⟨⟨k, _, _, _, _, rfl, HR2.out, (HI.out.drwN nq).step2⟩, by simp [intOf]⟩
set_option maxHeartbeats 2000000 in
theorem l07For_calls (b o : Nat) (m : Mix) (hm : m.ok) (hv : vMixS m = true) (n : Int) (hn0 : 0 ≤ n) (hn1 : n ≤ 5000) (w : World) (hbl : b < w.heap.size) (hat : Mix.at_ w b o m) :
    Calls Try.prog 34 #[.pointer (some ⟨b, o, none⟩), .int .i64 n] w fun e w' => e = .returned (Mix.v (forA m n)) ∧ Below w.heap.size w w' := by
  obtain ⟨x0, x1, y0, y1, z0, z1, s0, s1⟩ := vMix_bounds hv
  have hsum : m.x + m.y + m.z = m.sum := rfl
  obtain ⟨px0, px1, px2, px3, px4, px5⟩ := part_bounds n m.x m.sum hn0 hn1 x0 x1 s0 s1 (by omega)
  obtain ⟨py0, py1, py2, py3, py4, py5⟩ := part_bounds n m.y m.sum hn0 hn1 y0 y1 s0 s1 (by omega)
  obtain ⟨pz0, pz1, pz2, pz3, pz4, pz5⟩ := part_bounds n m.z m.sum hn0 hn1 z0 z1 s0 s1 (by omega)
  have pl := sum_le n m.x m.y m.z m.sum hn0 s0 hsum
  have HS := Lib.hid (MixRel.start hv hn0 hn1)
  have HM := Lib.hid hat
  have HO := Lib.hid hm
  obtain ⟨h0, h1, h2⟩ := hat
  unfold Mix.v
  go_enter Try.func34, Try.ntmps34
  go_wp2_with fail
  have H0 : Hid (MixIn w.heap.size w.heap.size (w.heap.size + 1) (w.heap.size + 1 + 1) 24 72 w ⟨0, 0, 0⟩ 0 0 0 (((w.alloc (.cells #[.int .i16 0, .int .i16 0, .int .i16 0] 24)).alloc (.cells #[.int .i16 0, .int .i16 0, .int .i16 0] 24)).alloc (.cells #[.int .i64 0, .int .i64 0, .int .i64 0] 72))) := Lib.hid ⟨(Bk.new (w.alloc (.cells #[.int .i16 0, .int .i16 0, .int .i16 0] 24)) 24 #[.int .i16 0, .int .i16 0, .int .i16 0] (w.heap.size + 1) (by simp)).alloc (.cells #[.int .i64 0, .int .i64 0, .int .i64 0] 72),
    Bk.new ((w.alloc (.cells #[.int .i16 0, .int .i16 0, .int .i16 0] 24)).alloc (.cells #[.int .i16 0, .int .i16 0, .int .i16 0] 24)) 72 #[.int .i64 0, .int .i64 0, .int .i64 0] (w.heap.size + 1 + 1) (by simp),
    ((Bk.new w 24 #[.int .i16 0, .int .i16 0, .int .i16 0] w.heap.size rfl).alloc _).alloc _,
    ext_alloc (ext_alloc ((Below.refl w.heap.size w).alloc (Nat.le_refl _) (.cells #[.int .i16 0, .int .i16 0, .int .i16 0] 24)) (.cells #[.int .i16 0, .int .i16 0, .int .i16 0] 24)) (.cells #[.int .i64 0, .int .i64 0, .int .i64 0] 72), by omega, by omega, by omega⟩
  generalize (((w.alloc (.cells #[.int .i16 0, .int .i16 0, .int .i16 0] 24)).alloc (.cells #[.int .i16 0, .int .i16 0, .int .i16 0] 24)).alloc (.cells #[.int .i64 0, .int .i64 0, .int .i64 0] 72)) = W0 at H0
  refine (l07Parts_calls b o m HO.out _ ⟨(H0.out.2.2.2.1.cell (p := ⟨b, o, none⟩) hbl).trans h0, (H0.out.2.2.2.1.cell (p := ⟨b, o + 1, none⟩) hbl).trans h1, (H0.out.2.2.2.1.cell (p := ⟨b, o + 2, none⟩) hbl).trans h2⟩).mono ?_
  rintro e w1 ⟨rfl, nd, rfl⟩
  rw [hsum]
  have H1 := Lib.hid (H0.out.drwN nd)
  generalize W0.drewN nd = W1 at H1
  clear H0
  go_wp2_with fail
  refine wp_loop_rounds 4 ?_
  obtain ⟨c20, c21, c22, c30, c31, c32, f2, f3⟩ := H1.out.facts
  have mc0 := (H1.out.2.2.2.1.cell (p := ⟨b, o, none⟩) hbl).trans h0
  have mc1 := (H1.out.2.2.2.1.cell (p := ⟨b, o + 1, none⟩) hbl).trans h1
  have mc2 := (H1.out.2.2.2.1.cell (p := ⟨b, o + 2, none⟩) hbl).trans h2
  rw [rounds_succ]
  go_wp2_with fail
  clear c20 c21 c22 c30 c31 c32 f2 f3 mc0 mc1 mc2
  have H2 := Lib.hid ((H1.out.step0 (q := n * m.x / m.sum) (r := n * m.x % m.sum)))
  generalize ((W1.setCell ⟨w.heap.size + 1, 0, none⟩ (.int .i16 (n * m.x / m.sum))).setCell ⟨w.heap.size + 1 + 1, 0, none⟩ (.int .i64 (n * m.x % m.sum))) = W2 at H2
  clear H1
  obtain ⟨c20, c21, c22, c30, c31, c32, f2, f3⟩ := H2.out.facts
  have mc0 := (H2.out.2.2.2.1.cell (p := ⟨b, o, none⟩) hbl).trans h0
  have mc1 := (H2.out.2.2.2.1.cell (p := ⟨b, o + 1, none⟩) hbl).trans h1
  have mc2 := (H2.out.2.2.2.1.cell (p := ⟨b, o + 2, none⟩) hbl).trans h2
  rw [rounds_succ]
  go_wp2_with fail
  clear c20 c21 c22 c30 c31 c32 f2 f3 mc0 mc1 mc2
  have H3 := Lib.hid ((H2.out.step1 (q := n * m.y / m.sum) (r := n * m.y % m.sum)))
  generalize ((W2.setCell ⟨w.heap.size + 1, 1, none⟩ (.int .i16 (n * m.y / m.sum))).setCell ⟨w.heap.size + 1 + 1, 1, none⟩ (.int .i64 (n * m.y % m.sum))) = W3 at H3
  clear H2
  obtain ⟨c20, c21, c22, c30, c31, c32, f2, f3⟩ := H3.out.facts
  have mc0 := (H3.out.2.2.2.1.cell (p := ⟨b, o, none⟩) hbl).trans h0
  have mc1 := (H3.out.2.2.2.1.cell (p := ⟨b, o + 1, none⟩) hbl).trans h1
  have mc2 := (H3.out.2.2.2.1.cell (p := ⟨b, o + 2, none⟩) hbl).trans h2
  rw [rounds_succ]
  go_wp2_with fail
  clear c20 c21 c22 c30 c31 c32 f2 f3 mc0 mc1 mc2
  have H4 := Lib.hid ((H3.out.step2 (q := n * m.z / m.sum) (r := n * m.z % m.sum)))
  generalize ((W3.setCell ⟨w.heap.size + 1, 2, none⟩ (.int .i16 (n * m.z / m.sum))).setCell ⟨w.heap.size + 1 + 1, 2, none⟩ (.int .i64 (n * m.z % m.sum))) = W4 at H4
  clear H3
  rw [rounds_succ]
  go_wp2_with fail
  go_loopw [7] (fun l wr => ∃ (k : Nat) (q : Mix) (r1 r2 r3 : Int), l = .int .i64 k ∧ MixRel m n k q r1 r2 r3 ∧ MixIn w.heap.size w.heap.size (w.heap.size + 1) (w.heap.size + 1 + 1) 24 72 w q r1 r2 r3 wr) (fun l _ => (intOf l).toNat)
  case atStart => exact ⟨_, _, _, _, _, by rw [Int.toNat_of_nonneg (by omega)], HS.out, H4.out⟩
  case round =>
    obtain ⟨k, q, r1, r2, r3, rfl, hrel, hin⟩ := hrel
    have HR := Lib.hid hrel
    have HI := Lib.hid hin
    obtain ⟨-, ⟨ox0, ox1⟩, ⟨oy0, oy1⟩, oz0, oz1⟩ := hrel
    clear hin
    clear H4 HS px0 px1 px2 px3 px4 px5 py0 py1 py2 py3 py4 py5 pz0 pz1 pz2 pz3 pz4 pz5 pl h0 h1 h2
    cases k with
    | zero =>
      have HE := Lib.hid HR.out.1
      obtain ⟨c20, c21, c22, c30, c31, c32, f2, f3⟩ := HI.out.facts
      obtain ⟨d0, d1, d2, f1⟩ := HI.out.res
      have hbl2 := Lib.hid HI.out.2.2.2.1
      go_wp2_with fail
      exact bodyPost_ret (v := .agg #[.int .i16 q.x, .int .i16 q.y, .int .i16 q.z]) (by simp [results, Try.results34, go_sem, d0, d1, d2]) rfl ⟨by rw [HE.out]; rfl, ((hbl2.out.setCell (p := ⟨_, 0, none⟩) (by simp) _).setCell (p := ⟨_, 1, none⟩) (by simp) _).setCell (p := ⟨_, 2, none⟩) (by simp) _⟩
    | succ k =>
      obtain ⟨c20, c21, c22, c30, c31, c32, f2, f3⟩ := HI.out.facts
      have hrd := HR.out.round
      by_cases ha : r1 < r2
      · by_cases hb : r2 < r3
        · have HR2 := Lib.hid (hrd.2.2 (by unfold idx3; rw [if_neg (by omega), if_neg (by omega)]))
          clear hrd
          go_wp2_with fail
          refine wp_loop_rounds 3 ?_
          rw [rounds_succ]
          go_wp2_with fail
          go_quiet (fail)
          go_wp2_with fail
          rw [rounds_succ]
          go_wp2_with fail
          go_quiet (fail)
          go_wp2_with fail
          rw [rounds_succ]
          go_wp2_with fail
          exact ⟨⟨k, _, _, _, _, rfl, HR2.out, (HI.out.drwN _).step2⟩, by simp [intOf]⟩
        · have HR2 := Lib.hid (hrd.2.1 (by unfold idx3; rw [if_neg (by omega), if_pos (by omega)]))
          clear hrd
          go_wp2_with fail
          refine wp_loop_rounds 3 ?_
          rw [rounds_succ]
          go_wp2_with fail
          go_quiet (fail)
          go_wp2_with fail
          rw [rounds_succ]
          go_wp2_with fail
          go_quiet (fail)
          go_wp2_with fail
          rw [rounds_succ]
          go_wp2_with fail
          exact ⟨⟨k, _, _, _, _, rfl, HR2.out, (HI.out.drwN _).step1⟩, by simp [intOf]⟩
      · by_cases hb : r1 < r3
        · have HR2 := Lib.hid (hrd.2.2 (by unfold idx3; rw [if_neg (by omega), if_neg (by omega)]))
          clear hrd
          go_wp2_with fail
          refine wp_loop_rounds 3 ?_
          rw [rounds_succ]
          go_wp2_with fail
          go_quiet (fail)
          go_wp2_with fail
          rw [rounds_succ]
          go_wp2_with fail
          go_quiet (fail)
          go_wp2_with fail
          rw [rounds_succ]
          go_wp2_with fail
          exact ⟨⟨k, _, _, _, _, rfl, HR2.out, (HI.out.drwN _).step2⟩, by simp [intOf]⟩
        · have HR2 := Lib.hid (hrd.1 (by unfold idx3; rw [if_pos (by omega)]))
          clear hrd
          go_wp2_with fail
          refine wp_loop_rounds 3 ?_
          rw [rounds_succ]
          go_wp2_with fail
          go_quiet (fail)
          go_wp2_with fail
          rw [rounds_succ]
          go_wp2_with fail
          go_quiet (fail)
          go_wp2_with fail
          rw [rounds_succ]
          go_wp2_with fail
          exact ⟨⟨k, _, _, _, _, rfl, HR2.out, (HI.out.drwN _).step0⟩, by simp [intOf]⟩
def mixFor (m : Mix) (n : Int) : Mix × Int := if vMixS m then (if inB n 0 5000 then (forA m n, 0) else (⟨0, 0, 0⟩, 2)) else (⟨0, 0, 0⟩, 1)
theorem Mix.at_alloc2 (w : World) (m : Mix) (T : TypeId) (O : Obj) : Mix.at_ ((w.alloc (.cells #[.int .i16 m.x, .int .i16 m.y, .int .i16 m.z] T)).alloc O) w.heap.size 0 m := by
  have h := Mix.at_alloc w m T
  have hb := (Below.refl (w.alloc (.cells #[.int .i16 m.x, .int .i16 m.y, .int .i16 m.z] T)).heap.size (w.alloc (.cells #[.int .i16 m.x, .int .i16 m.y, .int .i16 m.z] T))).alloc (Nat.le_refl _) O
  have hl : w.heap.size < (w.alloc (.cells #[.int .i16 m.x, .int .i16 m.y, .int .i16 m.z] T)).heap.size := by simp
  exact ⟨(hb.cell (p := ⟨_, _, none⟩) hl).trans h.1, (hb.cell (p := ⟨_, _, none⟩) hl).trans h.2.1, (hb.cell (p := ⟨_, _, none⟩) hl).trans h.2.2⟩
theorem Mix.at_drwN {w : World} {b o : Nat} {m : Mix} (h : Mix.at_ w b o m) (n : Nat) : Mix.at_ (w.drewN n) b o m := h
theorem Mix.at_ext {w w' : World} {b o : Nat} {m : Mix} (h : Mix.at_ w b o m) (hb : Below w.heap.size w w') (hl : b < w.heap.size) : Mix.at_ w' b o m :=
  ⟨(hb.cell (p := ⟨_, _, none⟩) hl).trans h.1, (hb.cell (p := ⟨_, _, none⟩) hl).trans h.2.1, (hb.cell (p := ⟨_, _, none⟩) hl).trans h.2.2⟩
set_option maxHeartbeats 1000000 in
theorem specMixFor_calls (m : Mix) (hm : m.ok) (n : Int) (w : World) :
    Calls Try.prog 8 #[Mix.v m, .int .i64 n] w fun e w' => e = .returned (.tuple #[Mix.v (mixFor m n).1, .int .i64 (mixFor m n).2]) ∧ Below w.heap.size w w' := by
  have hb0 := Lib.hid (ext_alloc ((Below.refl w.heap.size w).alloc (Nat.le_refl _) (.cells #[.int .i16 m.x, .int .i16 m.y, .int .i16 m.z] 24)) (.cells #[.int .i16 0, .int .i16 0, .int .i16 0] 24))
  cases hv : vMixS m
  · have HE := Lib.hid (show mixFor m n = (⟨0, 0, 0⟩, 1) from by simp [mixFor, hv])
    have HV := Lib.hid hv
    clear hv
    rw [HE.out]
    unfold Mix.v
    go_enter Try.func8, Try.ntmps8
    go_wp2_with fail
    refine (l07Mix_calls _ _ m hm _ (Mix.at_alloc2 _ _ _ _)).mono ?_
    rintro e w1 ⟨rfl, nd, rfl⟩
    rw [HV.out]
    go_wp2_with fail
    exact bodyPost_ret (v := .tuple #[.agg #[.int .i16 0, .int .i16 0, .int .i16 0], .int .i64 1]) (by simp [results, Try.results8, go_sem]) rfl ⟨rfl, (((ext_drewN hb0.out nd).setCell (p := ⟨_, 0, none⟩) (by simp) _).setCell (p := ⟨_, 1, none⟩) (by simp) _).setCell (p := ⟨_, 2, none⟩) (by simp) _⟩
  cases hi : inB n 0 5000
  · have HE := Lib.hid (show mixFor m n = (⟨0, 0, 0⟩, 2) from by simp [mixFor, hv, hi])
    have HV := Lib.hid hv
    clear hv
    rw [HE.out]
    unfold Mix.v
    go_enter Try.func8, Try.ntmps8
    go_wp2_with fail
    refine (l07Mix_calls _ _ m hm _ (Mix.at_alloc2 _ _ _ _)).mono ?_
    rintro e w1 ⟨rfl, nd, rfl⟩
    rw [HV.out]
    go_wp2_with ((with_reducible refine (amount_calls _ _).mono ?_); rintro e w' ⟨rfl, rfl⟩)
    exact bodyPost_ret (v := .tuple #[.agg #[.int .i16 0, .int .i16 0, .int .i16 0], .int .i64 2]) (by simp [results, Try.results8, go_sem]) rfl ⟨rfl, (((ext_drewN hb0.out nd).setCell (p := ⟨_, 0, none⟩) (by simp) _).setCell (p := ⟨_, 1, none⟩) (by simp) _).setCell (p := ⟨_, 2, none⟩) (by simp) _⟩
  · have HE := Lib.hid (show mixFor m n = (forA m n, 0) from by simp [mixFor, hv, hi])
    obtain ⟨i0, i1⟩ := inB_true.1 hi
    have HV := Lib.hid hv
    clear hv
    rw [HE.out]
    generalize hF : forA m n = F
    have HF := Lib.hid hF
    clear hF
    unfold Mix.v
    go_enter Try.func8, Try.ntmps8
    go_wp2_with fail
    refine (l07Mix_calls _ _ m hm _ (Mix.at_alloc2 _ _ _ _)).mono ?_
    rintro e w1 ⟨rfl, nd, rfl⟩
    rw [HV.out]
    go_wp2_with ((with_reducible refine (amount_calls _ _).mono ?_); rintro e w' ⟨rfl, rfl⟩)
    have hat := Lib.hid (Mix.at_drwN (Mix.at_alloc2 w m 24 (.cells #[.int .i16 0, .int .i16 0, .int .i16 0] 24)) nd)
    have hbk := Lib.hid ((Bk.new (w.alloc (.cells #[.int .i16 m.x, .int .i16 m.y, .int .i16 m.z] 24)) 24 #[.int .i16 0, .int .i16 0, .int .i16 0] (w.heap.size + 1) (by simp)).drwN nd)
    refine (l07For_calls _ 0 m hm HV.out n i0 i1 _ (by show _ < (World.alloc _ _).heap.size; simp; omega) hat.out).mono ?_
    rintro e w2 ⟨rfl, hb2⟩
    rw [HF.out]
    have hb3 := Lib.hid (ext_trans (ext_drewN hb0.out nd) hb2)
    have hbk2 := Lib.hid (hbk.out.ext hb2)
    have d0 := hbk2.out.cell 0 _ rfl
    have d1 := hbk2.out.cell 1 _ rfl
    have d2 := hbk2.out.cell 2 _ rfl
    have f1 := hbk2.out.frz
    clear hb2
    unfold Mix.v
    go_wp2_with fail
    exact bodyPost_ret (v := .tuple #[.agg #[.int .i16 F.x, .int .i16 F.y, .int .i16 F.z], .int .i64 0]) (by simp [results, Try.results8, go_sem, d0, d1, d2]) rfl ⟨rfl, ((hb3.out.setCell (p := ⟨_, 0, none⟩) (by simp) _).setCell (p := ⟨_, 1, none⟩) (by simp) _).setCell (p := ⟨_, 2, none⟩) (by simp) _⟩
theorem mixCode_eq (m : Mix) (n : Int) : mixCode m n = (mixFor m n).2 := by
  unfold mixCode mixFor
  rw [vMix_eq]
  cases vMixS m <;> cases inB n 0 5000 <;> rfl
theorem mixFor_no {m : Mix} {n : Int} (h : (mixFor m n).2 ≠ 0) : (mixFor m n).1 = ⟨0, 0, 0⟩ := by
  unfold mixFor at h ⊢
  cases hv : vMixS m <;> cases hi : inB n 0 5000 <;> simp_all
theorem mixFor_yes {m : Mix} {n : Int} (h : (mixFor m n).2 = 0) : vMixS m = true ∧ inB n 0 5000 = true ∧ (mixFor m n).1 = forA m n := by
  unfold mixFor at h ⊢
  cases hv : vMixS m <;> cases hi : inB n 0 5000 <;> simp_all
set_option maxHeartbeats 1000000 in
theorem implMixFor_calls (m : Mix) (hm : m.ok) (n : Int) (w : World) :
    Calls Try.prog 10 #[Mix.v m, .int .i64 n] w fun e w' => e = .returned (.tuple #[Mix.v (mixFor m n).1, .int .i64 (mixFor m n).2]) ∧ Below w.heap.size w w' := by
  have hb0 := Lib.hid (ext_alloc ((Below.refl w.heap.size w).alloc (Nat.le_refl _) (.cells #[.int .i16 m.x, .int .i16 m.y, .int .i16 m.z] 24)) (.cells #[.int .i16 0, .int .i16 0, .int .i16 0] 24))
  have hbk := Lib.hid (Bk.new (w.alloc (.cells #[.int .i16 m.x, .int .i16 m.y, .int .i16 m.z] 24)) 24 #[.int .i16 0, .int .i16 0, .int .i16 0] (w.heap.size + 1) (by simp))
  have HC := Lib.hid (mixCode_eq m n)
  by_cases hc : (mixFor m n).2 = 0
  · obtain ⟨hv, hi, hF⟩ := mixFor_yes hc
    have HQ := Lib.hid (show mixFor m n = ((mixFor m n).1, 0) from by rw [← hc])
    rw [HQ.out, hF]
    have HV := Lib.hid hv
    have HC2 := Lib.hid (HC.out.trans hc)
    obtain ⟨i0, i1⟩ := inB_true.1 hi
    clear hv hF hc hi HC HQ
    generalize hF : forA m n = F
    have HF := Lib.hid hF
    clear hF
    unfold Mix.v
    go_enter Try.func10, Try.ntmps10
    go_wp2_with fail
    refine (mixCode_calls m hm n _).mono ?_
    rintro e w1 ⟨rfl, hb1⟩
    rw [HC2.out]
    obtain ⟨hcr, hfr⟩ := bcell hb1
    go_wp2_with fail
    refine (forAmount_calls m HV.out n i0 i1 _).mono ?_
    rintro e w2 ⟨rfl, hb2⟩
    rw [HF.out]
    clear hcr hfr
    have hb3 := Lib.hid (ext_trans (ext_trans hb0.out hb1) hb2)
    have hbk2 := Lib.hid ((hbk.out.ext hb1).ext hb2)
    have d0 := hbk2.out.cell 0 _ rfl
    have d1 := hbk2.out.cell 1 _ rfl
    have d2 := hbk2.out.cell 2 _ rfl
    have f1 := hbk2.out.frz
    clear hb2 hb1
    unfold Mix.v
    go_wp2_with fail
    exact bodyPost_ret (v := .tuple #[.agg #[.int .i16 F.x, .int .i16 F.y, .int .i16 F.z], .int .i64 0]) (by simp [results, Try.results10, go_sem, d0, d1, d2]) rfl ⟨rfl, ((hb3.out.setCell (p := ⟨_, 0, none⟩) (by simp) _).setCell (p := ⟨_, 1, none⟩) (by simp) _).setCell (p := ⟨_, 2, none⟩) (by simp) _⟩
  · have HQ := Lib.hid (show mixFor m n = (⟨0, 0, 0⟩, (mixFor m n).2) from by rw [← mixFor_no hc])
    have hq : ((mixFor m n).2 != 0) = true := by simpa using hc
    rw [HQ.out]
    clear hc
    generalize (mixFor m n).2 = c at HC hq
    unfold Mix.v
    go_enter Try.func10, Try.ntmps10
    go_wp2_with fail
    refine (mixCode_calls m hm n _).mono ?_
    rintro e w1 ⟨rfl, hb1⟩
    rw [HC.out]
    have hb3 := Lib.hid (ext_trans hb0.out hb1)
    have hbk2 := Lib.hid (hbk.out.ext hb1)
    have d0 := hbk2.out.cell 0 _ rfl
    have d1 := hbk2.out.cell 1 _ rfl
    have d2 := hbk2.out.cell 2 _ rfl
    have f1 := hbk2.out.frz
    clear hb1
    go_wp2_with fail
    exact bodyPost_ret (v := .tuple #[.agg #[.int .i16 0, .int .i16 0, .int .i16 0], .int .i64 c]) (by simp [results, Try.results10, go_sem, d0, d1, d2]) rfl ⟨rfl, ((hb3.out.setCell (p := ⟨_, 0, none⟩) (by simp) _).setCell (p := ⟨_, 1, none⟩) (by simp) _).setCell (p := ⟨_, 2, none⟩) (by simp) _⟩
end Go.Proofs.Ytgifakacnneleaa
