/-
Contracts of BagsFor, over plain numbers. Conditions: numbers are of their kinds.
-/
import Derived.Test.YtgifakacnneleaaG2
import Derived.Test.YtgifakacnneleaaApp
set_option linter.unusedVariables false
set_option linter.unusedSimpArgs false
set_option maxRecDepth 100000
namespace Go.Proofs.Ytgifakacnneleaa
open Go.RowKit
theorem MixRel.bounds {m : Mix} {n : Int} : ∀ {k : Nat} {o : Mix} {a b c : Int}, MixRel m n k o a b c → (0 ≤ (forA m n).x ∧ (forA m n).x ≤ 10000) ∧ (0 ≤ (forA m n).y ∧ (forA m n).y ≤ 10000) ∧ (0 ≤ (forA m n).z ∧ (forA m n).z ≤ 10000) := by
  intro k
  induction k with
  | zero =>
    intro o a b c h
    obtain ⟨h1, h2, h3, h4⟩ := h
    rw [h1]
    simp only [bump]
    omega
  | succ k ih =>
    intro o a b c h
    have hr := h.round
    have h3 : idx3 a b c = 0 ∨ idx3 a b c = 1 ∨ idx3 a b c = 2 := by
      unfold idx3
      split
      · exact .inl rfl
      · split
        · exact .inr (.inl rfl)
        · exact .inr (.inr rfl)
    rcases h3 with h0 | h0 | h0
    · exact ih (hr.1 h0)
    · exact ih (hr.2.1 h0)
    · exact ih (hr.2.2 h0)
def nd (F : Mix) (k : Nat) : Int := match k with | 0 => F.x | 1 => F.y | _ => F.z
def bagOf (x bag : Int) : Int := (x + bag - 1) / bag
def bagL (F : Mix) (bag : Int) : List Int := [bagOf F.x bag, bagOf F.y bag, bagOf F.z bag]
def bagsFor (m : Mix) (n bag : Int) : List Int × Int × Int :=
  if (mixFor m n).2 = 0 then (if inB bag 1 5000 = true then (bagL (forA m n) bag, (bagL (forA m n) bag).sum, 0) else ([], 0, 2)) else ([], 0, (mixFor m n).2)
structure Bagged (F : Mix) (bag : Int) : Prop where
  x0 : 0 ≤ F.x ∧ F.x ≤ 10000
  y0 : 0 ≤ F.y ∧ F.y ≤ 10000
  z0 : 0 ≤ F.z ∧ F.z ≤ 10000
  b0 : 1 ≤ bag ∧ bag ≤ 5000
theorem bagOf_bounds (x bag : Int) (h0 : 0 ≤ x) (h1 : x ≤ 10000) (b0 : 1 ≤ bag) (b1 : bag ≤ 5000) : 0 ≤ bagOf x bag ∧ bagOf x bag ≤ 15000 := by
  unfold bagOf
  refine ⟨Int.ediv_nonneg (by omega) (by omega), ?_⟩
  have : (x + bag - 1) / bag ≤ x + bag - 1 := Int.ediv_le_self _ (by omega)
  omega
theorem Bagged.nd {F : Mix} {bag : Int} (h : Bagged F bag) (k : Nat) : 0 ≤ nd F k ∧ nd F k ≤ 10000 := by
  obtain ⟨x0, y0, z0, b0⟩ := h
  unfold Go.Proofs.Ytgifakacnneleaa.nd
  split <;> assumption
theorem Bagged.of {F : Mix} {bag : Int} (h : Bagged F bag) (k : Nat) : 0 ≤ bagOf (Go.Proofs.Ytgifakacnneleaa.nd F k) bag ∧ bagOf (Go.Proofs.Ytgifakacnneleaa.nd F k) bag ≤ 15000 := by
  obtain ⟨n0, n1⟩ := h.nd k
  exact bagOf_bounds _ _ n0 n1 h.b0.1 h.b0.2
theorem bagL_step (F : Mix) (bag : Int) (k : Nat) (hk : k < 3) : (bagL F bag).take (k + 1) = (bagL F bag).take k ++ [bagOf (nd F k) bag] := by
  match k, hk with
  | 0, _ => rfl
  | 1, _ => rfl
  | 2, _ => rfl
theorem Bagged.sum {F : Mix} {bag : Int} (h : Bagged F bag) (k : Nat) (hk : k ≤ 3) : 0 ≤ ((bagL F bag).take k).sum ∧ ((bagL F bag).take k).sum ≤ 15000 * k := by
  induction k with
  | zero => simp
  | succ k ih =>
    obtain ⟨i0, i1⟩ := ih (by omega)
    obtain ⟨n0, n1⟩ := h.of k
    rw [bagL_step F bag k (by omega), List.sum_append]
    simp
    omega
theorem Bagged.make {m : Mix} {n bag : Int} (hv : vMixS m = true) (h0 : 0 ≤ n) (h1 : n ≤ 5000) (b0 : 1 ≤ bag) (b1 : bag ≤ 5000) : Bagged (forA m n) bag := by
  obtain ⟨x, y, z⟩ := (MixRel.start hv h0 h1).bounds
  exact ⟨x, y, z, b0, b1⟩
def RetBags (w : World) (r : List Int × Int × Int) (e : Ending) (w' : World) : Prop :=
  ∃ v, e = .returned (.tuple #[v, .int .i64 r.2.1, .int .i64 r.2.2]) ∧ Own w' w.heap.size 2 i64c 1 v r.1 ∧ Below w.heap.size w w'
theorem RetBags.mk {w w' : World} {r : List Int × Int × Int} {v : Value} {a b : Int} (h1 : a = r.2.1) (h2 : b = r.2.2) (ho : Own w' w.heap.size 2 i64c 1 v r.1) (hb : Below w.heap.size w w') : RetBags w r (.returned (.tuple #[v, .int .i64 a, .int .i64 b])) w' := ⟨v, by rw [h1, h2], ho, hb⟩
set_option maxHeartbeats 2000000 in
theorem specBagsFor_calls (m : Mix) (hm : m.ok) (n bag : Int) (w : World) :
    Calls Try.prog 14 #[Mix.v m, .int .i64 n, .int .i64 bag] w (RetBags w (bagsFor m n bag)) := by
  have hb0 := Lib.hid (((Below.refl w.heap.size w).alloc (Nat.le_refl _) (.cells #[.int .i16 m.x, .int .i16 m.y, .int .i16 m.z] 24)))
  cases hv : vMixS m
  · have HE := Lib.hid (show bagsFor m n bag = ([], 0, 1) from by simp [bagsFor, mixFor, hv])
    have HV := Lib.hid hv
    clear hv
    rw [HE.out]
    unfold Mix.v
    go_enter Try.func14, Try.ntmps14
    go_wp2_with fail
    refine (l07Mix_calls _ _ m hm _ (Mix.at_alloc _ _ _)).mono ?_
    rintro e w1 ⟨rfl, nd, rfl⟩
    rw [HV.out]
    go_wp2_with fail
    go_ret3
    exact RetBags.mk rfl rfl (Own.empty _ _ _ (by simp) (ext_drewN hb0.out nd).size) ((ext_drewN hb0.out nd).alloc (ext_drewN hb0.out nd).size _)
  cases hi : inB n 0 5000
  · have HE := Lib.hid (show bagsFor m n bag = ([], 0, 2) from by simp [bagsFor, mixFor, hv, hi])
    have HV := Lib.hid hv
    clear hv
    rw [HE.out]
    unfold Mix.v
    go_enter Try.func14, Try.ntmps14
    go_wp2_with fail
    refine (l07Mix_calls _ _ m hm _ (Mix.at_alloc _ _ _)).mono ?_
    rintro e w1 ⟨rfl, nd, rfl⟩
    rw [HV.out]
    go_wp2_with ((with_reducible refine (amount_calls _ _).mono ?_); rintro e w' ⟨rfl, rfl⟩)
    go_ret3
    exact RetBags.mk rfl rfl (Own.empty _ _ _ (by simp) (ext_drewN hb0.out nd).size) ((ext_drewN hb0.out nd).alloc (ext_drewN hb0.out nd).size _)
  cases hi2 : inB bag 1 5000
  · have HE := Lib.hid (show bagsFor m n bag = ([], 0, 2) from by simp [bagsFor, mixFor, hv, hi, hi2])
    have HV := Lib.hid hv
    clear hv
    rw [HE.out]
    unfold Mix.v
    go_enter Try.func14, Try.ntmps14
    go_wp2_with fail
    refine (l07Mix_calls _ _ m hm _ (Mix.at_alloc _ _ _)).mono ?_
    rintro e w1 ⟨rfl, nd, rfl⟩
    rw [HV.out]
    go_wp2_with (first | ((with_reducible refine (amount_calls _ _).mono ?_); rintro e w' ⟨rfl, rfl⟩) | ((with_reducible refine (in_calls _ _ _ _).mono ?_); rintro e w' ⟨rfl, rfl⟩))
    go_ret3
    exact RetBags.mk rfl rfl (Own.empty _ _ _ (by simp) (ext_drewN hb0.out nd).size) ((ext_drewN hb0.out nd).alloc (ext_drewN hb0.out nd).size _)
  · obtain ⟨i0, i1⟩ := inB_true.1 hi
    obtain ⟨j0, j1⟩ := inB_true.1 hi2
    have HB := Lib.hid (Bagged.make hv i0 i1 j0 j1)
    have HE := Lib.hid (show bagsFor m n bag = (bagL (forA m n) bag, (bagL (forA m n) bag).sum, 0) from by simp [bagsFor, mixFor, hv, hi, hi2])
    have HV := Lib.hid hv
    clear hv
    rw [HE.out]
    generalize hF : forA m n = F at *
    have HF := Lib.hid hF
    clear hF
    unfold Mix.v
    go_enter Try.func14, Try.ntmps14
    go_wp2_with fail
    refine (l07Mix_calls _ _ m hm _ (Mix.at_alloc _ _ _)).mono ?_
    rintro e w1 ⟨rfl, nd, rfl⟩
    rw [HV.out]
    go_wp2_with (first | ((with_reducible refine (amount_calls _ _).mono ?_); rintro e w' ⟨rfl, rfl⟩) | ((with_reducible refine (in_calls _ _ _ _).mono ?_); rintro e w' ⟨rfl, rfl⟩))
    have hat := Lib.hid (Mix.at_drwN (Mix.at_alloc w m 24) nd)
    refine (l07For_calls _ 0 m hm HV.out n i0 i1 _ (by show _ < (World.alloc _ _).heap.size; simp) hat.out).mono ?_
    rintro e w2 ⟨rfl, hb2⟩
    rw [HF.out]
    have hb3 := Lib.hid (ext_trans (ext_drewN hb0.out nd) hb2)
    have hbk := Lib.hid (Bk.new w2 24 #[.int .i16 F.x, .int .i16 F.y, .int .i16 F.z] w2.heap.size rfl)
    have hO := Lib.hid (show Own ((w2.alloc (.cells #[.int .i16 F.x, .int .i16 F.y, .int .i16 F.z] 24)).alloc (.cells #[] 2)) (w2.heap.size + 1) 2 i64c 1 (.slice (some ⟨w2.heap.size + 1, 0, none⟩) 0 0) [] from by
      exact Own.empty _ _ _ (by simp) (by simp))
    clear hb2
    have hcl : ∀ k, k < 3 → (w2.alloc (.cells #[.int .i16 F.x, .int .i16 F.y, .int .i16 F.z] 24)).cell? ⟨w2.heap.size, k, none⟩ = some (.int .i16 (Go.Proofs.Ytgifakacnneleaa.nd F k)) := fun k hk => by
      refine hbk.out.cell k _ ?_
      match k, hk with
      | 0, _ => rfl
      | 1, _ => rfl
      | 2, _ => rfl
    unfold Mix.v
    go_wp2_with fail
    generalize hW : w2.alloc (.cells #[.int .i16 F.x, .int .i16 F.y, .int .i16 F.z] 24) = W at *
    have HS := Lib.hid (show W.heap.size = w2.heap.size + 1 from by rw [← hW]; simp)
    have hb4 := Lib.hid (show Below w.heap.size w W from by rw [← hW]; exact hb3.out.alloc hb3.out.size _)
    have hw2 := Lib.hid hb3.out.size
    clear hW
    go_loopw [10, 11, 12] (fun v t i wr => ∃ k : Nat, k ≤ 3 ∧ i = .int .i64 k ∧ t = .int .i64 ((bagL F bag).take k).sum ∧ Own wr (w2.heap.size + 1) 2 i64c 1 v ((bagL F bag).take k) ∧ Below (w2.heap.size + 1) W wr) (fun _ _ i _ => 3 - (intOf i).toNat)
    case atStart => exact ⟨0, by omega, rfl, rfl, hO.out, by rw [← HS.out]; exact (Below.refl _ _).alloc (Nat.le_refl _) _⟩
    case round =>
      obtain ⟨k, hk, rfl, rfl, hO2, hb⟩ := hrel
      obtain ⟨s0, s1⟩ := HB.out.sum k hk
      have HO2 := Lib.hid hO2
      clear hO2
      by_cases hlt : k < 3
      · have c0 := (hb.cell (p := ⟨w2.heap.size, _, none⟩) (by show w2.heap.size < w2.heap.size + 1; omega)).trans (hcl k hlt)
        clear hcl
        obtain ⟨n0, n1⟩ := HB.out.nd k
        obtain ⟨o0, o1⟩ := HB.out.of k
        have hst := Lib.hid (bagL_step F bag k hlt)
        have hq : (decide ((k : Int) < 3)) = true := by rw [decide_eq_true_eq]; omega
        have hsz := hb.size
        have hsz2 : w2.heap.size + 1 ≤ wr.heap.size := by rw [← HS.out]; exact hb.size
        unfold bagOf at o0 o1 hst
        go_wp2_with (at_builtin; go_loud (refine push_i64 rfl _ _ rfl (w2.heap.size + 1) ((bagL F bag).take k) _ rfl (HO2.out.alloc _) ⟨_, 0, none⟩ _ rfl ((Bk.new _ _ _ _ rfl).cell 0 _ rfl) (by rw [List.length_take]; omega) (by simp; omega) ?_))
        intro v' w' hO3 hG3
        have hB3 := Lib.hid (((hb.alloc hsz2 _).grown hG3 (by simp; omega) (fun j hj => HO2.out.base j hj)))
        rw [← hst.out] at hO3
        have hst2 := Lib.hid (show ((bagL F bag).take (k + 1)).sum = ((bagL F bag).take k).sum + (Go.Proofs.Ytgifakacnneleaa.nd F k + bag - 1) / bag from by rw [hst.out]; simp)
        go_wp2_with fail
        go_roundw
        case rel => exact ⟨k + 1, by omega, by go_num, by rw [hst2.out], hO3, hB3.out⟩
        case measure => simp [intOf]; omega
      · obtain rfl : k = 3 := by omega
        have hb4' := hb4.out
        have hsz2 : w.heap.size ≤ w2.heap.size + 1 := by have := hw2.out; omega
        go_wp2_with fail
        go_ret3
        exact RetBags.mk rfl rfl (HO2.out.more hsz2) (ext_trans hb4' (by rw [HS.out]; exact hb))
set_option maxHeartbeats 2000000 in
theorem implBagsFor_calls (m : Mix) (hm : m.ok) (n bag : Int) (w : World) :
    Calls Try.prog 15 #[Mix.v m, .int .i64 n, .int .i64 bag] w (RetBags w (bagsFor m n bag)) := by
  have hb0 := Lib.hid (((Below.refl w.heap.size w).alloc (Nat.le_refl _) (.cells #[.int .i16 m.x, .int .i16 m.y, .int .i16 m.z] 24)))
  have hbk := Lib.hid (Bk.new w 24 #[.int .i16 m.x, .int .i16 m.y, .int .i16 m.z] w.heap.size rfl)
  have HC := Lib.hid (mixCode_eq m n)
  by_cases hc : (mixFor m n).2 = 0
  · obtain ⟨hv, hi, -⟩ := mixFor_yes hc
    have HV := Lib.hid hv
    have HC2 := Lib.hid (HC.out.trans hc)
    obtain ⟨i0, i1⟩ := inB_true.1 hi
    cases hi2 : inB bag 1 5000
    · have HE := Lib.hid (show bagsFor m n bag = ([], 0, 2) from by simp [bagsFor, hc, hi2])
      rw [HE.out]
      clear hv hc hi HC
      unfold Mix.v
      go_enter Try.func15, Try.ntmps15
      go_wp2_with fail
      refine (mixCode_calls m hm n _).mono ?_
      rintro e w1 ⟨rfl, hb1⟩
      rw [HC2.out]
      go_wp2_with (first | ((with_reducible refine (within_calls _ _ _ _).mono ?_); rintro e w' ⟨rfl, rfl⟩) | ((with_reducible refine (unless_calls _ _ _).mono ?_); rintro e w' ⟨rfl, rfl⟩))
      go_ret3
      exact RetBags.mk rfl rfl (Own.nil_ _ _ _ _ _) (ext_trans hb0.out hb1)
    · obtain ⟨j0, j1⟩ := inB_true.1 hi2
      have HB := Lib.hid (Bagged.make hv i0 i1 j0 j1)
      have HE := Lib.hid (show bagsFor m n bag = (bagL (forA m n) bag, (bagL (forA m n) bag).sum, 0) from by simp [bagsFor, hc, hi2])
      rw [HE.out]
      clear hv hc hi HC
      generalize hF : forA m n = F at *
      have HF := Lib.hid hF
      clear hF
      unfold Mix.v
      go_enter Try.func15, Try.ntmps15
      go_wp2_with fail
      refine (mixCode_calls m hm n _).mono ?_
      rintro e w1 ⟨rfl, hb1⟩
      rw [HC2.out]
      have hbk1 := Lib.hid (hbk.out.ext hb1)
      have hb2 := Lib.hid (ext_trans hb0.out hb1)
      have d0 := hbk1.out.cell 0 _ rfl
      have d1 := hbk1.out.cell 1 _ rfl
      have d2 := hbk1.out.cell 2 _ rfl
      have hl := hbk1.out.lt
      have hl2 := Lib.hid hb1.size
      have x0 : ∀ w, (Instr.index 24 (.agg #[.int .i16 F.x, .int .i16 F.y, .int .i16 F.z]) (.int .i64 0)).run Try.prog w = .ok (.int .i16 F.x) w := fun _ => by kernel_rfl
      have x1 : ∀ w, (Instr.index 24 (.agg #[.int .i16 F.x, .int .i16 F.y, .int .i16 F.z]) (.int .i64 1)).run Try.prog w = .ok (.int .i16 F.y) w := fun _ => by kernel_rfl
      have x2 : ∀ w, (Instr.index 24 (.agg #[.int .i16 F.x, .int .i16 F.y, .int .i16 F.z]) (.int .i64 2)).run Try.prog w = .ok (.int .i16 F.z) w := fun _ => by kernel_rfl
      have hix : ∀ (k : Nat), k < 3 → ∀ w, (Instr.index 24 (.agg #[.int .i16 F.x, .int .i16 F.y, .int .i16 F.z]) (.int .i64 (k : Int))).run Try.prog w = .ok (.int .i16 (Go.Proofs.Ytgifakacnneleaa.nd F k)) w := fun k hk w => by
        have h3 : k = 0 ∨ k = 1 ∨ k = 2 := by omega
        rcases h3 with rfl | rfl | rfl
        · exact x0 w
        · exact x1 w
        · exact x2 w
      clear x0 x1 x2
      clear hb1
      go_wp2_with (first | ((with_reducible refine (within_calls _ _ _ _).mono ?_); rintro e w' ⟨rfl, rfl⟩) | ((with_reducible refine (unless_calls _ _ _).mono ?_); rintro e w' ⟨rfl, rfl⟩))
      have hO := Lib.hid (show Own (w1.alloc (.cells #[] 2)) w.heap.size 2 i64c 1 (.slice (some ⟨w1.heap.size, 0, none⟩) 0 0) [] from Own.empty _ _ _ rfl hb2.out.size)
      refine (forAmount_calls m HV.out n i0 i1 _).mono ?_
      rintro e w2 ⟨rfl, hb3⟩
      rw [HF.out]
      clear d0 d1 d2
      have hO2 := Lib.hid (hO.out.ext hb3)
      have hb4 := Lib.hid (ext_trans (hb2.out.alloc hb2.out.size _) hb3)
      clear hb3
      unfold Mix.v
      go_wp2_with fail
      go_loopw [10, 11, 30] (fun v t i wr => ∃ k : Nat, k ≤ 3 ∧ i = .int .i64 k ∧ t = .int .i64 ((bagL F bag).take k).sum ∧ Own wr w.heap.size 2 i64c 1 v ((bagL F bag).take k) ∧ Below w.heap.size w wr) (fun _ _ i _ => 3 - (intOf i).toNat)
      case atStart => exact ⟨0, by omega, rfl, rfl, hO2.out, hb4.out⟩
      case round =>
        obtain ⟨k, hk, rfl, rfl, hO3, hb⟩ := hrel
        obtain ⟨s0, s1⟩ := HB.out.sum k hk
        have HO3 := Lib.hid hO3
        clear hO3
        by_cases hlt : k < 3
        · have hix2 := hix k hlt
          clear hix
          obtain ⟨n0, n1⟩ := HB.out.nd k
          obtain ⟨o0, o1⟩ := HB.out.of k
          have hst := Lib.hid (bagL_step F bag k hlt)
          have hq : (decide ((k : Int) < 3)) = true := by rw [decide_eq_true_eq]; omega
          have hsz2 := hb.size
          unfold bagOf at o0 o1 hst
          go_wp2_with (at_builtin; refine push_i64 rfl _ _ rfl w.heap.size ((bagL F bag).take k) _ rfl (HO3.out.alloc _) ⟨_, 0, none⟩ _ rfl ((Bk.new _ _ _ _ rfl).cell 0 _ rfl) (by rw [List.length_take]; omega) (by simp; omega) ?_)
          intro v' w' hO4 hG3
          have hB3 := Lib.hid (((hb.alloc hsz2 _).grown hG3 (by simp; omega) (fun j hj => HO3.out.base j hj)))
          rw [← hst.out] at hO4
          have hst2 := Lib.hid (show ((bagL F bag).take (k + 1)).sum = ((bagL F bag).take k).sum + (Go.Proofs.Ytgifakacnneleaa.nd F k + bag - 1) / bag from by rw [hst.out]; simp)
          go_wp2_with fail
          go_roundw
          case rel => exact ⟨k + 1, by omega, by go_num, by rw [hst2.out], hO4, hB3.out⟩
          case measure => simp [intOf]; omega
        · obtain rfl : k = 3 := by omega
          go_wp2_with fail
          go_ret3
          exact RetBags.mk rfl rfl HO3.out hb
  · have hq : ((mixFor m n).2 == 0) = false := by simpa using hc
    have hq2 : ((mixFor m n).2 != 0) = true := by simpa using hc
    have HE := Lib.hid (show bagsFor m n bag = ([], 0, (mixFor m n).2) from by simp [bagsFor, hc])
    rw [HE.out]
    clear hc
    generalize (mixFor m n).2 = c at *
    unfold Mix.v
    go_enter Try.func15, Try.ntmps15
    go_wp2_with fail
    refine (mixCode_calls m hm n _).mono ?_
    rintro e w1 ⟨rfl, hb1⟩
    rw [HC.out]
    go_wp2_with fail
    go_ret3
    exact RetBags.mk rfl rfl (Own.nil_ _ _ _ _ _) (ext_trans hb0.out hb1)
end Go.Proofs.Ytgifakacnneleaa
