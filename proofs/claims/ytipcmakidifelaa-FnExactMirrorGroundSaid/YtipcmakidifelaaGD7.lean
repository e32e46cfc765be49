/-
Grounds: the lowest point beside a point, and where water runs, of the program. Conditions: the ground is valid, the point is a point.
-/
import Derived.Test.YtipcmakidifelaaGD6
set_option linter.unusedVariables false
set_option linter.unusedSimpArgs false
set_option maxRecDepth 100000
namespace Go.Proofs.Ytipcmakidifelaa
open Go.RowKit
def lowN (hs : List Int) (at_ : Cell) (xs : List Cell) (k : Nat) : Cell := (xs.take k).foldl (fun b c => if htL hs c < htL hs b then c else b) at_
theorem lowN_succ (hs : List Int) (at_ : Cell) (xs : List Cell) (k : Nat) (hk : k < xs.length) : lowN hs at_ xs (k + 1) = if htL hs xs[k] < htL hs (lowN hs at_ xs k) then xs[k] else lowN hs at_ xs k := by
  unfold lowN
  rw [List.take_succ_eq_append_getElem hk, List.foldl_append]
  rfl
def lowL (w h : Int) (hs : List Int) (at_ : Cell) : Cell := lowN hs at_ (aroundL w h at_) (aroundL w h at_).length
theorem lowN_pt {w h : Int} {hs : List Int} {at_ : Cell} (ha : gpB w h at_ = true) : ∀ k, k ≤ (aroundL w h at_).length → gpB w h (lowN hs at_ (aroundL w h at_) k) = true
  | 0, _ => ha
  | k + 1, hk => by
    rw [lowN_succ _ _ _ _ (by omega)]
    split
    · exact around_pt (List.getElem_mem _)
    · exact lowN_pt ha k (by omega)
theorem pt_nat {w h : Int} {c : Cell} (hw : w ≤ 9) (hh : h ≤ 9) (hc : gpB w h c = true) : ∃ a b : Nat, a < 9 ∧ b < 9 ∧ c = ⟨(a : Int), (b : Int)⟩ := by
  obtain ⟨x, y⟩ := c
  obtain ⟨h1, h2, h3, h4⟩ := gpB_true.1 hc
  simp only at h1 h2 h3 h4
  refine ⟨x.toNat, y.toNat, by omega, by omega, ?_⟩
  congr 1 <;> omega
theorem pt_ok {w h : Int} {c : Cell} (hw : w ≤ 9) (hh : h ≤ 9) (hc : gpB w h c = true) : c.ok := by
  obtain ⟨h1, h2, h3, h4⟩ := gpB_true.1 hc
  constructor <;> omega
theorem heightP_calls {w h : Int} {hs : List Int} {gl : List Cell} (ok : GOk w h hs gl) (hl : hs.length = 81) (z : Value) (p : Cell) (hp : gpB w h p = true) (W : World) :
    Calls Try.prog 75 #[.agg (gdA w h hs z), .agg #[.int .i8 p.x, .int .i8 p.y]] W fun e w' => e = .returned (.int .i64 (htL hs p)) ∧ Below W.heap.size W w' := by
  have hb := ok.ht p hp
  obtain ⟨a, b, ha, hb2, rfl⟩ := pt_nat ok.w1 ok.h1 hp
  exact height_calls w h hs hl z a b ha hb2 (by omega) W
abbrev LoS (W0 : World) (b c d : Nat) (w h : Int) (hs : List Int) (z : Value) (p q : Cell) (w' : World) : Prop :=
  Below W0.heap.size W0 w' ∧ (loadVar 36 ⟨b, 0, none⟩).run Try.prog w' = .ok (.agg (gdA w h hs z)) w' ∧ w'.cell? ⟨c, 0, none⟩ = some (.int .i8 p.x) ∧ w'.cell? ⟨c, 1, none⟩ = some (.int .i8 p.y) ∧ w'.cell? ⟨d, 0, none⟩ = some (.int .i8 q.x) ∧ w'.cell? ⟨d, 1, none⟩ = some (.int .i8 q.y)
theorem LoS.first {W0 : World} {b c d : Nat} {w h : Int} {hs : List Int} {z : Value} {p q : Cell} {T T' T2 : TypeId} (hl : hs.length = 81) (hb : Bk W0 b T (gdA w h hs z)) (hc : Bk W0 c T' #[.int .i8 p.x, .int .i8 p.y]) (hd : Bk W0 d T2 #[.int .i8 q.x, .int .i8 q.y]) (w' : World) (k : Below W0.heap.size W0 w') : LoS W0 b c d w h hs z p q w' :=
  ⟨k, load_gd hl (hb.ext k), (hc.ext k).cell 0 _ rfl, (hc.ext k).cell 1 _ rfl, (hd.ext k).cell 0 _ rfl, (hd.ext k).cell 1 _ rfl⟩
theorem cell_ne_iff (a b : Cell) : (!(a == b)) = ((a.x != b.x) || (a.y != b.y)) := by
  obtain ⟨ax, ay⟩ := a
  obtain ⟨bx, bz⟩ := b
  rw [Bool.eq_iff_iff]
  simp [Cell.mk.injEq]
  by_cases h1 : ax = bx <;> by_cases h2 : ay = bz <;> simp [h1, h2]
set_option maxHeartbeats 2000000 in
theorem lowest_calls {w h : Int} {hs : List Int} {gl : List Cell} (ok : GOk w h hs gl) (hl : hs.length = 81) (A : Option Addr) (n c : Nat) (p : Cell) (hp : gpB w h p = true) (W : World) :
    Calls Try.prog 86 #[.agg (gdA w h hs (.slice A n c)), .agg #[.int .i8 p.x, .int .i8 p.y]] W fun e w' => e = .returned (.tuple #[.agg #[.int .i8 (lowL w h hs p).x, .int .i8 (lowL w h hs p).y], .bool (!(lowL w h hs p == p))]) ∧ Below W.heap.size W w' := by
  obtain ⟨p1, p2, p3, p4⟩ := gpB_true.1 hp
  have ok1 := ok.w0
  have ok2 := ok.w1
  have ok3 := ok.h0
  have ok4 := ok.h1
  have hB0 := ext_alloc (ext_alloc (ext_alloc ((Below.refl W.heap.size W).alloc (Nat.le_refl _) (.cells (gdA w h hs (.slice A n c)) 36)) (.cells #[.int .i8 p.x, .int .i8 p.y] 38)) (.cells #[.int .i8 0, .int .i8 0] 38)) (.cells #[.int .i8 p.x, .int .i8 p.y] 38)
  have HB := Lib.hid hB0
  have KG := Lib.hid ((((Bk.new W 36 (gdA w h hs (.slice A n c)) W.heap.size rfl).alloc (.cells #[.int .i8 p.x, .int .i8 p.y] 38)).alloc (.cells #[.int .i8 0, .int .i8 0] 38)).alloc (.cells #[.int .i8 p.x, .int .i8 p.y] 38))
  have KP := Lib.hid (((Bk.new (W.alloc (.cells (gdA w h hs (.slice A n c)) 36)) 38 #[.int .i8 p.x, .int .i8 p.y] (W.heap.size + 1) (by simp)).alloc (.cells #[.int .i8 0, .int .i8 0] 38)).alloc (.cells #[.int .i8 p.x, .int .i8 p.y] 38))
  have KR := Lib.hid ((Bk.new ((W.alloc (.cells (gdA w h hs (.slice A n c)) 36)).alloc (.cells #[.int .i8 p.x, .int .i8 p.y] 38)) 38 #[.int .i8 0, .int .i8 0] (W.heap.size + 1 + 1) (by simp)).alloc (.cells #[.int .i8 p.x, .int .i8 p.y] 38))
  have KB := Lib.hid (Bk.new (((W.alloc (.cells (gdA w h hs (.slice A n c)) 36)).alloc (.cells #[.int .i8 p.x, .int .i8 p.y] 38)).alloc (.cells #[.int .i8 0, .int .i8 0] 38)) 38 #[.int .i8 p.x, .int .i8 p.y] (W.heap.size + 1 + 1 + 1) (by simp))
  have qa := Lib.hid (show ∀ W', Calls Try.prog 88 #[.agg (gdA w h hs (.slice A n c)), .agg #[.int .i8 p.x, .int .i8 p.y]] W' _ from fun W' => around_calls w h (by omega) (by omega) (by omega) (by omega) hs hl (.slice A n c) p (by omega) (by omega) (by omega) (by omega) W')
  have ldg := load_gd hl KG.out
  have HP := Lib.hid hp
  clear hB0 p1 p2 p3 p4
  go_enter Try.func86, Try.ntmps86
  go_wp2_with (refine wpList_load_w rfl 36 (.tmp 2) rfl _ rfl _ ldg ?_)
  generalize (((W.alloc (.cells (gdA w h hs (.slice A n c)) 36)).alloc (.cells #[.int .i8 p.x, .int .i8 p.y] 38)).alloc (.cells #[.int .i8 0, .int .i8 0] 38)).alloc (.cells #[.int .i8 p.x, .int .i8 p.y] 38) = W1 at *
  refine (qa.out _).mono ?_
  rintro e w1 ⟨v1, rfl, hO1, hb1⟩
  obtain ⟨A1, cap1, rfl, -, -, -⟩ := (hO1.sl Cell.c_len).cell
  have HO1 := Lib.hid hO1
  have HB1 := Lib.hid (ext_trans HB.out hb1)
  have KG1 := Lib.hid (KG.out.ext hb1)
  have KP1 := Lib.hid (KP.out.ext hb1)
  have KR1 := Lib.hid (KR.out.ext hb1)
  have KB1 := Lib.hid (KB.out.ext hb1)
  have hs1 := Lib.hid (show W.heap.size + 1 + 1 + 1 < W1.heap.size from KB.out.lt)
  clear hO1 hb1 ldg qa
  have hlen4 := Lib.hid (show (aroundL w h p).length ≤ 4 from Nat.le_trans (List.length_filter_le _ _) (Nat.le_refl _))
  have hpts := Lib.hid (fun q (hq : q ∈ aroundL w h p) => around_pt hq)
  have hbp := Lib.hid (fun k hk => lowN_pt (hs := hs) HP.out k hk)
  have hsucc := Lib.hid (fun k hk => lowN_succ hs p (aroundL w h p) k hk)
  have hfin := Lib.hid (show lowL w h hs p = lowN hs p (aroundL w h p) (aroundL w h p).length from rfl)
  have h00 := Lib.hid (show lowN hs p (aroundL w h p) 0 = p from rfl)
  generalize aroundL w h p = xs at *
  go_wp2_with fail
  go_loopw [14] (fun i wr => ∃ k : Nat, k ≤ xs.length ∧ i = .int .i64 (k : Int) ∧ Bk wr W.heap.size 36 (gdA w h hs (.slice A n c)) ∧ Bk wr (W.heap.size + 1) 38 #[.int .i8 p.x, .int .i8 p.y] ∧ Bk wr (W.heap.size + 1 + 1) 38 #[.int .i8 0, .int .i8 0] ∧ Bk wr (W.heap.size + 1 + 1 + 1) 38 #[.int .i8 (lowN hs p xs k).x, .int .i8 (lowN hs p xs k).y] ∧ Own wr W1.heap.size 38 Cell.c 2 (.slice A1 xs.length cap1) xs ∧ Below W.heap.size W wr) (fun i _ => xs.length - (intOf i).toNat)
  case atStart => exact ⟨0, by omega, rfl, KG1.out, KP1.out, KR1.out, by rw [h00.out]; exact KB1.out, HO1.out, HB1.out⟩
  case round =>
    obtain ⟨k, hk, rfl, hG, hP, hR, hBe, hO, hb⟩ := hrel
    have HG := Lib.hid hG
    have HPp := Lib.hid hP
    have HR := Lib.hid hR
    have HBe := Lib.hid hBe
    have HO := Lib.hid hO
    have HBr := Lib.hid hb
    clear hG hP hR hBe hO hb
    by_cases hlt : k < xs.length
    · obtain ⟨A2, cap2, hv, -, -, hcell⟩ := (HO.out.sl Cell.c_len).cell
      obtain ⟨b2, o2, he, hbb, c0, c1⟩ := hcell k hlt
      obtain ⟨rfl, rfl⟩ : A1 = A2 ∧ cap1 = cap2 := by injection hv with e1 e2 e3; exact ⟨e1, e3⟩
      subst he
      have hst := Lib.hid (hsucc.out k hlt)
      have hqpt := hpts.out xs[k] (List.getElem_mem hlt)
      have hbpt := hbp.out k hk
      have hlen := hlen4.out
      have hk0 : (0 : Int) ≤ (k : Int) := by omega
      have hk1 : (k : Int) < (xs.length : Int) := by omega
      have hkd : decide ((k : Int) < (xs.length : Int)) = true := by rw [decide_eq_true_eq]; omega
      clear hcell hv
      generalize xs[k] = q at *
      generalize lowN hs p xs k = be at *
      have q1 := Lib.hid (fun W' => heightP_calls ok hl (.slice A n c) q hqpt W')
      have q2 := Lib.hid (fun W' => heightP_calls ok hl (.slice A n c) be hbpt W')
      have HGa := Lib.hid (HG.out.alloc (.cells #[.int .i8 q.x, .int .i8 q.y] 38))
      have HPa := Lib.hid (HPp.out.alloc (.cells #[.int .i8 q.x, .int .i8 q.y] 38))
      have HRa := Lib.hid (HR.out.alloc (.cells #[.int .i8 q.x, .int .i8 q.y] 38))
      have HBa := Lib.hid (HBe.out.alloc (.cells #[.int .i8 q.x, .int .i8 q.y] 38))
      have HOa := Lib.hid (HO.out.alloc (.cells #[.int .i8 q.x, .int .i8 q.y] 38))
      have HXa := Lib.hid (HBr.out.alloc HBr.out.size (.cells #[.int .i8 q.x, .int .i8 q.y] 38))
      have HQ := Lib.hid (Bk.new wr 38 #[.int .i8 q.x, .int .i8 q.y] wr.heap.size rfl)
      go_wp2_with fail
      generalize wr.alloc (.cells #[.int .i8 q.x, .int .i8 q.y] 38) = W2 at *
      have HS := Lib.hid (LoS.first hl HGa.out HQ.out HBa.out)
      clear c0 c1
      by_cases hcmp : htL hs q < htL hs be
      · have hs2 := Lib.hid (hst.out.trans (if_pos hcmp))
        have hcd : decide (htL hs q < htL hs be) = true := decide_eq_true hcmp
        clear hst hcmp hqpt hbpt
        refine wp_region_held_drew (S := (LoS W2 W.heap.size wr.heap.size (W.heap.size + 1 + 1 + 1) w h hs (.slice A n c) q be)) (by kernel_rfl) ?r14_hS0 (fun hHeld => ?r14_rest)
        case r14_hS0 => (try dsimp only); first | assumption | exact HS.out _ (kp0 _) | exact HS.out _ (Below.refl _ _) | exact HS.out _ (kp1 (And.left (b := _) (by assumption))) | exact HS.out _ (ext_trans (And.left (b := _) (by assumption)) (by assumption))
        refine wpAnyH_take (i := 0) (v := ?r14_vv0) (by (simp only [List.getElem?_toArray, List.getElem?_cons_succ, List.getElem?_cons_zero]; rfl)) (by kernel_rfl) (by kernel_rfl) (by kernel_rfl) (by exact fun _ _ _ h => h) (Or.inl ⟨by rfl, ?r14_hy0⟩) (by assumption) ?r14_rest0
        case r14_hy0 => intro w hSw; (try dsimp only at hSw); refine (exec_load rfl rfl hSw.2.1).trans ?_; with_reducible rfl
        try simp only [Act.put, List.setIfInBounds_toArray, List.set_cons_zero, List.set_cons_succ]
        refine wpAnyH_take (i := 1) (v := ?r14_vv1) (by (simp only [List.getElem?_toArray, List.getElem?_cons_succ, List.getElem?_cons_zero]; rfl)) (by kernel_rfl) (by kernel_rfl) (by kernel_rfl) (by exact fun _ _ _ h => h) (Or.inl ⟨by rfl, ?r14_hy1⟩) (by assumption) ?r14_rest1
        case r14_hy1 => intro w hSw; (try dsimp only at hSw); (go_simp <;> (with_reducible rfl))
        try simp only [Act.put, List.setIfInBounds_toArray, List.set_cons_zero, List.set_cons_succ]
        refine wpAnyH_take (i := 3) (v := ?r14_vv3) (by (simp only [List.getElem?_toArray, List.getElem?_cons_succ, List.getElem?_cons_zero]; rfl)) (by kernel_rfl) (by kernel_rfl) (by kernel_rfl) (by exact fun _ _ _ h => h) (Or.inl ⟨by rfl, ?r14_hy3⟩) (by assumption) ?r14_rest3
        case r14_hy3 => intro w hSw; (try dsimp only at hSw); refine (exec_load rfl rfl hSw.2.1).trans ?_; with_reducible rfl
        try simp only [Act.put, List.setIfInBounds_toArray, List.set_cons_zero, List.set_cons_succ]
        refine wpAnyH_take (i := 4) (v := ?r14_vv4) (by (simp only [List.getElem?_toArray, List.getElem?_cons_succ, List.getElem?_cons_zero]; rfl)) (by kernel_rfl) (by kernel_rfl) (by kernel_rfl) (by exact fun _ _ _ h => h) (Or.inl ⟨by rfl, ?r14_hy4⟩) (by assumption) ?r14_rest4
        case r14_hy4 => intro w hSw; (try dsimp only at hSw); (go_simp <;> (with_reducible rfl))
        try simp only [Act.put, List.setIfInBounds_toArray, List.set_cons_zero, List.set_cons_succ]
        refine wpAnyH_ready (rs := [2]) (by kernel_rfl) (by simp) ?_
        refine AllReadyH.cons (by (simp only [List.getElem?_toArray, List.getElem?_cons_succ, List.getElem?_cons_zero]; rfl)) (fun K hK => ?_) AllReadyH.nil
        go_simp
        (go_at_call 75; with_reducible refine (q1.out _).mono ?_; rintro e w8 ⟨rfl, hb8⟩)
        try go_wp2_with fail
        refine hK.out _ _ ?r14_hS2 (fun hHeld => ?r14_r2)
        case r14_hS2 => (try dsimp only); first | assumption | exact HS.out _ (kp0 _) | exact HS.out _ (Below.refl _ _) | exact HS.out _ (kp1 (And.left (b := _) (by assumption))) | exact HS.out _ (ext_trans (And.left (b := _) (by assumption)) (by assumption))
        clear hK K
        try simp only [Act.put, List.setIfInBounds_toArray, List.set_cons_zero, List.set_cons_succ]
        refine wpAnyH_ready (rs := [5]) (by kernel_rfl) (by simp) ?_
        refine AllReadyH.cons (by (simp only [List.getElem?_toArray, List.getElem?_cons_succ, List.getElem?_cons_zero]; rfl)) (fun K hK => ?_) AllReadyH.nil
        go_simp
        (go_at_call 75; with_reducible refine (q2.out _).mono ?_; rintro e w9 ⟨rfl, hb9⟩)
        try go_wp2_with fail
        refine hK.out _ _ ?r14_hS5 (fun hHeld => ?r14_r5)
        case r14_hS5 => (try dsimp only); first | assumption | exact HS.out _ (kp0 _) | exact HS.out _ (Below.refl _ _) | exact HS.out _ (kp1 (And.left (b := _) (by assumption))) | exact HS.out _ (ext_trans (And.left (b := _) (by assumption)) (by assumption))
        clear hK K
        try simp only [Act.put, List.setIfInBounds_toArray, List.set_cons_zero, List.set_cons_succ]
        refine wpAnyH_take (i := 6) (v := ?r14_vv6) (by (simp only [List.getElem?_toArray, List.getElem?_cons_succ, List.getElem?_cons_zero]; rfl)) (by kernel_rfl) (by kernel_rfl) (by kernel_rfl) (by exact fun _ _ _ h => h) (Or.inl ⟨by rfl, ?r14_hy6⟩) (by assumption) ?r14_rest6
        case r14_hy6 => intro w hSw; (try dsimp only at hSw); (go_simp <;> (with_reducible rfl))
        try simp only [Act.put, List.setIfInBounds_toArray, List.set_cons_zero, List.set_cons_succ]
        refine wpAnyH_done (by kernel_rfl) ?_ _
        have HW := Lib.hid (show Below W2.heap.size W2 w9 from And.left (b := _) (by assumption))
        have HG9 := Lib.hid (HGa.out.ext HW.out)
        have HP9 := Lib.hid (HPa.out.ext HW.out)
        have HR9 := Lib.hid (HRa.out.ext HW.out)
        have HB9 := Lib.hid (HBa.out.ext HW.out)
        have HO9 := Lib.hid (HOa.out.ext HW.out)
        have HQ9 := Lib.hid (HQ.out.ext HW.out)
        have HX9 := Lib.hid (ext_trans HXa.out HW.out)
        have e0 := HB9.out.cell 0 _ rfl
        have e1 := HB9.out.cell 1 _ rfl
        have f0 := HB9.out.frz 0
        have f1 := HB9.out.frz 1
        have d0 := HQ9.out.cell 0 _ rfl
        have d1 := HQ9.out.cell 1 _ rfl
        go_wp2_with fail
        go_roundw
        case rel => exact ⟨k + 1, by omega, by go_num, (HG9.out.oth 0 _ (by omega)).oth 1 _ (by omega), (HP9.out.oth 0 _ (by omega)).oth 1 _ (by omega), (HR9.out.oth 0 _ (by omega)).oth 1 _ (by omega), by rw [hs2.out]; exact (HB9.out.set 0 _).set 1 _, HO9.out.keep (fun j hj => by have h1 := HO9.out.base j hj; have h2 := hs1.out; rw [Below.heap_setCell _ _ _ _ (show j ≠ _ by simp; omega), Below.heap_setCell _ _ _ _ (show j ≠ _ by simp; omega)]), (HX9.out.setCell (by simp; omega) _).setCell (by simp; omega) _⟩
        case measure => first | (simp [intOf]; done) | (simp [intOf]; omega)
      · have hs2 := Lib.hid (hst.out.trans (if_neg hcmp))
        have hcd : decide (htL hs q < htL hs be) = false := decide_eq_false hcmp
        clear hst hcmp hqpt hbpt
        refine wp_region_held_drew (S := (LoS W2 W.heap.size wr.heap.size (W.heap.size + 1 + 1 + 1) w h hs (.slice A n c) q be)) (by kernel_rfl) ?r15_hS0 (fun hHeld => ?r15_rest)
        case r15_hS0 => (try dsimp only); first | assumption | exact HS.out _ (kp0 _) | exact HS.out _ (Below.refl _ _) | exact HS.out _ (kp1 (And.left (b := _) (by assumption))) | exact HS.out _ (ext_trans (And.left (b := _) (by assumption)) (by assumption))
        refine wpAnyH_take (i := 0) (v := ?r15_vv0) (by (simp only [List.getElem?_toArray, List.getElem?_cons_succ, List.getElem?_cons_zero]; rfl)) (by kernel_rfl) (by kernel_rfl) (by kernel_rfl) (by exact fun _ _ _ h => h) (Or.inl ⟨by rfl, ?r15_hy0⟩) (by assumption) ?r15_rest0
        case r15_hy0 => intro w hSw; (try dsimp only at hSw); refine (exec_load rfl rfl hSw.2.1).trans ?_; with_reducible rfl
        try simp only [Act.put, List.setIfInBounds_toArray, List.set_cons_zero, List.set_cons_succ]
        refine wpAnyH_take (i := 1) (v := ?r15_vv1) (by (simp only [List.getElem?_toArray, List.getElem?_cons_succ, List.getElem?_cons_zero]; rfl)) (by kernel_rfl) (by kernel_rfl) (by kernel_rfl) (by exact fun _ _ _ h => h) (Or.inl ⟨by rfl, ?r15_hy1⟩) (by assumption) ?r15_rest1
        case r15_hy1 => intro w hSw; (try dsimp only at hSw); (go_simp <;> (with_reducible rfl))
        try simp only [Act.put, List.setIfInBounds_toArray, List.set_cons_zero, List.set_cons_succ]
        refine wpAnyH_take (i := 3) (v := ?r15_vv3) (by (simp only [List.getElem?_toArray, List.getElem?_cons_succ, List.getElem?_cons_zero]; rfl)) (by kernel_rfl) (by kernel_rfl) (by kernel_rfl) (by exact fun _ _ _ h => h) (Or.inl ⟨by rfl, ?r15_hy3⟩) (by assumption) ?r15_rest3
        case r15_hy3 => intro w hSw; (try dsimp only at hSw); refine (exec_load rfl rfl hSw.2.1).trans ?_; with_reducible rfl
        try simp only [Act.put, List.setIfInBounds_toArray, List.set_cons_zero, List.set_cons_succ]
        refine wpAnyH_take (i := 4) (v := ?r15_vv4) (by (simp only [List.getElem?_toArray, List.getElem?_cons_succ, List.getElem?_cons_zero]; rfl)) (by kernel_rfl) (by kernel_rfl) (by kernel_rfl) (by exact fun _ _ _ h => h) (Or.inl ⟨by rfl, ?r15_hy4⟩) (by assumption) ?r15_rest4
        case r15_hy4 => intro w hSw; (try dsimp only at hSw); (go_simp <;> (with_reducible rfl))
        try simp only [Act.put, List.setIfInBounds_toArray, List.set_cons_zero, List.set_cons_succ]
        refine wpAnyH_ready (rs := [2]) (by kernel_rfl) (by simp) ?_
        refine AllReadyH.cons (by (simp only [List.getElem?_toArray, List.getElem?_cons_succ, List.getElem?_cons_zero]; rfl)) (fun K hK => ?_) AllReadyH.nil
        go_simp
        (go_at_call 75; with_reducible refine (q1.out _).mono ?_; rintro e w8 ⟨rfl, hb8⟩)
        try go_wp2_with fail
        refine hK.out _ _ ?r15_hS2 (fun hHeld => ?r15_r2)
        case r15_hS2 => (try dsimp only); first | assumption | exact HS.out _ (kp0 _) | exact HS.out _ (Below.refl _ _) | exact HS.out _ (kp1 (And.left (b := _) (by assumption))) | exact HS.out _ (ext_trans (And.left (b := _) (by assumption)) (by assumption))
        clear hK K
        try simp only [Act.put, List.setIfInBounds_toArray, List.set_cons_zero, List.set_cons_succ]
        refine wpAnyH_ready (rs := [5]) (by kernel_rfl) (by simp) ?_
        refine AllReadyH.cons (by (simp only [List.getElem?_toArray, List.getElem?_cons_succ, List.getElem?_cons_zero]; rfl)) (fun K hK => ?_) AllReadyH.nil
        go_simp
        (go_at_call 75; with_reducible refine (q2.out _).mono ?_; rintro e w9 ⟨rfl, hb9⟩)
        try go_wp2_with fail
        refine hK.out _ _ ?r15_hS5 (fun hHeld => ?r15_r5)
        case r15_hS5 => (try dsimp only); first | assumption | exact HS.out _ (kp0 _) | exact HS.out _ (Below.refl _ _) | exact HS.out _ (kp1 (And.left (b := _) (by assumption))) | exact HS.out _ (ext_trans (And.left (b := _) (by assumption)) (by assumption))
        clear hK K
        try simp only [Act.put, List.setIfInBounds_toArray, List.set_cons_zero, List.set_cons_succ]
        refine wpAnyH_take (i := 6) (v := ?r15_vv6) (by (simp only [List.getElem?_toArray, List.getElem?_cons_succ, List.getElem?_cons_zero]; rfl)) (by kernel_rfl) (by kernel_rfl) (by kernel_rfl) (by exact fun _ _ _ h => h) (Or.inl ⟨by rfl, ?r15_hy6⟩) (by assumption) ?r15_rest6
        case r15_hy6 => intro w hSw; (try dsimp only at hSw); (go_simp <;> (with_reducible rfl))
        try simp only [Act.put, List.setIfInBounds_toArray, List.set_cons_zero, List.set_cons_succ]
        refine wpAnyH_done (by kernel_rfl) ?_ _
        have HW := Lib.hid (show Below W2.heap.size W2 w9 from And.left (b := _) (by assumption))
        go_wp2_with fail
        go_roundw
        case rel => exact ⟨k + 1, by omega, by go_num, HGa.out.ext HW.out, HPa.out.ext HW.out, HRa.out.ext HW.out, by rw [hs2.out]; exact HBa.out.ext HW.out, HOa.out.ext HW.out, ext_trans HXa.out HW.out⟩
        case measure => first | (simp [intOf]; done) | (simp [intOf]; omega)
    · obtain rfl : k = xs.length := by omega
      have hkd : decide ((xs.length : Int) < (xs.length : Int)) = false := by rw [decide_eq_false_iff_not]; omega
      rw [← hfin.out] at HBe
      obtain ⟨L, hL⟩ : ∃ L, L = lowL w h hs p := ⟨_, rfl⟩
      rw [← hL] at HBe
      have HL := Lib.hid hL
      clear hL
      have e0 := HBe.out.cell 0 _ rfl
      have e1 := HBe.out.cell 1 _ rfl
      have g0 := HPp.out.cell 0 _ rfl
      have g1 := HPp.out.cell 1 _ rfl
      have r0 := HR.out.cell 0 _ rfl
      have r1 := HR.out.cell 1 _ rfl
      have f0 := HR.out.frz 0
      have f1 := HR.out.frz 1
      have hne := Lib.hid (cell_ne_iff L p)
      by_cases x1 : L.x = p.x
      · have q1 : (L.x == p.x) = true := by simp [x1]
        by_cases y1 : L.y = p.y
        · have q2 : (L.y == p.y) = true := by simp [y1]
          have hE := Lib.hid (show (!(L == p)) = false from by rw [hne.out]; simp [x1, y1])
          clear x1 y1 hne
          go_wp2_with fail
          go_region
          all_goals
            go_wp2_with fail
            have z0 := ((HR.out.set 0 (.int .i8 L.x)).set 1 (.int .i8 L.y)).drw.cell 0 _ rfl
            have z1 := ((HR.out.set 0 (.int .i8 L.x)).set 1 (.int .i8 L.y)).drw.cell 1 _ rfl
            exact bodyPost_ret (v := .tuple #[.agg #[.int .i8 L.x, .int .i8 L.y], .bool false]) (by simp [results, Try.results86, go_sem, z0, z1]) rfl ⟨by rw [← HL.out, hE.out], ((HBr.out.setCell (by simp; omega) _).setCell (by simp; omega) _).drew⟩
        · have q2 : (L.y == p.y) = false := by simp [y1]
          have hE := Lib.hid (show (!(L == p)) = true from by rw [hne.out]; simp [x1, y1])
          clear x1 y1 hne
          go_wp2_with fail
          go_region
          all_goals
            go_wp2_with fail
            have z0 := ((HR.out.set 0 (.int .i8 L.x)).set 1 (.int .i8 L.y)).drw.cell 0 _ rfl
            have z1 := ((HR.out.set 0 (.int .i8 L.x)).set 1 (.int .i8 L.y)).drw.cell 1 _ rfl
            exact bodyPost_ret (v := .tuple #[.agg #[.int .i8 L.x, .int .i8 L.y], .bool true]) (by simp [results, Try.results86, go_sem, z0, z1]) rfl ⟨by rw [← HL.out, hE.out], ((HBr.out.setCell (by simp; omega) _).setCell (by simp; omega) _).drew⟩
      · have q1 : (L.x == p.x) = false := by simp [x1]
        have hE := Lib.hid (show (!(L == p)) = true from by rw [hne.out]; simp [x1])
        clear x1 hne
        go_wp2_with fail
        go_region
        all_goals
          go_wp2_with fail
          have z0 := ((HR.out.set 0 (.int .i8 L.x)).set 1 (.int .i8 L.y)).drw.cell 0 _ rfl
          have z1 := ((HR.out.set 0 (.int .i8 L.x)).set 1 (.int .i8 L.y)).drw.cell 1 _ rfl
          exact bodyPost_ret (v := .tuple #[.agg #[.int .i8 L.x, .int .i8 L.y], .bool true]) (by simp [results, Try.results86, go_sem, z0, z1]) rfl ⟨by rw [← HL.out, hE.out], ((HBr.out.setCell (by simp; omega) _).setCell (by simp; omega) _).drew⟩
end Go.Proofs.Ytipcmakidifelaa
