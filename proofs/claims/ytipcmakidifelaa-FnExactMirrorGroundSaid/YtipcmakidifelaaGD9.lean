/-
Grounds: where water runs, of the reference. Conditions: the ground is valid, the point is a point.
-/
import Derived.Test.YtipcmakidifelaaGD8
set_option linter.unusedVariables false
set_option linter.unusedSimpArgs false
set_option maxRecDepth 100000
namespace Go.Proofs.Ytipcmakidifelaa
open Go.RowKit
theorem sheightP_calls {w h : Int} {hs : List Int} {gl : List Cell} (ok : GOk w h hs gl) (hl : hs.length = 81) (z : Value) (g : Nat) (T : TypeId) (p : Cell) (hp : gpB w h p = true) (W : World) (hg : Bk W g T (gdA w h hs z)) :
    Calls Try.prog 73 #[.pointer (some ⟨g, 0, none⟩), .agg #[.int .i8 p.x, .int .i8 p.y]] W fun e w' => e = .returned (.int .i64 (htL hs p)) ∧ Below W.heap.size W w' := by
  have hb := ok.ht p hp
  obtain ⟨a, b, ha, hb2, rfl⟩ := pt_nat ok.w1 ok.h1 hp
  exact sheight_calls g T w h hs hl z a b ha hb2 (by omega) W hg
abbrev LfS (W0 : World) (d b2 o1 : Nat) (q be : Cell) (w' : World) : Prop :=
  Below W0.heap.size W0 w' ∧ w'.cell? ⟨b2, o1, none⟩ = some (.int .i8 q.x) ∧ w'.cell? ⟨b2, o1 + 1, none⟩ = some (.int .i8 q.y) ∧ w'.cell? ⟨d, 0, none⟩ = some (.int .i8 be.x) ∧ w'.cell? ⟨d, 1, none⟩ = some (.int .i8 be.y)
theorem LfS.first {W0 : World} {d b2 o1 : Nat} {q be : Cell} {T2 : TypeId} (hb2 : b2 < W0.heap.size) (c0 : W0.cell? ⟨b2, o1, none⟩ = some (.int .i8 q.x)) (c1 : W0.cell? ⟨b2, o1 + 1, none⟩ = some (.int .i8 q.y)) (hd : Bk W0 d T2 #[.int .i8 be.x, .int .i8 be.y]) (w' : World) (k : Below W0.heap.size W0 w') : LfS W0 d b2 o1 q be w' :=
  ⟨k, (k.cell (p := ⟨b2, o1, none⟩) hb2).trans c0, (k.cell (p := ⟨b2, o1 + 1, none⟩) hb2).trans c1, (hd.ext k).cell 0 _ rfl, (hd.ext k).cell 1 _ rfl⟩
set_option maxHeartbeats 2000000 in
theorem sfall_calls {w h : Int} {hs : List Int} {gl : List Cell} (ok : GOk w h hs gl) (hl : hs.length = 81) (z : Value) (g : Nat) (T : TypeId) (p : Cell) (hp : gpB w h p = true) (W : World) (hg : Bk W g T (gdA w h hs z)) (hz : Sl W W.heap.size Cell.c 2 z gl) :
    Calls Try.prog 62 #[.pointer (some ⟨g, 0, none⟩), .agg #[.int .i8 p.x, .int .i8 p.y]] W fun e w' => (∃ q : Cell, e = .returned (.tuple #[.agg #[.int .i8 q.x, .int .i8 q.y], .bool (stepL w h hs gl p).isSome]) ∧ (∀ d, stepL w h hs gl p = some d → q = d)) ∧ Below W.heap.size W w' := by
  obtain ⟨p1, p2, p3, p4⟩ := gpB_true.1 hp
  have ok1 := ok.w0
  have ok2 := ok.w1
  have ok3 := ok.h0
  have ok4 := ok.h1
  have hB := ext_alloc ((Below.refl W.heap.size W).alloc (Nat.le_refl _) (.cells #[.int .i8 p.x, .int .i8 p.y] 38)) (.cells #[.int .i8 0, .int .i8 0] 38)
  have HB := Lib.hid hB
  have HG0 := Lib.hid hg
  have hgl := Lib.hid hg.lt
  have KP := Lib.hid ((Bk.new W 38 #[.int .i8 p.x, .int .i8 p.y] W.heap.size rfl).alloc (.cells #[.int .i8 0, .int .i8 0] 38))
  have KR := Lib.hid (Bk.new (W.alloc (.cells #[.int .i8 p.x, .int .i8 p.y] 38)) 38 #[.int .i8 0, .int .i8 0] (W.heap.size + 1) (by simp))
  have qg := Lib.hid (show Calls Try.prog 58 #[.pointer (some ⟨g, 0, none⟩), .agg #[.int .i8 p.x, .int .i8 p.y]] ((W.alloc (.cells #[.int .i8 p.x, .int .i8 p.y] 38)).alloc (.cells #[.int .i8 0, .int .i8 0] 38)) _ from sgully_calls g T w h hs hl gl z p _ (hg.ext hB) (hz.ext hB))
  have qb := Lib.hid (show ∀ W', Bk W' g T (gdA w h hs z) → Calls Try.prog 71 #[.pointer (some ⟨g, 0, none⟩), .agg #[.int .i8 p.x, .int .i8 p.y]] W' _ from fun W' hk => sbeside_calls g T w h (by omega) (by omega) (by omega) (by omega) hs z p (by omega) (by omega) (by omega) (by omega) W' hk)
  have hst := Lib.hid (show stepL w h hs gl p = if p ∈ gl then none else if lowL w h hs p = p then none else some (lowL w h hs p) from rfl)
  have hfi := Lib.hid ((findI_ge (fun y => y == p) gl).trans (any_eq_mem gl p))
  have HP := Lib.hid hp
  clear hB hz hg p1 p2 p3 p4
  go_enter Try.func62, Try.ntmps62
  go_wp2_with fail
  refine qg.out.mono ?_
  rintro e w1 ⟨rfl, hb1⟩
  have HB1 := Lib.hid (ext_trans HB.out hb1)
  have KP1 := Lib.hid (KP.out.ext hb1)
  have KR1 := Lib.hid (KR.out.ext hb1)
  have e0 := KP1.out.cell 0 _ rfl
  have e1 := KP1.out.cell 1 _ rfl
  clear hb1
  generalize findI (fun y => y == p) gl = fi at *
  by_cases hin : p ∈ gl
  · have hd : decide (0 ≤ fi) = true := hfi.out.trans (decide_eq_true hin)
    have hs2 := Lib.hid (hst.out.trans (if_pos hin))
    have r0 := KR1.out.cell 0 _ rfl
    have r1 := KR1.out.cell 1 _ rfl
    have f0 := KR1.out.frz 0
    have f1 := KR1.out.frz 1
    clear hst hin
    go_wp2_with fail
    have z0 := ((KR1.out.set 0 (.int .i8 p.x)).set 1 (.int .i8 p.y)).cell 0 _ rfl
    have z1 := ((KR1.out.set 0 (.int .i8 p.x)).set 1 (.int .i8 p.y)).cell 1 _ rfl
    exact bodyPost_ret (v := .tuple #[.agg #[.int .i8 p.x, .int .i8 p.y], .bool false]) (by simp [results, Try.results62, go_sem, z0, z1]) rfl ⟨⟨p, by rw [hs2.out]; rfl, fun d hd => by rw [hs2.out] at hd; cases hd⟩, (HB1.out.setCell (by simp <;> omega) _).setCell (by simp <;> omega) _⟩
  · have hd : decide (0 ≤ fi) = false := hfi.out.trans (decide_eq_false hin)
    have hs1 := Lib.hid (hst.out.trans (if_neg hin))
    have hiff := Lib.hid (show (stepL w h hs gl p).isSome = !(lowL w h hs p == p) from by
      rw [hs1.out]
      by_cases h1 : lowL w h hs p = p <;> simp [h1])
    have hval := Lib.hid (show ∀ d, stepL w h hs gl p = some d → lowL w h hs p = d from fun d hd => by
      rw [hs1.out] at hd
      split at hd
      · cases hd
      · injection hd)
    have HBa := Lib.hid (HB1.out.alloc HB1.out.size (.cells #[.int .i8 p.x, .int .i8 p.y] 38))
    have KPa := Lib.hid (KP1.out.alloc (.cells #[.int .i8 p.x, .int .i8 p.y] 38))
    have KRa := Lib.hid (KR1.out.alloc (.cells #[.int .i8 p.x, .int .i8 p.y] 38))
    obtain ⟨b6, hb6⟩ : ∃ b6, b6 = w1.heap.size := ⟨_, rfl⟩
    have KBa := Lib.hid (Bk.new w1 38 #[.int .i8 p.x, .int .i8 p.y] b6 hb6)
    have hb6g := Lib.hid (show W.heap.size + 1 < b6 from by rw [hb6]; exact KR1.out.lt)
    clear hst hin
    go_upto_region 4 with (fail)
    rw [← hb6]
    generalize w1.alloc (.cells #[.int .i8 p.x, .int .i8 p.y] 38) = W1 at *
    clear e0 e1 hb6
    have e0 := KPa.out.cell 0 _ rfl
    have e1 := KPa.out.cell 1 _ rfl
    go_wp2_with fail
    refine (qb.out _ (HG0.out.ext HBa.out)).mono ?_
    rintro e w2 ⟨v1, rfl, hO1, hb2⟩
    obtain ⟨A1, cap1, rfl, -, -, -⟩ := (hO1.sl Cell.c_len).cell
    have HO1 := Lib.hid hO1
    have HB2 := Lib.hid (ext_trans HBa.out hb2)
    have KP2 := Lib.hid (KPa.out.ext hb2)
    have KR2 := Lib.hid (KRa.out.ext hb2)
    have KB2 := Lib.hid (KBa.out.ext hb2)
    have hs1b := Lib.hid (show b6 < W1.heap.size from KBa.out.lt)
    clear hO1 hb2 e0 e1
    have hlen4 := Lib.hid (show (aroundL w h p).length ≤ 4 from Nat.le_trans (List.length_filter_le _ _) (Nat.le_refl _))
    have hpts := Lib.hid (fun q (hq : q ∈ aroundL w h p) => around_pt hq)
    have hbp := Lib.hid (fun k hk => lowN_pt (hs := hs) HP.out k hk)
    have hsucc := Lib.hid (fun k hk => lowN_succ hs p (aroundL w h p) k hk)
    have hfin := Lib.hid (show lowL w h hs p = lowN hs p (aroundL w h p) (aroundL w h p).length from rfl)
    have h00 := Lib.hid (show lowN hs p (aroundL w h p) 0 = p from rfl)
    generalize aroundL w h p = xs at *
    go_wp2_with fail
    go_loopw [8] (fun i wr => ∃ k : Nat, k ≤ xs.length ∧ i = .int .i64 (k : Int) ∧ Bk wr W.heap.size 38 #[.int .i8 p.x, .int .i8 p.y] ∧ Bk wr (W.heap.size + 1) 38 #[.int .i8 0, .int .i8 0] ∧ Bk wr b6 38 #[.int .i8 (lowN hs p xs k).x, .int .i8 (lowN hs p xs k).y] ∧ Own wr W1.heap.size 38 Cell.c 2 (.slice A1 xs.length cap1) xs ∧ Below W.heap.size W wr) (fun i _ => xs.length - (intOf i).toNat)
    case atStart => exact ⟨0, by omega, rfl, KP2.out, KR2.out, by rw [h00.out]; exact KB2.out, HO1.out, HB2.out⟩
    case round =>
      obtain ⟨k, hk, rfl, hP, hR, hBe, hO, hb⟩ := hrel
      have HPp := Lib.hid hP
      have HR := Lib.hid hR
      have HBe := Lib.hid hBe
      have HO := Lib.hid hO
      have HBr := Lib.hid hb
      have HG := Lib.hid (HG0.out.ext hb)
      clear hP hR hBe hO hb
      by_cases hlt : k < xs.length
      · obtain ⟨A2, cap2, hv, -, -, hcell⟩ := (HO.out.sl Cell.c_len).cell
        obtain ⟨b2, o2, he, hbb, c0, c1⟩ := hcell k hlt
        obtain ⟨rfl, rfl⟩ : A1 = A2 ∧ cap1 = cap2 := by injection hv with e1 e2 e3; exact ⟨e1, e3⟩
        subst he
        have hst := Lib.hid (hsucc.out k hlt)
        have hqpt := hpts.out xs[k] (List.getElem_mem hlt)
        have hbpt := hbp.out k hk
        have hlen := hlen4.out
        have hk0 : (0 : Int) ≤ (k : Int) := by omega
        have hk1 : (k : Int) < (xs.length : Int) := by omega
        have hkd : decide ((k : Int) < (xs.length : Int)) = true := by rw [decide_eq_true_eq]; omega
        clear hcell hv
        generalize xs[k] = q at *
        generalize lowN hs p xs k = be at *
        have q1 := Lib.hid (fun W' hk => sheightP_calls ok hl z g T q hqpt W' hk)
        have q2 := Lib.hid (fun W' hk => sheightP_calls ok hl z g T be hbpt W' hk)
        have HS := Lib.hid (LfS.first hbb c0 c1 HBe.out)
        clear c0 c1
        by_cases hcmp : htL hs q < htL hs be
        · have hs2 := Lib.hid (hst.out.trans (if_pos hcmp))
          have hcd : decide (htL hs q < htL hs be) = true := decide_eq_true hcmp
          clear hst hcmp hqpt hbpt
          go_wp2_with fail
          refine wp_region_held_drew (S := (LfS wr b6 b2 (o2 + k * 2) q be)) (by kernel_rfl) ?r16_hS0 (fun hHeld => ?r16_rest)
          case r16_hS0 => (try dsimp only); first | assumption | exact HS.out _ (kp0 _) | exact HS.out _ (Below.refl _ _) | exact HS.out _ (kp1 (And.left (b := _) (by assumption))) | exact HS.out _ (ext_trans (And.left (b := _) (by assumption)) (by assumption))
          refine wpAnyH_take (i := 0) (v := ?r16_vv0) (by (simp only [List.getElem?_toArray, List.getElem?_cons_succ, List.getElem?_cons_zero]; rfl)) (by kernel_rfl) (by kernel_rfl) (by kernel_rfl) (by exact fun _ _ _ h => h) (Or.inl ⟨by rfl, ?r16_hy0⟩) (by assumption) ?r16_rest0
          case r16_hy0 => intro w hSw; (try dsimp only at hSw); (go_simp <;> (with_reducible rfl))
          try simp only [Act.put, List.setIfInBounds_toArray, List.set_cons_zero, List.set_cons_succ]
          refine wpAnyH_take (i := 1) (v := ?r16_vv1) (by (simp only [List.getElem?_toArray, List.getElem?_cons_succ, List.getElem?_cons_zero]; rfl)) (by kernel_rfl) (by kernel_rfl) (by kernel_rfl) (by exact fun _ _ _ h => h) (Or.inl ⟨by rfl, ?r16_hy1⟩) (by assumption) ?r16_rest1
          case r16_hy1 => intro w hSw; (try dsimp only at hSw); (go_simp <;> (with_reducible rfl))
          try simp only [Act.put, List.setIfInBounds_toArray, List.set_cons_zero, List.set_cons_succ]
          refine wpAnyH_take (i := 2) (v := ?r16_vv2) (by (simp only [List.getElem?_toArray, List.getElem?_cons_succ, List.getElem?_cons_zero]; rfl)) (by kernel_rfl) (by kernel_rfl) (by kernel_rfl) (by exact fun _ _ _ h => h) (Or.inl ⟨by rfl, ?r16_hy2⟩) (by assumption) ?r16_rest2
          case r16_hy2 => intro w hSw; (try dsimp only at hSw); (go_simp <;> (with_reducible rfl))
          try simp only [Act.put, List.setIfInBounds_toArray, List.set_cons_zero, List.set_cons_succ]
          refine wpAnyH_take (i := 3) (v := ?r16_vv3) (by (simp only [List.getElem?_toArray, List.getElem?_cons_succ, List.getElem?_cons_zero]; rfl)) (by kernel_rfl) (by kernel_rfl) (by kernel_rfl) (by exact fun _ _ _ h => h) (Or.inl ⟨by rfl, ?r16_hy3⟩) (by assumption) ?r16_rest3
          case r16_hy3 => intro w hSw; (try dsimp only at hSw); (go_simp <;> (with_reducible rfl))
          try simp only [Act.put, List.setIfInBounds_toArray, List.set_cons_zero, List.set_cons_succ]
          refine wpAnyH_take (i := 4) (v := ?r16_vv4) (by (simp only [List.getElem?_toArray, List.getElem?_cons_succ, List.getElem?_cons_zero]; rfl)) (by kernel_rfl) (by kernel_rfl) (by kernel_rfl) (by exact fun _ _ _ h => h) (Or.inl ⟨by rfl, ?r16_hy4⟩) (by assumption) ?r16_rest4
          case r16_hy4 => intro w hSw; (try dsimp only at hSw); (go_simp <;> (with_reducible rfl))
          try simp only [Act.put, List.setIfInBounds_toArray, List.set_cons_zero, List.set_cons_succ]
          refine wpAnyH_take (i := 6) (v := ?r16_vv6) (by (simp only [List.getElem?_toArray, List.getElem?_cons_succ, List.getElem?_cons_zero]; rfl)) (by kernel_rfl) (by kernel_rfl) (by kernel_rfl) (by exact fun _ _ _ h => h) (Or.inl ⟨by rfl, ?r16_hy6⟩) (by assumption) ?r16_rest6
          case r16_hy6 => intro w hSw; (try dsimp only at hSw); (go_simp <;> (with_reducible rfl))
          try simp only [Act.put, List.setIfInBounds_toArray, List.set_cons_zero, List.set_cons_succ]
          refine wpAnyH_take (i := 7) (v := ?r16_vv7) (by (simp only [List.getElem?_toArray, List.getElem?_cons_succ, List.getElem?_cons_zero]; rfl)) (by kernel_rfl) (by kernel_rfl) (by kernel_rfl) (by exact fun _ _ _ h => h) (Or.inl ⟨by rfl, ?r16_hy7⟩) (by assumption) ?r16_rest7
          case r16_hy7 => intro w hSw; (try dsimp only at hSw); (go_simp <;> (with_reducible rfl))
          try simp only [Act.put, List.setIfInBounds_toArray, List.set_cons_zero, List.set_cons_succ]
          refine wpAnyH_ready (rs := [5]) (by kernel_rfl) (by simp) ?_
          refine AllReadyH.cons (by (simp only [List.getElem?_toArray, List.getElem?_cons_succ, List.getElem?_cons_zero]; rfl)) (fun K hK => ?_) AllReadyH.nil
          go_simp
          (go_at_call 73; with_reducible refine (q1.out _ (HG.out.ext (And.left (b := _) (by assumption)))).mono ?_; rintro e w8 ⟨rfl, hb8⟩)
          try go_wp2_with fail
          refine hK.out _ _ ?r16_hS5 (fun hHeld => ?r16_r5)
          case r16_hS5 => (try dsimp only); first | assumption | exact HS.out _ (kp0 _) | exact HS.out _ (Below.refl _ _) | exact HS.out _ (kp1 (And.left (b := _) (by assumption))) | exact HS.out _ (ext_trans (And.left (b := _) (by assumption)) (by assumption))
          clear hK K
          try simp only [Act.put, List.setIfInBounds_toArray, List.set_cons_zero, List.set_cons_succ]
          refine wpAnyH_ready (rs := [8]) (by kernel_rfl) (by simp) ?_
          refine AllReadyH.cons (by (simp only [List.getElem?_toArray, List.getElem?_cons_succ, List.getElem?_cons_zero]; rfl)) (fun K hK => ?_) AllReadyH.nil
          go_simp
          (go_at_call 73; with_reducible refine (q2.out _ (HG.out.ext (And.left (b := _) (by assumption)))).mono ?_; rintro e w9 ⟨rfl, hb9⟩)
          try go_wp2_with fail
          refine hK.out _ _ ?r16_hS8 (fun hHeld => ?r16_r8)
          case r16_hS8 => (try dsimp only); first | assumption | exact HS.out _ (kp0 _) | exact HS.out _ (Below.refl _ _) | exact HS.out _ (kp1 (And.left (b := _) (by assumption))) | exact HS.out _ (ext_trans (And.left (b := _) (by assumption)) (by assumption))
          clear hK K
          try simp only [Act.put, List.setIfInBounds_toArray, List.set_cons_zero, List.set_cons_succ]
          refine wpAnyH_take (i := 9) (v := ?r16_vv9) (by (simp only [List.getElem?_toArray, List.getElem?_cons_succ, List.getElem?_cons_zero]; rfl)) (by kernel_rfl) (by kernel_rfl) (by kernel_rfl) (by exact fun _ _ _ h => h) (Or.inl ⟨by rfl, ?r16_hy9⟩) (by assumption) ?r16_rest9
          case r16_hy9 => intro w hSw; (try dsimp only at hSw); (go_simp <;> (with_reducible rfl))
          try simp only [Act.put, List.setIfInBounds_toArray, List.set_cons_zero, List.set_cons_succ]
          refine wpAnyH_done (by kernel_rfl) ?_ _
          have HW := Lib.hid (show Below wr.heap.size wr w9 from And.left (b := _) (by assumption))
          have HSS := Lib.hid (HS.out _ HW.out)
          have HP9 := Lib.hid (HPp.out.ext HW.out)
          have HR9 := Lib.hid (HR.out.ext HW.out)
          have HB9 := Lib.hid (HBe.out.ext HW.out)
          have HO9 := Lib.hid (HO.out.ext HW.out)
          have HX9 := Lib.hid (ext_trans HBr.out HW.out)
          have e0 := HB9.out.cell 0 _ rfl
          have e1 := HB9.out.cell 1 _ rfl
          have f0 := HB9.out.frz 0
          have f1 := HB9.out.frz 1
          obtain ⟨-, d0, d1, -, -⟩ := HSS.out
          go_wp2_with fail
          go_roundw
          case rel => exact ⟨k + 1, by omega, by go_num, (HP9.out.oth 0 _ (by have := hb6g.out; omega)).oth 1 _ (by have := hb6g.out; omega), (HR9.out.oth 0 _ (by have := hb6g.out; omega)).oth 1 _ (by have := hb6g.out; omega), by rw [hs2.out]; exact (HB9.out.set 0 _).set 1 _, HO9.out.keep (fun j hj => by have h1 := HO9.out.base j hj; have h2 := hs1b.out; rw [Below.heap_setCell _ _ _ _ (show j ≠ _ by simp; omega), Below.heap_setCell _ _ _ _ (show j ≠ _ by simp; omega)]), (HX9.out.setCell (by have := hb6g.out; simp; omega) _).setCell (by have := hb6g.out; simp; omega) _⟩
          case measure => first | (simp [intOf]; done) | (simp [intOf]; omega)
        · have hs2 := Lib.hid (hst.out.trans (if_neg hcmp))
          have hcd : decide (htL hs q < htL hs be) = false := decide_eq_false hcmp
          clear hst hcmp hqpt hbpt
          go_wp2_with fail
          refine wp_region_held_drew (S := (LfS wr b6 b2 (o2 + k * 2) q be)) (by kernel_rfl) ?r17_hS0 (fun hHeld => ?r17_rest)
          case r17_hS0 => (try dsimp only); first | assumption | exact HS.out _ (kp0 _) | exact HS.out _ (Below.refl _ _) | exact HS.out _ (kp1 (And.left (b := _) (by assumption))) | exact HS.out _ (ext_trans (And.left (b := _) (by assumption)) (by assumption))
          refine wpAnyH_take (i := 0) (v := ?r17_vv0) (by (simp only [List.getElem?_toArray, List.getElem?_cons_succ, List.getElem?_cons_zero]; rfl)) (by kernel_rfl) (by kernel_rfl) (by kernel_rfl) (by exact fun _ _ _ h => h) (Or.inl ⟨by rfl, ?r17_hy0⟩) (by assumption) ?r17_rest0
          case r17_hy0 => intro w hSw; (try dsimp only at hSw); (go_simp <;> (with_reducible rfl))
          try simp only [Act.put, List.setIfInBounds_toArray, List.set_cons_zero, List.set_cons_succ]
          refine wpAnyH_take (i := 1) (v := ?r17_vv1) (by (simp only [List.getElem?_toArray, List.getElem?_cons_succ, List.getElem?_cons_zero]; rfl)) (by kernel_rfl) (by kernel_rfl) (by kernel_rfl) (by exact fun _ _ _ h => h) (Or.inl ⟨by rfl, ?r17_hy1⟩) (by assumption) ?r17_rest1
          case r17_hy1 => intro w hSw; (try dsimp only at hSw); (go_simp <;> (with_reducible rfl))
          try simp only [Act.put, List.setIfInBounds_toArray, List.set_cons_zero, List.set_cons_succ]
          refine wpAnyH_take (i := 2) (v := ?r17_vv2) (by (simp only [List.getElem?_toArray, List.getElem?_cons_succ, List.getElem?_cons_zero]; rfl)) (by kernel_rfl) (by kernel_rfl) (by kernel_rfl) (by exact fun _ _ _ h => h) (Or.inl ⟨by rfl, ?r17_hy2⟩) (by assumption) ?r17_rest2
          case r17_hy2 => intro w hSw; (try dsimp only at hSw); (go_simp <;> (with_reducible rfl))
          try simp only [Act.put, List.setIfInBounds_toArray, List.set_cons_zero, List.set_cons_succ]
          refine wpAnyH_take (i := 3) (v := ?r17_vv3) (by (simp only [List.getElem?_toArray, List.getElem?_cons_succ, List.getElem?_cons_zero]; rfl)) (by kernel_rfl) (by kernel_rfl) (by kernel_rfl) (by exact fun _ _ _ h => h) (Or.inl ⟨by rfl, ?r17_hy3⟩) (by assumption) ?r17_rest3
          case r17_hy3 => intro w hSw; (try dsimp only at hSw); (go_simp <;> (with_reducible rfl))
          try simp only [Act.put, List.setIfInBounds_toArray, List.set_cons_zero, List.set_cons_succ]
          refine wpAnyH_take (i := 4) (v := ?r17_vv4) (by (simp only [List.getElem?_toArray, List.getElem?_cons_succ, List.getElem?_cons_zero]; rfl)) (by kernel_rfl) (by kernel_rfl) (by kernel_rfl) (by exact fun _ _ _ h => h) (Or.inl ⟨by rfl, ?r17_hy4⟩) (by assumption) ?r17_rest4
          case r17_hy4 => intro w hSw; (try dsimp only at hSw); (go_simp <;> (with_reducible rfl))
          try simp only [Act.put, List.setIfInBounds_toArray, List.set_cons_zero, List.set_cons_succ]
          refine wpAnyH_take (i := 6) (v := ?r17_vv6) (by (simp only [List.getElem?_toArray, List.getElem?_cons_succ, List.getElem?_cons_zero]; rfl)) (by kernel_rfl) (by kernel_rfl) (by kernel_rfl) (by exact fun _ _ _ h => h) (Or.inl ⟨by rfl, ?r17_hy6⟩) (by assumption) ?r17_rest6
          case r17_hy6 => intro w hSw; (try dsimp only at hSw); (go_simp <;> (with_reducible rfl))
          try simp only [Act.put, List.setIfInBounds_toArray, List.set_cons_zero, List.set_cons_succ]
          refine wpAnyH_take (i := 7) (v := ?r17_vv7) (by (simp only [List.getElem?_toArray, List.getElem?_cons_succ, List.getElem?_cons_zero]; rfl)) (by kernel_rfl) (by kernel_rfl) (by kernel_rfl) (by exact fun _ _ _ h => h) (Or.inl ⟨by rfl, ?r17_hy7⟩) (by assumption) ?r17_rest7
          case r17_hy7 => intro w hSw; (try dsimp only at hSw); (go_simp <;> (with_reducible rfl))
          try simp only [Act.put, List.setIfInBounds_toArray, List.set_cons_zero, List.set_cons_succ]
          refine wpAnyH_ready (rs := [5]) (by kernel_rfl) (by simp) ?_
          refine AllReadyH.cons (by (simp only [List.getElem?_toArray, List.getElem?_cons_succ, List.getElem?_cons_zero]; rfl)) (fun K hK => ?_) AllReadyH.nil
          go_simp
          (go_at_call 73; with_reducible refine (q1.out _ (HG.out.ext (And.left (b := _) (by assumption)))).mono ?_; rintro e w8 ⟨rfl, hb8⟩)
          try go_wp2_with fail
          refine hK.out _ _ ?r17_hS5 (fun hHeld => ?r17_r5)
          case r17_hS5 => (try dsimp only); first | assumption | exact HS.out _ (kp0 _) | exact HS.out _ (Below.refl _ _) | exact HS.out _ (kp1 (And.left (b := _) (by assumption))) | exact HS.out _ (ext_trans (And.left (b := _) (by assumption)) (by assumption))
          clear hK K
          try simp only [Act.put, List.setIfInBounds_toArray, List.set_cons_zero, List.set_cons_succ]
          refine wpAnyH_ready (rs := [8]) (by kernel_rfl) (by simp) ?_
          refine AllReadyH.cons (by (simp only [List.getElem?_toArray, List.getElem?_cons_succ, List.getElem?_cons_zero]; rfl)) (fun K hK => ?_) AllReadyH.nil
          go_simp
          (go_at_call 73; with_reducible refine (q2.out _ (HG.out.ext (And.left (b := _) (by assumption)))).mono ?_; rintro e w9 ⟨rfl, hb9⟩)
          try go_wp2_with fail
          refine hK.out _ _ ?r17_hS8 (fun hHeld => ?r17_r8)
          case r17_hS8 => (try dsimp only); first | assumption | exact HS.out _ (kp0 _) | exact HS.out _ (Below.refl _ _) | exact HS.out _ (kp1 (And.left (b := _) (by assumption))) | exact HS.out _ (ext_trans (And.left (b := _) (by assumption)) (by assumption))
          clear hK K
          try simp only [Act.put, List.setIfInBounds_toArray, List.set_cons_zero, List.set_cons_succ]
          refine wpAnyH_take (i := 9) (v := ?r17_vv9) (by (simp only [List.getElem?_toArray, List.getElem?_cons_succ, List.getElem?_cons_zero]; rfl)) (by kernel_rfl) (by kernel_rfl) (by kernel_rfl) (by exact fun _ _ _ h => h) (Or.inl ⟨by rfl, ?r17_hy9⟩) (by assumption) ?r17_rest9
          case r17_hy9 => intro w hSw; (try dsimp only at hSw); (go_simp <;> (with_reducible rfl))
          try simp only [Act.put, List.setIfInBounds_toArray, List.set_cons_zero, List.set_cons_succ]
          refine wpAnyH_done (by kernel_rfl) ?_ _
          have HW := Lib.hid (show Below wr.heap.size wr w9 from And.left (b := _) (by assumption))
          go_wp2_with fail
          go_roundw
          case rel => exact ⟨k + 1, by omega, by go_num, HPp.out.ext HW.out, HR.out.ext HW.out, by rw [hs2.out]; exact HBe.out.ext HW.out, HO.out.ext HW.out, ext_trans HBr.out HW.out⟩
          case measure => first | (simp [intOf]; done) | (simp [intOf]; omega)
      · obtain rfl : k = xs.length := by omega
        have hkd : decide ((xs.length : Int) < (xs.length : Int)) = false := by rw [decide_eq_false_iff_not]; omega
        rw [← hfin.out] at HBe
        obtain ⟨B, hB0⟩ : ∃ B, B = (stepL w h hs gl p).isSome := ⟨_, rfl⟩
        rw [← hB0] at hiff
        have hBB := Lib.hid hB0
        clear hB0
        obtain ⟨L, hL⟩ : ∃ L, L = lowL w h hs p := ⟨_, rfl⟩
        rw [← hL] at HBe hval hiff
        clear hL
        have e0 := HBe.out.cell 0 _ rfl
        have e1 := HBe.out.cell 1 _ rfl
        have g0 := HPp.out.cell 0 _ rfl
        have g1 := HPp.out.cell 1 _ rfl
        have r0 := HR.out.cell 0 _ rfl
        have r1 := HR.out.cell 1 _ rfl
        have f0 := HR.out.frz 0
        have f1 := HR.out.frz 1
        have hne := Lib.hid (cell_ne_iff L p)
        have hn6 : ¬ b6 = W.heap.size + 1 := by have := hb6g.out; omega
        have hn7 : ¬ W.heap.size + 1 = b6 := by have := hb6g.out; omega
        by_cases x1 : L.x = p.x
        · have q1 : (L.x == p.x) = true := by simp [x1]
          by_cases y1 : L.y = p.y
          · have q2 : (L.y == p.y) = true := by simp [y1]
            have hBB := Lib.hid (show (stepL w h hs gl p).isSome = false from by rw [← hBB.out, hiff.out, hne.out]; simp [x1, y1])
            clear x1 y1 hne
            go_wp2_with fail
            go_region
            all_goals
              go_wp2_with fail
              have z0 := ((HR.out.set 0 (.int .i8 L.x)).set 1 (.int .i8 L.y)).drw.cell 0 _ rfl
              have z1 := ((HR.out.set 0 (.int .i8 L.x)).set 1 (.int .i8 L.y)).drw.cell 1 _ rfl
              exact bodyPost_ret (v := .tuple #[.agg #[.int .i8 L.x, .int .i8 L.y], .bool false]) (by simp [results, Try.results62, go_sem, z0, z1]) rfl ⟨⟨L, by rw [hBB.out], hval.out⟩, ((HBr.out.setCell (by simp <;> omega) _).setCell (by simp <;> omega) _).drew⟩
          · have q2 : (L.y == p.y) = false := by simp [y1]
            have hBB := Lib.hid (show (stepL w h hs gl p).isSome = true from by rw [← hBB.out, hiff.out, hne.out]; simp [x1, y1])
            clear x1 y1 hne
            go_wp2_with fail
            go_region
            all_goals
              go_wp2_with fail
              have z0 := ((HR.out.set 0 (.int .i8 L.x)).set 1 (.int .i8 L.y)).drw.cell 0 _ rfl
              have z1 := ((HR.out.set 0 (.int .i8 L.x)).set 1 (.int .i8 L.y)).drw.cell 1 _ rfl
              exact bodyPost_ret (v := .tuple #[.agg #[.int .i8 L.x, .int .i8 L.y], .bool true]) (by simp [results, Try.results62, go_sem, z0, z1]) rfl ⟨⟨L, by rw [hBB.out], hval.out⟩, ((HBr.out.setCell (by simp <;> omega) _).setCell (by simp <;> omega) _).drew⟩
        · have q1 : (L.x == p.x) = false := by simp [x1]
          have hBB := Lib.hid (show (stepL w h hs gl p).isSome = true from by rw [← hBB.out, hiff.out, hne.out]; simp [x1])
          clear x1 hne
          go_wp2_with fail
          go_region
          all_goals
            go_wp2_with fail
            have z0 := ((HR.out.set 0 (.int .i8 L.x)).set 1 (.int .i8 L.y)).drw.cell 0 _ rfl
            have z1 := ((HR.out.set 0 (.int .i8 L.x)).set 1 (.int .i8 L.y)).drw.cell 1 _ rfl
            exact bodyPost_ret (v := .tuple #[.agg #[.int .i8 L.x, .int .i8 L.y], .bool true]) (by simp [results, Try.results62, go_sem, z0, z1]) rfl ⟨⟨L, by rw [hBB.out], hval.out⟩, ((HBr.out.setCell (by simp <;> omega) _).setCell (by simp <;> omega) _).drew⟩
end Go.Proofs.Ytipcmakidifelaa
