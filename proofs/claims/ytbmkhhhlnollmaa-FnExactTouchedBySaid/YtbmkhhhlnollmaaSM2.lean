/-
What makes a crack, of the reference. Conditions: points lie on the square.
-/
import Derived.Test.YtbmkhhhlnollmaaSM1
set_option linter.unusedVariables false
set_option linter.unusedSimpArgs false
set_option maxRecDepth 100000
namespace Go.Proofs.Ytbmkhhhlnollmaa
open Go.RowKit
abbrev CbS (W0 : World) (b c : Nat) (p q : Cell) (w' : World) : Prop :=
  Below W0.heap.size W0 w' ∧ w'.cell? ⟨b, 0, none⟩ = some (.int .i8 p.x) ∧ w'.cell? ⟨b, 1, none⟩ = some (.int .i8 p.y) ∧ w'.cell? ⟨c, 0, none⟩ = some (.int .i8 q.x) ∧ w'.cell? ⟨c, 1, none⟩ = some (.int .i8 q.y)
theorem CbS.keep {W0 w1 w2 : World} {b c : Nat} {p q : Cell} (hb : b < W0.heap.size) (hc : c < W0.heap.size) (hS : CbS W0 b c p q w1) (k : Below w1.heap.size w1 w2) : CbS W0 b c p q w2 := by
  obtain ⟨h0, h1, h2, h3, h4⟩ := hS
  have q : ∀ o, w2.cell? ⟨b, o, none⟩ = w1.cell? ⟨b, o, none⟩ := fun o => k.cell (p := ⟨b, o, none⟩) (Nat.lt_of_lt_of_le hb h0.size)
  have r : ∀ o, w2.cell? ⟨c, o, none⟩ = w1.cell? ⟨c, o, none⟩ := fun o => k.cell (p := ⟨c, o, none⟩) (Nat.lt_of_lt_of_le hc h0.size)
  exact ⟨ext_trans h0 k, (q _).trans h1, (q _).trans h2, (r _).trans h3, (r _).trans h4⟩
set_option maxHeartbeats 1000000 in
theorem between_calls (w h : Int) (sl : List Slab) (hl : ∀ t ∈ sl, liesB w h t = true) (hw : w ≤ 12 ∧ h ≤ 12) (a b : Cell) (hx : 0 ≤ a.x ∧ a.x ≤ w) (hy : 0 ≤ a.y ∧ a.y ≤ h) (gg : Nat) (W : World) (hg : Bk W gg 85 (gcells (gridL sl))) :
    Calls Try.prog 119 #[.pointer (some ⟨gg, 0, none⟩), a.v, b.v] W fun e w' => e = .returned (.bool (sidesAt sl a b).2.2) ∧ Below W.heap.size W w' := by
  obtain ⟨R, hR0⟩ : ∃ R, R = (sidesAt sl a b).2.2 := ⟨_, rfl⟩
  rw [← hR0]
  have hR := Lib.hid hR0
  clear hR0
  have HB := Lib.hid (ext_alloc ((Below.refl W.heap.size W).alloc (Nat.le_refl _) (.cells #[.int .i8 a.x, .int .i8 a.y] 36)) (.cells #[.int .i8 b.x, .int .i8 b.y] 36))
  have K0 := Lib.hid ((Bk.new W 36 #[.int .i8 a.x, .int .i8 a.y] W.heap.size rfl).alloc (.cells #[.int .i8 b.x, .int .i8 b.y] 36))
  have K1 := Lib.hid (Bk.new (W.alloc (.cells #[.int .i8 a.x, .int .i8 a.y] 36)) 36 #[.int .i8 b.x, .int .i8 b.y] (W.heap.size + 1) (by simp))
  have HG := Lib.hid ((hg.alloc (.cells #[.int .i8 a.x, .int .i8 a.y] 36)).alloc (.cells #[.int .i8 b.x, .int .i8 b.y] 36))
  have HL := Lib.hid hl
  clear hg hl
  unfold Cell.v
  go_enter Try.func119, Try.ntmps119
  go_wp2_with fail
  generalize (W.alloc (.cells #[.int .i8 a.x, .int .i8 a.y] 36)).alloc (.cells #[.int .i8 b.x, .int .i8 b.y] 36) = W1 at *
  go_loopw [7] (fun i wr => ∃ k : Nat, k ≤ 4 ∧ i = .int .i64 k ∧ (∀ j : Nat, j < k → aheadC a j ≠ b) ∧ Below W1.heap.size W1 wr) (fun i _ => 4 - (intOf i).toNat)
  case atStart => exact ⟨0, by omega, rfl, fun j hj => absurd hj (by omega), Below.refl _ _⟩
  case round =>
    obtain ⟨k, hk, rfl, hall, hb⟩ := hrel
    obtain ⟨wo, rfl⟩ : ∃ wo : World, wo = wr := ⟨_, rfl⟩
    have HA := Lib.hid hall
    have HBo := Lib.hid (HB.out.trans (hb.mono HB.out.size))
    have H1 := Lib.hid hb
    have k0 := K0.out.ext hb
    have k1 := K1.out.ext hb
    have hl1 := k0.lt
    have hl2 := k1.lt
    have HGo := Lib.hid (HG.out.ext hb)
    clear hall
    by_cases hlt : k < 4
    · have hk4 : decide ((k : Int) < 4) = true := by rw [decide_eq_true_eq]; omega
      have qn := Lib.hid (show ∀ W', Calls Try.prog 123 #[.agg #[.int .i8 a.x, .int .i8 a.y], .int .i64 (k : Int)] W' (fun e w' => e = .returned (.agg #[.int .i8 (aheadC a k).x, .int .i8 (aheadC a k).y]) ∧ Below W'.heap.size W' w') from fun W' => next_calls a k ⟨hx.1, by omega⟩ ⟨hy.1, by omega⟩ W')
      have hed := Lib.hid (edge_sides sl a k)
      have qe := Lib.hid (show ∀ W', Below wo.heap.size wo W' → Calls Try.prog 59 #[.pointer (some ⟨gg, 0, none⟩), .agg #[.int .i8 a.x, .int .i8 a.y], .int .i64 (k : Int)] W' (fun e w' => e = .returned (.bool (edgeOf sl a.x a.y k)) ∧ Below W'.heap.size W' w') from fun W' hW' => sEdge_calls sl gg W' w h hw HL.out (HGo.out.ext hW') a ⟨hx.1, by omega⟩ ⟨hy.1, by omega⟩ k)
      have hnx := Lib.hid (show ∀ n, n = aheadC a k → n ≠ b → ∀ j : Nat, j < k + 1 → aheadC a j ≠ b from fun n hn hne j hj => by
        rcases Nat.lt_succ_iff_lt_or_eq.1 hj with h1 | rfl
        · exact HA.out j h1
        · rw [← hn]; exact hne)
      obtain ⟨n, hn0⟩ : ∃ n, n = aheadC a k := ⟨_, rfl⟩
      have hn := Lib.hid hn0
      rw [← hn0] at qn hed
      have hS : CbS wo W.heap.size (W.heap.size + 1) a b wo := ⟨Below.refl _ _, k0.cell 0 _ rfl, k0.cell 1 _ rfl, k1.cell 0 _ rfl, k1.cell 1 _ rfl⟩
      clear k0 k1 hb hn0
      by_cases e1 : n.x = b.x
      · by_cases e2 : n.y = b.y
        · have hE := Lib.hid (show R = edgeOf sl a.x a.y k from by
            rw [hR.out, ← hed.out]
            have : n = b := by cases n; cases b; simp_all
            rw [this])
          have q1 : (n.x == b.x) = true := by simp [e1]
          have q2 : (n.y == b.y) = true := by simp [e2]
          clear e1 e2
          go_wp2_with fail
          refine wp_region_held_drew (S := (CbS wo W.heap.size (W.heap.size + 1) a b)) (by kernel_rfl) ?r34_hS0 (fun hHeld => ?r34_rest)
          case r34_hS0 => (try dsimp only); first | assumption | exact CbS.keep hl1 hl2 (by assumption) ((Below.refl _ _).drew) | exact CbS.keep hl1 hl2 (by assumption) (by assumption)
          refine wpAnyH_take (i := 0) (v := ?r34_vv0) (by (simp only [List.getElem?_toArray, List.getElem?_cons_succ, List.getElem?_cons_zero]; rfl)) (by kernel_rfl) (by kernel_rfl) (by kernel_rfl) (by exact fun _ _ _ h => h) (Or.inl ⟨by rfl, ?r34_hy0⟩) (by assumption) ?r34_rest0
          case r34_hy0 => intro w hSw; (try dsimp only at hSw); (go_simp <;> (with_reducible rfl))
          try simp only [Act.put, List.setIfInBounds_toArray, List.set_cons_zero, List.set_cons_succ]
          refine wpAnyH_take (i := 1) (v := ?r34_vv1) (by (simp only [List.getElem?_toArray, List.getElem?_cons_succ, List.getElem?_cons_zero]; rfl)) (by kernel_rfl) (by kernel_rfl) (by kernel_rfl) (by exact fun _ _ _ h => h) (Or.inl ⟨by rfl, ?r34_hy1⟩) (by assumption) ?r34_rest1
          case r34_hy1 => intro w hSw; (try dsimp only at hSw); (go_simp <;> (with_reducible rfl))
          try simp only [Act.put, List.setIfInBounds_toArray, List.set_cons_zero, List.set_cons_succ]
          refine wpAnyH_take (i := 3) (v := ?r34_vv3) (by (simp only [List.getElem?_toArray, List.getElem?_cons_succ, List.getElem?_cons_zero]; rfl)) (by kernel_rfl) (by kernel_rfl) (by kernel_rfl) (by exact fun _ _ _ h => h) (Or.inl ⟨by rfl, ?r34_hy3⟩) (by assumption) ?r34_rest3
          case r34_hy3 => intro w hSw; (try dsimp only at hSw); (go_simp <;> (with_reducible rfl))
          try simp only [Act.put, List.setIfInBounds_toArray, List.set_cons_zero, List.set_cons_succ]
          refine wpAnyH_ready (rs := [2]) (by kernel_rfl) (by simp) ?_
          refine AllReadyH.cons (by (simp only [List.getElem?_toArray, List.getElem?_cons_succ, List.getElem?_cons_zero]; rfl)) (fun K hK => ?_) AllReadyH.nil
          go_simp
          (go_at_call 123; with_reducible refine (qn.out _).mono ?_; rintro e w9 ⟨rfl, hb9⟩)
          try go_wp2_with fail
          refine hK.out _ _ ?r34_hS2 (fun hHeld => ?r34_r2)
          case r34_hS2 => (try dsimp only); first | assumption | exact CbS.keep hl1 hl2 (by assumption) ((Below.refl _ _).drew) | exact CbS.keep hl1 hl2 (by assumption) (by assumption)
          clear hK K
          try simp only [Act.put, List.setIfInBounds_toArray, List.set_cons_zero, List.set_cons_succ]
          refine wpAnyH_take (i := 4) (v := ?r34_vv4) (by (simp only [List.getElem?_toArray, List.getElem?_cons_succ, List.getElem?_cons_zero]; rfl)) (by kernel_rfl) (by kernel_rfl) (by kernel_rfl) (by exact fun _ _ _ h => h) (Or.inl ⟨by rfl, ?r34_hy4⟩) (by assumption) ?r34_rest4
          case r34_hy4 => intro w hSw; (try dsimp only at hSw); (go_simp <;> (with_reducible rfl))
          try simp only [Act.put, List.setIfInBounds_toArray, List.set_cons_zero, List.set_cons_succ]
          refine wpAnyH_done (by kernel_rfl) ?_ _
          have hS9 : CbS wo W.heap.size (W.heap.size + 1) a b w9 := by assumption
          obtain ⟨hB9, c0, c1, c2, c3⟩ := hS9
          have HB9 := Lib.hid hB9
          repeat clear hHeld
          clear hB9
          go_wp2_with fail
          refine (qe.out _ HB9.out).mono ?_
          rintro e w10 ⟨rfl, hb10⟩
          go_wp2_with fail
          go_ret
          exact ⟨ret_bool hE.out.symm, ext_trans (ext_trans HBo.out HB9.out) hb10⟩
        · have hE := Lib.hid (hnx.out n hn.out (fun e => e2 (by rw [e])))
          have q1 : (n.x == b.x) = true := by simp [e1]
          have q2 : (n.y == b.y) = false := by simp [e2]
          clear e1 e2
          go_wp2_with fail
          refine wp_region_held_drew (S := (CbS wo W.heap.size (W.heap.size + 1) a b)) (by kernel_rfl) ?r35_hS0 (fun hHeld => ?r35_rest)
          case r35_hS0 => (try dsimp only); first | assumption | exact CbS.keep hl1 hl2 (by assumption) ((Below.refl _ _).drew) | exact CbS.keep hl1 hl2 (by assumption) (by assumption)
          refine wpAnyH_take (i := 0) (v := ?r35_vv0) (by (simp only [List.getElem?_toArray, List.getElem?_cons_succ, List.getElem?_cons_zero]; rfl)) (by kernel_rfl) (by kernel_rfl) (by kernel_rfl) (by exact fun _ _ _ h => h) (Or.inl ⟨by rfl, ?r35_hy0⟩) (by assumption) ?r35_rest0
          case r35_hy0 => intro w hSw; (try dsimp only at hSw); (go_simp <;> (with_reducible rfl))
          try simp only [Act.put, List.setIfInBounds_toArray, List.set_cons_zero, List.set_cons_succ]
          refine wpAnyH_take (i := 1) (v := ?r35_vv1) (by (simp only [List.getElem?_toArray, List.getElem?_cons_succ, List.getElem?_cons_zero]; rfl)) (by kernel_rfl) (by kernel_rfl) (by kernel_rfl) (by exact fun _ _ _ h => h) (Or.inl ⟨by rfl, ?r35_hy1⟩) (by assumption) ?r35_rest1
          case r35_hy1 => intro w hSw; (try dsimp only at hSw); (go_simp <;> (with_reducible rfl))
          try simp only [Act.put, List.setIfInBounds_toArray, List.set_cons_zero, List.set_cons_succ]
          refine wpAnyH_take (i := 3) (v := ?r35_vv3) (by (simp only [List.getElem?_toArray, List.getElem?_cons_succ, List.getElem?_cons_zero]; rfl)) (by kernel_rfl) (by kernel_rfl) (by kernel_rfl) (by exact fun _ _ _ h => h) (Or.inl ⟨by rfl, ?r35_hy3⟩) (by assumption) ?r35_rest3
          case r35_hy3 => intro w hSw; (try dsimp only at hSw); (go_simp <;> (with_reducible rfl))
          try simp only [Act.put, List.setIfInBounds_toArray, List.set_cons_zero, List.set_cons_succ]
          refine wpAnyH_ready (rs := [2]) (by kernel_rfl) (by simp) ?_
          refine AllReadyH.cons (by (simp only [List.getElem?_toArray, List.getElem?_cons_succ, List.getElem?_cons_zero]; rfl)) (fun K hK => ?_) AllReadyH.nil
          go_simp
          (go_at_call 123; with_reducible refine (qn.out _).mono ?_; rintro e w9 ⟨rfl, hb9⟩)
          try go_wp2_with fail
          refine hK.out _ _ ?r35_hS2 (fun hHeld => ?r35_r2)
          case r35_hS2 => (try dsimp only); first | assumption | exact CbS.keep hl1 hl2 (by assumption) ((Below.refl _ _).drew) | exact CbS.keep hl1 hl2 (by assumption) (by assumption)
          clear hK K
          try simp only [Act.put, List.setIfInBounds_toArray, List.set_cons_zero, List.set_cons_succ]
          refine wpAnyH_take (i := 4) (v := ?r35_vv4) (by (simp only [List.getElem?_toArray, List.getElem?_cons_succ, List.getElem?_cons_zero]; rfl)) (by kernel_rfl) (by kernel_rfl) (by kernel_rfl) (by exact fun _ _ _ h => h) (Or.inl ⟨by rfl, ?r35_hy4⟩) (by assumption) ?r35_rest4
          case r35_hy4 => intro w hSw; (try dsimp only at hSw); (go_simp <;> (with_reducible rfl))
          try simp only [Act.put, List.setIfInBounds_toArray, List.set_cons_zero, List.set_cons_succ]
          refine wpAnyH_done (by kernel_rfl) ?_ _
          have HB9 := Lib.hid (show Below wo.heap.size wo _ from And.left (b := _) (by assumption))
          repeat clear hHeld
          go_wp2_with fail
          go_roundw
          case rel => exact ⟨k + 1, by omega, by go_num, hE.out, ext_trans H1.out HB9.out⟩
          case measure => first | (simp [intOf]; done) | (simp [intOf]; omega)
      · have hE := Lib.hid (hnx.out n hn.out (fun e => e1 (by rw [e])))
        have q1 : (n.x == b.x) = false := by simp [e1]
        clear e1
        go_wp2_with fail
        refine wp_region_held_drew (S := (CbS wo W.heap.size (W.heap.size + 1) a b)) (by kernel_rfl) ?r36_hS0 (fun hHeld => ?r36_rest)
        case r36_hS0 => (try dsimp only); first | assumption | exact CbS.keep hl1 hl2 (by assumption) ((Below.refl _ _).drew) | exact CbS.keep hl1 hl2 (by assumption) (by assumption)
        refine wpAnyH_take (i := 0) (v := ?r36_vv0) (by (simp only [List.getElem?_toArray, List.getElem?_cons_succ, List.getElem?_cons_zero]; rfl)) (by kernel_rfl) (by kernel_rfl) (by kernel_rfl) (by exact fun _ _ _ h => h) (Or.inl ⟨by rfl, ?r36_hy0⟩) (by assumption) ?r36_rest0
        case r36_hy0 => intro w hSw; (try dsimp only at hSw); (go_simp <;> (with_reducible rfl))
        try simp only [Act.put, List.setIfInBounds_toArray, List.set_cons_zero, List.set_cons_succ]
        refine wpAnyH_take (i := 1) (v := ?r36_vv1) (by (simp only [List.getElem?_toArray, List.getElem?_cons_succ, List.getElem?_cons_zero]; rfl)) (by kernel_rfl) (by kernel_rfl) (by kernel_rfl) (by exact fun _ _ _ h => h) (Or.inl ⟨by rfl, ?r36_hy1⟩) (by assumption) ?r36_rest1
        case r36_hy1 => intro w hSw; (try dsimp only at hSw); (go_simp <;> (with_reducible rfl))
        try simp only [Act.put, List.setIfInBounds_toArray, List.set_cons_zero, List.set_cons_succ]
        refine wpAnyH_take (i := 3) (v := ?r36_vv3) (by (simp only [List.getElem?_toArray, List.getElem?_cons_succ, List.getElem?_cons_zero]; rfl)) (by kernel_rfl) (by kernel_rfl) (by kernel_rfl) (by exact fun _ _ _ h => h) (Or.inl ⟨by rfl, ?r36_hy3⟩) (by assumption) ?r36_rest3
        case r36_hy3 => intro w hSw; (try dsimp only at hSw); (go_simp <;> (with_reducible rfl))
        try simp only [Act.put, List.setIfInBounds_toArray, List.set_cons_zero, List.set_cons_succ]
        refine wpAnyH_ready (rs := [2]) (by kernel_rfl) (by simp) ?_
        refine AllReadyH.cons (by (simp only [List.getElem?_toArray, List.getElem?_cons_succ, List.getElem?_cons_zero]; rfl)) (fun K hK => ?_) AllReadyH.nil
        go_simp
        (go_at_call 123; with_reducible refine (qn.out _).mono ?_; rintro e w9 ⟨rfl, hb9⟩)
        try go_wp2_with fail
        refine hK.out _ _ ?r36_hS2 (fun hHeld => ?r36_r2)
        case r36_hS2 => (try dsimp only); first | assumption | exact CbS.keep hl1 hl2 (by assumption) ((Below.refl _ _).drew) | exact CbS.keep hl1 hl2 (by assumption) (by assumption)
        clear hK K
        try simp only [Act.put, List.setIfInBounds_toArray, List.set_cons_zero, List.set_cons_succ]
        refine wpAnyH_take (i := 4) (v := ?r36_vv4) (by (simp only [List.getElem?_toArray, List.getElem?_cons_succ, List.getElem?_cons_zero]; rfl)) (by kernel_rfl) (by kernel_rfl) (by kernel_rfl) (by exact fun _ _ _ h => h) (Or.inl ⟨by rfl, ?r36_hy4⟩) (by assumption) ?r36_rest4
        case r36_hy4 => intro w hSw; (try dsimp only at hSw); (go_simp <;> (with_reducible rfl))
        try simp only [Act.put, List.setIfInBounds_toArray, List.set_cons_zero, List.set_cons_succ]
        refine wpAnyH_done (by kernel_rfl) ?_ _
        have HB9 := Lib.hid (show Below wo.heap.size wo _ from And.left (b := _) (by assumption))
        repeat clear hHeld
        go_wp2_with fail
        go_roundw
        case rel => exact ⟨k + 1, by omega, by go_num, hE.out, ext_trans H1.out HB9.out⟩
        case measure => first | (simp [intOf]; done) | (simp [intOf]; omega)
    · obtain rfl : k = 4 := by omega
      have hE := Lib.hid (show R = false from hR.out.trans (sides_far sl a b (HA.out 0 (by omega)) (HA.out 1 (by omega)) (HA.out 2 (by omega)) (HA.out 3 (by omega))))
      go_wp2_with fail
      go_ret
      exact ⟨ret_bool hE.out.symm, HBo.out⟩
set_option maxHeartbeats 1000000 in
theorem along_calls (w h : Int) (sl : List Slab) (hl : ∀ t ∈ sl, liesB w h t = true) (hw : w ≤ 12 ∧ h ≤ 12) (xs : List Cell) (hx : ∀ x ∈ xs, (0 ≤ x.x ∧ x.x ≤ w) ∧ (0 ≤ x.y ∧ x.y ≤ h)) (v : Value) (gg : Nat) (W : World) (hg : Bk W gg 85 (gcells (gridL sl))) (hs : Sl W W.heap.size Cell.c 2 v xs) :
    Calls Try.prog 65 #[.pointer (some ⟨gg, 0, none⟩), v] W fun e w' => e = .returned (.bool (crkB sl xs)) ∧ Below W.heap.size W w' := by
  obtain ⟨A2, cap2, rfl, hl2, hm2, hcell⟩ := hs.cell
  have HX := Lib.hid hx
  have HL := Lib.hid hl
  have HG := Lib.hid hg
  clear hs hg hl hx
  go_enter Try.func65, Try.ntmps65
  go_wp2_with fail
  go_loopw [5] (fun i wr => ∃ k : Nat, k ≤ xs.length - 1 ∧ i = .int .i64 ((k : Int) + 1) ∧ crkN sl xs k = true ∧ Below W.heap.size W wr) (fun i _ => xs.length - (intOf i).toNat)
  case atStart => exact ⟨0, by omega, rfl, rfl, Below.refl _ _⟩
  case round =>
    obtain ⟨k, hk, rfl, hall, hb⟩ := hrel
    obtain ⟨wo, rfl⟩ : ∃ wo : World, wo = wr := ⟨_, rfl⟩
    have HA := Lib.hid hall
    have HBo := Lib.hid hb
    clear hall
    by_cases hlt : k + 1 < xs.length
    · obtain ⟨b, o, rfl, hbb, h0, h1⟩ := hcell k (by omega)
      obtain ⟨b2, o2, he, hbb2, g0, g1⟩ := hcell (k + 1) hlt
      obtain ⟨rfl, rfl⟩ : b = b2 ∧ o = o2 := by injection he with he; injection he with e1 e2; exact ⟨e1, e2⟩
      have h0 := (hb.cell (p := ⟨b, _, none⟩) hbb).trans h0
      have h1 := (hb.cell (p := ⟨b, _, none⟩) hbb).trans h1
      have g0 := (hb.cell (p := ⟨b, _, none⟩) hbb).trans g0
      have g1 := (hb.cell (p := ⟨b, _, none⟩) hbb).trans g1
      have hk8 : (0 : Int) ≤ (k : Int) := by omega
      have wk := wrapIn (k : Int) (by omega) (by omega)
      have hk9 : (k : Int) < (xs.length : Int) := by omega
      have hk10 : (0 : Int) ≤ (k : Int) + 1 := by omega
      have hk11 : (k : Int) + 1 < (xs.length : Int) := by omega
      have hbo := Lib.hid (Nat.lt_of_lt_of_le hbb hb.size)
      have hst := Lib.hid (crkN_succ sl xs k hlt)
      have HGo := Lib.hid (HG.out.ext hb)
      have qj := Lib.hid (show ∀ W', Below wo.heap.size wo W' → Calls Try.prog 119 #[.pointer (some ⟨gg, 0, none⟩), .agg #[.int .i8 xs[k].x, .int .i8 xs[k].y], .agg #[.int .i8 xs[k + 1].x, .int .i8 xs[k + 1].y]] W' (fun e w' => e = .returned (.bool (sidesAt sl xs[k] xs[k + 1]).2.2) ∧ Below W'.heap.size W' w') from fun W' hW' => between_calls w h sl HL.out hw xs[k] xs[k + 1] (HX.out _ (List.getElem_mem _)).1 (HX.out _ (List.getElem_mem _)).2 gg W' (HGo.out.ext hW'))
      generalize xs[k] = p at *
      generalize xs[k + 1] = q at *
      have hS : CkS wo b (o + k * 2) (o + (k + 1) * 2) p q wo := ⟨Below.refl _ _, h0, h1, g0, g1⟩
      have hbo2 := hbo.out
      clear hcell hb h0 h1 g0 g1 he hbb hbb2
      generalize (sidesAt sl p q).2.2 = E at *
      cases E
      · have hE := Lib.hid (show crkB sl xs = false from crkN_false sl xs (k + 1) _ (by omega) (by rw [hst.out]; simp))
        clear hst
        go_wp2_with fail
        refine wp_region_held_drew (S := (CkS wo b (o + k * 2) (o + (k + 1) * 2) p q)) (by kernel_rfl) ?r37_hS0 (fun hHeld => ?r37_rest)
        case r37_hS0 => (try dsimp only); first | assumption | exact CkS.keep hbo2 (by assumption) ((Below.refl _ _).drew) | exact CkS.keep hbo2 (by assumption) (by assumption)
        refine wpAnyH_take (i := 0) (v := ?r37_vv0) (by (simp only [List.getElem?_toArray, List.getElem?_cons_succ, List.getElem?_cons_zero]; rfl)) (by kernel_rfl) (by kernel_rfl) (by kernel_rfl) (by exact fun _ _ _ h => h) (Or.inl ⟨by rfl, ?r37_hy0⟩) (by assumption) ?r37_rest0
        case r37_hy0 => intro w hSw; (try dsimp only at hSw); (go_simp <;> (with_reducible rfl))
        try simp only [Act.put, List.setIfInBounds_toArray, List.set_cons_zero, List.set_cons_succ]
        refine wpAnyH_take (i := 1) (v := ?r37_vv1) (by (simp only [List.getElem?_toArray, List.getElem?_cons_succ, List.getElem?_cons_zero]; rfl)) (by kernel_rfl) (by kernel_rfl) (by kernel_rfl) (by exact fun _ _ _ h => h) (Or.inl ⟨by rfl, ?r37_hy1⟩) (by assumption) ?r37_rest1
        case r37_hy1 => intro w hSw; (try dsimp only at hSw); (go_simp <;> (with_reducible rfl))
        try simp only [Act.put, List.setIfInBounds_toArray, List.set_cons_zero, List.set_cons_succ]
        refine wpAnyH_take (i := 2) (v := ?r37_vv2) (by (simp only [List.getElem?_toArray, List.getElem?_cons_succ, List.getElem?_cons_zero]; rfl)) (by kernel_rfl) (by kernel_rfl) (by kernel_rfl) (by exact fun _ _ _ h => h) (Or.inl ⟨by rfl, ?r37_hy2⟩) (by assumption) ?r37_rest2
        case r37_hy2 => intro w hSw; (try dsimp only at hSw); (go_simp <;> (with_reducible rfl))
        try simp only [Act.put, List.setIfInBounds_toArray, List.set_cons_zero, List.set_cons_succ]
        refine wpAnyH_take (i := 3) (v := ?r37_vv3) (by (simp only [List.getElem?_toArray, List.getElem?_cons_succ, List.getElem?_cons_zero]; rfl)) (by kernel_rfl) (by kernel_rfl) (by kernel_rfl) (by exact fun _ _ _ h => h) (Or.inl ⟨by rfl, ?r37_hy3⟩) (by assumption) ?r37_rest3
        case r37_hy3 => intro w hSw; (try dsimp only at hSw); (go_simp <;> (with_reducible rfl))
        try simp only [Act.put, List.setIfInBounds_toArray, List.set_cons_zero, List.set_cons_succ]
        refine wpAnyH_take (i := 4) (v := ?r37_vv4) (by (simp only [List.getElem?_toArray, List.getElem?_cons_succ, List.getElem?_cons_zero]; rfl)) (by kernel_rfl) (by kernel_rfl) (by kernel_rfl) (by exact fun _ _ _ h => h) (Or.inl ⟨by rfl, ?r37_hy4⟩) (by assumption) ?r37_rest4
        case r37_hy4 => intro w hSw; (try dsimp only at hSw); (go_simp <;> (with_reducible rfl))
        try simp only [Act.put, List.setIfInBounds_toArray, List.set_cons_zero, List.set_cons_succ]
        refine wpAnyH_take (i := 5) (v := ?r37_vv5) (by (simp only [List.getElem?_toArray, List.getElem?_cons_succ, List.getElem?_cons_zero]; rfl)) (by kernel_rfl) (by kernel_rfl) (by kernel_rfl) (by exact fun _ _ _ h => h) (Or.inl ⟨by rfl, ?r37_hy5⟩) (by assumption) ?r37_rest5
        case r37_hy5 => intro w hSw; (try dsimp only at hSw); (go_simp <;> (with_reducible rfl))
        try simp only [Act.put, List.setIfInBounds_toArray, List.set_cons_zero, List.set_cons_succ]
        refine wpAnyH_take (i := 6) (v := ?r37_vv6) (by (simp only [List.getElem?_toArray, List.getElem?_cons_succ, List.getElem?_cons_zero]; rfl)) (by kernel_rfl) (by kernel_rfl) (by kernel_rfl) (by exact fun _ _ _ h => h) (Or.inl ⟨by rfl, ?r37_hy6⟩) (by assumption) ?r37_rest6
        case r37_hy6 => intro w hSw; (try dsimp only at hSw); (go_simp <;> (with_reducible rfl))
        try simp only [Act.put, List.setIfInBounds_toArray, List.set_cons_zero, List.set_cons_succ]
        refine wpAnyH_take (i := 7) (v := ?r37_vv7) (by (simp only [List.getElem?_toArray, List.getElem?_cons_succ, List.getElem?_cons_zero]; rfl)) (by kernel_rfl) (by kernel_rfl) (by kernel_rfl) (by exact fun _ _ _ h => h) (Or.inl ⟨by rfl, ?r37_hy7⟩) (by assumption) ?r37_rest7
        case r37_hy7 => intro w hSw; (try dsimp only at hSw); (go_simp <;> (with_reducible rfl))
        try simp only [Act.put, List.setIfInBounds_toArray, List.set_cons_zero, List.set_cons_succ]
        refine wpAnyH_take (i := 8) (v := ?r37_vv8) (by (simp only [List.getElem?_toArray, List.getElem?_cons_succ, List.getElem?_cons_zero]; rfl)) (by kernel_rfl) (by kernel_rfl) (by kernel_rfl) (by exact fun _ _ _ h => h) (Or.inl ⟨by rfl, ?r37_hy8⟩) (by assumption) ?r37_rest8
        case r37_hy8 => intro w hSw; (try dsimp only at hSw); (go_simp <;> (with_reducible rfl))
        try simp only [Act.put, List.setIfInBounds_toArray, List.set_cons_zero, List.set_cons_succ]
        refine wpAnyH_take (i := 9) (v := ?r37_vv9) (by (simp only [List.getElem?_toArray, List.getElem?_cons_succ, List.getElem?_cons_zero]; rfl)) (by kernel_rfl) (by kernel_rfl) (by kernel_rfl) (by exact fun _ _ _ h => h) (Or.inl ⟨by rfl, ?r37_hy9⟩) (by assumption) ?r37_rest9
        case r37_hy9 => intro w hSw; (try dsimp only at hSw); (go_simp <;> (with_reducible rfl))
        try simp only [Act.put, List.setIfInBounds_toArray, List.set_cons_zero, List.set_cons_succ]
        refine wpAnyH_ready (rs := [10]) (by kernel_rfl) (by simp) ?_
        refine AllReadyH.cons (by (simp only [List.getElem?_toArray, List.getElem?_cons_succ, List.getElem?_cons_zero]; rfl)) (fun K hK => ?_) AllReadyH.nil
        go_simp
        (go_at_call 119; with_reducible refine (qj.out _ (And.left (b := _) (by assumption))).mono ?_; rintro e w9 ⟨rfl, hb9⟩)
        try go_wp2_with fail
        refine hK.out _ _ ?r37_hS10 (fun hHeld => ?r37_r10)
        case r37_hS10 => (try dsimp only); first | assumption | exact CkS.keep hbo2 (by assumption) ((Below.refl _ _).drew) | exact CkS.keep hbo2 (by assumption) (by assumption)
        clear hK K
        try simp only [Act.put, List.setIfInBounds_toArray, List.set_cons_zero, List.set_cons_succ]
        refine wpAnyH_take (i := 11) (v := ?r37_vv11) (by (simp only [List.getElem?_toArray, List.getElem?_cons_succ, List.getElem?_cons_zero]; rfl)) (by kernel_rfl) (by kernel_rfl) (by kernel_rfl) (by exact fun _ _ _ h => h) (Or.inl ⟨by rfl, ?r37_hy11⟩) (by assumption) ?r37_rest11
        case r37_hy11 => intro w hSw; (try dsimp only at hSw); (go_simp <;> (with_reducible rfl))
        try simp only [Act.put, List.setIfInBounds_toArray, List.set_cons_zero, List.set_cons_succ]
        refine wpAnyH_done (by kernel_rfl) ?_ _
        have HB9 := Lib.hid (show Below wo.heap.size wo _ from And.left (b := _) (by assumption))
        repeat clear hHeld
        go_wp2_with fail
        go_ret
        exact ⟨ret_bool hE.out.symm, ext_trans HBo.out HB9.out⟩
      · have hE := Lib.hid (show crkN sl xs (k + 1) = true from by rw [hst.out, HA.out]; rfl)
        clear hst
        go_wp2_with fail
        refine wp_region_held_drew (S := (CkS wo b (o + k * 2) (o + (k + 1) * 2) p q)) (by kernel_rfl) ?r38_hS0 (fun hHeld => ?r38_rest)
        case r38_hS0 => (try dsimp only); first | assumption | exact CkS.keep hbo2 (by assumption) ((Below.refl _ _).drew) | exact CkS.keep hbo2 (by assumption) (by assumption)
        refine wpAnyH_take (i := 0) (v := ?r38_vv0) (by (simp only [List.getElem?_toArray, List.getElem?_cons_succ, List.getElem?_cons_zero]; rfl)) (by kernel_rfl) (by kernel_rfl) (by kernel_rfl) (by exact fun _ _ _ h => h) (Or.inl ⟨by rfl, ?r38_hy0⟩) (by assumption) ?r38_rest0
        case r38_hy0 => intro w hSw; (try dsimp only at hSw); (go_simp <;> (with_reducible rfl))
        try simp only [Act.put, List.setIfInBounds_toArray, List.set_cons_zero, List.set_cons_succ]
        refine wpAnyH_take (i := 1) (v := ?r38_vv1) (by (simp only [List.getElem?_toArray, List.getElem?_cons_succ, List.getElem?_cons_zero]; rfl)) (by kernel_rfl) (by kernel_rfl) (by kernel_rfl) (by exact fun _ _ _ h => h) (Or.inl ⟨by rfl, ?r38_hy1⟩) (by assumption) ?r38_rest1
        case r38_hy1 => intro w hSw; (try dsimp only at hSw); (go_simp <;> (with_reducible rfl))
        try simp only [Act.put, List.setIfInBounds_toArray, List.set_cons_zero, List.set_cons_succ]
        refine wpAnyH_take (i := 2) (v := ?r38_vv2) (by (simp only [List.getElem?_toArray, List.getElem?_cons_succ, List.getElem?_cons_zero]; rfl)) (by kernel_rfl) (by kernel_rfl) (by kernel_rfl) (by exact fun _ _ _ h => h) (Or.inl ⟨by rfl, ?r38_hy2⟩) (by assumption) ?r38_rest2
        case r38_hy2 => intro w hSw; (try dsimp only at hSw); (go_simp <;> (with_reducible rfl))
        try simp only [Act.put, List.setIfInBounds_toArray, List.set_cons_zero, List.set_cons_succ]
        refine wpAnyH_take (i := 3) (v := ?r38_vv3) (by (simp only [List.getElem?_toArray, List.getElem?_cons_succ, List.getElem?_cons_zero]; rfl)) (by kernel_rfl) (by kernel_rfl) (by kernel_rfl) (by exact fun _ _ _ h => h) (Or.inl ⟨by rfl, ?r38_hy3⟩) (by assumption) ?r38_rest3
        case r38_hy3 => intro w hSw; (try dsimp only at hSw); (go_simp <;> (with_reducible rfl))
        try simp only [Act.put, List.setIfInBounds_toArray, List.set_cons_zero, List.set_cons_succ]
        refine wpAnyH_take (i := 4) (v := ?r38_vv4) (by (simp only [List.getElem?_toArray, List.getElem?_cons_succ, List.getElem?_cons_zero]; rfl)) (by kernel_rfl) (by kernel_rfl) (by kernel_rfl) (by exact fun _ _ _ h => h) (Or.inl ⟨by rfl, ?r38_hy4⟩) (by assumption) ?r38_rest4
        case r38_hy4 => intro w hSw; (try dsimp only at hSw); (go_simp <;> (with_reducible rfl))
        try simp only [Act.put, List.setIfInBounds_toArray, List.set_cons_zero, List.set_cons_succ]
        refine wpAnyH_take (i := 5) (v := ?r38_vv5) (by (simp only [List.getElem?_toArray, List.getElem?_cons_succ, List.getElem?_cons_zero]; rfl)) (by kernel_rfl) (by kernel_rfl) (by kernel_rfl) (by exact fun _ _ _ h => h) (Or.inl ⟨by rfl, ?r38_hy5⟩) (by assumption) ?r38_rest5
        case r38_hy5 => intro w hSw; (try dsimp only at hSw); (go_simp <;> (with_reducible rfl))
        try simp only [Act.put, List.setIfInBounds_toArray, List.set_cons_zero, List.set_cons_succ]
        refine wpAnyH_take (i := 6) (v := ?r38_vv6) (by (simp only [List.getElem?_toArray, List.getElem?_cons_succ, List.getElem?_cons_zero]; rfl)) (by kernel_rfl) (by kernel_rfl) (by kernel_rfl) (by exact fun _ _ _ h => h) (Or.inl ⟨by rfl, ?r38_hy6⟩) (by assumption) ?r38_rest6
        case r38_hy6 => intro w hSw; (try dsimp only at hSw); (go_simp <;> (with_reducible rfl))
        try simp only [Act.put, List.setIfInBounds_toArray, List.set_cons_zero, List.set_cons_succ]
        refine wpAnyH_take (i := 7) (v := ?r38_vv7) (by (simp only [List.getElem?_toArray, List.getElem?_cons_succ, List.getElem?_cons_zero]; rfl)) (by kernel_rfl) (by kernel_rfl) (by kernel_rfl) (by exact fun _ _ _ h => h) (Or.inl ⟨by rfl, ?r38_hy7⟩) (by assumption) ?r38_rest7
        case r38_hy7 => intro w hSw; (try dsimp only at hSw); (go_simp <;> (with_reducible rfl))
        try simp only [Act.put, List.setIfInBounds_toArray, List.set_cons_zero, List.set_cons_succ]
        refine wpAnyH_take (i := 8) (v := ?r38_vv8) (by (simp only [List.getElem?_toArray, List.getElem?_cons_succ, List.getElem?_cons_zero]; rfl)) (by kernel_rfl) (by kernel_rfl) (by kernel_rfl) (by exact fun _ _ _ h => h) (Or.inl ⟨by rfl, ?r38_hy8⟩) (by assumption) ?r38_rest8
        case r38_hy8 => intro w hSw; (try dsimp only at hSw); (go_simp <;> (with_reducible rfl))
        try simp only [Act.put, List.setIfInBounds_toArray, List.set_cons_zero, List.set_cons_succ]
        refine wpAnyH_take (i := 9) (v := ?r38_vv9) (by (simp only [List.getElem?_toArray, List.getElem?_cons_succ, List.getElem?_cons_zero]; rfl)) (by kernel_rfl) (by kernel_rfl) (by kernel_rfl) (by exact fun _ _ _ h => h) (Or.inl ⟨by rfl, ?r38_hy9⟩) (by assumption) ?r38_rest9
        case r38_hy9 => intro w hSw; (try dsimp only at hSw); (go_simp <;> (with_reducible rfl))
        try simp only [Act.put, List.setIfInBounds_toArray, List.set_cons_zero, List.set_cons_succ]
        refine wpAnyH_ready (rs := [10]) (by kernel_rfl) (by simp) ?_
        refine AllReadyH.cons (by (simp only [List.getElem?_toArray, List.getElem?_cons_succ, List.getElem?_cons_zero]; rfl)) (fun K hK => ?_) AllReadyH.nil
        go_simp
        (go_at_call 119; with_reducible refine (qj.out _ (And.left (b := _) (by assumption))).mono ?_; rintro e w9 ⟨rfl, hb9⟩)
        try go_wp2_with fail
        refine hK.out _ _ ?r38_hS10 (fun hHeld => ?r38_r10)
        case r38_hS10 => (try dsimp only); first | assumption | exact CkS.keep hbo2 (by assumption) ((Below.refl _ _).drew) | exact CkS.keep hbo2 (by assumption) (by assumption)
        clear hK K
        try simp only [Act.put, List.setIfInBounds_toArray, List.set_cons_zero, List.set_cons_succ]
        refine wpAnyH_take (i := 11) (v := ?r38_vv11) (by (simp only [List.getElem?_toArray, List.getElem?_cons_succ, List.getElem?_cons_zero]; rfl)) (by kernel_rfl) (by kernel_rfl) (by kernel_rfl) (by exact fun _ _ _ h => h) (Or.inl ⟨by rfl, ?r38_hy11⟩) (by assumption) ?r38_rest11
        case r38_hy11 => intro w hSw; (try dsimp only at hSw); (go_simp <;> (with_reducible rfl))
        try simp only [Act.put, List.setIfInBounds_toArray, List.set_cons_zero, List.set_cons_succ]
        refine wpAnyH_done (by kernel_rfl) ?_ _
        have HB9 := Lib.hid (show Below wo.heap.size wo _ from And.left (b := _) (by assumption))
        repeat clear hHeld
        go_wp2_with fail
        go_roundw
        case rel => exact ⟨k + 1, by omega, by go_num, hE.out, ext_trans HBo.out HB9.out⟩
        case measure => first | (simp [intOf]; done) | (simp [intOf]; omega)
    · have hE := Lib.hid (show crkB sl xs = true from by unfold crkB; rw [show xs.length - 1 = k by omega]; exact HA.out)
      have hnl : ¬ (k : Int) + 1 < (xs.length : Int) := by omega
      go_wp2_with fail
      go_ret
      exact ⟨ret_bool hE.out.symm, HBo.out⟩
end Go.Proofs.Ytbmkhhhlnollmaa
