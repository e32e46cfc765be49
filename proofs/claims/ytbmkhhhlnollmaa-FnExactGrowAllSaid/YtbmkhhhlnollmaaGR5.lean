/-
GrowCrack of the reference. Conditions: numbers are of their kinds; slices can be read.
-/
import Derived.Test.YtbmkhhhlnollmaaGR4
set_option linter.unusedVariables false
set_option linter.unusedSimpArgs false
set_option maxRecDepth 100000
namespace Go.Proofs.Ytbmkhhhlnollmaa
open Go.RowKit
theorem step_store_bk {P : Program} {ops : Array Oper} {o : Oper} {a : Act} {w : World} {K : Act → World → Prop} {Q : Exit → Act → World → Prop} {E : Prop} (hgd : o.guard = none) (ty : TypeId) (x y : Operand) (ho : o.op = .store ty x y)
    (g : Nat) (cells : Array Value) (hx : a.eval x = .pointer (some ⟨g, 0, none⟩)) (hy : a.eval y = .agg cells) (T : TypeId) (old : Array Value) (hc : Bk w g T old) (hs : old.size = cells.size)
    (hi : (P.info? ty).map (·.size) = some cells.size) (h1 : cells.all (·.oneCell') = true)
    (h : ∀ w', Bk w' g T cells → w.grownBy w' (some g) → K (a.put o.dst undef) w') : if Region.wanted o (yielded ops a.tmps) = true then Oper.wp P o a w K Q else E := by
  have hw : Region.wanted o (yielded ops a.tmps) = true := by simp [Region.wanted, hgd]
  rw [if_pos hw]
  unfold Oper.wp execOp
  simp only [ho, hx, hy, Instr.storeAt, Instr.sureAddr, Sem.run_bind, Sem.run_pure, Result.andThen_ok, run_storeVar_row w g T ty old cells hc hi hs h1]
  refine h _ ?_ ?_
  · unfold Bk World.setRow
    have h' : w.heap[g]? = some (.cells old T (0, 0)) := hc
    simp [Array.getElem?_modify, h']
  · refine ⟨rfl, rfl, rfl, by simp [World.setRow], fun k hk hne => ?_⟩
    unfold World.setRow
    rw [Array.getElem?_modify, if_neg (fun e => hne (by rw [e]))]
theorem wayS_calls (t : Int) (W : World) : Calls Try.prog 72 #[.int .i64 t] W fun e w' => e = .returned (.bool (inB t 0 3)) ∧ W = w' := by
  go_enter Try.func72, Try.ntmps72
  go_wp2_with fail
  refine (in_calls _ _ _ _).mono ?_
  rintro e w1 ⟨rfl, rfl⟩
  go_wp2_with fail
  go_ret
  exact ⟨rfl, rfl⟩
theorem yearsS_calls (t : Int) (W : World) : Calls Try.prog 73 #[.int .i64 t] W fun e w' => e = .returned (.bool (inB t 0 60)) ∧ W = w' := by
  go_enter Try.func73, Try.ntmps73
  go_wp2_with fail
  refine (in_calls _ _ _ _).mono ?_
  rintro e w1 ⟨rfl, rfl⟩
  go_wp2_with fail
  go_ret
  exact ⟨rfl, rfl⟩
abbrev GcS (W0 : World) (b : Nat) (p : Cell) (w' : World) : Prop :=
  Below W0.heap.size W0 w' ∧ w'.cell? ⟨b, 0, none⟩ = some (.int .i8 p.x) ∧ w'.cell? ⟨b, 1, none⟩ = some (.int .i8 p.y)
theorem GcS.keep0 {W0 w1 w2 : World} {b : Nat} {p : Cell} (hb : b < W0.heap.size) (hS : GcS W0 b p w1) (k : Below W0.heap.size W0 w2) : GcS W0 b p w2 :=
  ⟨k, ((k.cell (p := ⟨b, 0, none⟩) hb).trans (hS.1.cell (p := ⟨b, 0, none⟩) hb).symm).trans hS.2.1, ((k.cell (p := ⟨b, 1, none⟩) hb).trans (hS.1.cell (p := ⟨b, 1, none⟩) hb).symm).trans hS.2.2⟩
theorem GcS.keep {W0 w1 w2 : World} {b : Nat} {p : Cell} (hb : b < W0.heap.size) (hS : GcS W0 b p w1) (k : Below w1.heap.size w1 w2) : GcS W0 b p w2 := hS.keep0 hb (ext_trans hS.1 k)
theorem GcS.keepG {W0 w1 w2 : World} {b g : Nat} {p : Cell} (hb : b < W0.heap.size) (hS : GcS W0 b p w1) (k : w1.grownBy w2 (some g)) (hg : W0.heap.size ≤ g) : GcS W0 b p w2 :=
  hS.keep0 hb (hS.1.grown k hS.1.size (fun j hj => by injection hj with hj; omega))
set_option maxHeartbeats 16000000 in
theorem specGrowCrack_calls (w h : Int) (z : Value) (sl : List Slab) (p : Cell) (hp : p.ok) (way years : Int) (W : World) (hq : SqIn W w h z sl) :
    Calls Try.prog 30 #[sqv w h z, p.v, .int .i64 way, .int .i64 years] W (RetC2 W (growCrack w h sl p way years)) := by
  obtain ⟨A, cap, hz, -, -, -⟩ := hq.sl.slab
  subst hz
  have hB := ext_alloc ((Below.refl W.heap.size W).alloc (Nat.le_refl _) (.cells #[.int .i8 w, .int .i8 h, .slice A sl.length cap] 34)) (.cells #[.int .i8 p.x, .int .i8 p.y] 36)
  have HB := Lib.hid hB
  have HQ := Lib.hid (hq.ext hB)
  have K0 := Lib.hid ((Bk.new W 34 #[.int .i8 w, .int .i8 h, .slice A sl.length cap] W.heap.size rfl).alloc (.cells #[.int .i8 p.x, .int .i8 p.y] 36))
  have K1 := Lib.hid (Bk.new (W.alloc (.cells #[.int .i8 w, .int .i8 h, .slice A sl.length cap] 34)) 36 #[.int .i8 p.x, .int .i8 p.y] (W.heap.size + 1) (by simp))
  have HA := Lib.hid (show Sq.at_ _ W.heap.size 0 w h _ from ⟨K0.out.cell 0 _ rfl, K0.out.cell 1 _ rfl, K0.out.cell 2 _ rfl, K0.out.lt⟩)
  have qw := Lib.hid (wayS_calls way)
  have qy := Lib.hid (yearsS_calls years)
  obtain ⟨R, hR0⟩ : ∃ R, R = growCrack w h sl p way years := ⟨_, rfl⟩
  rw [← hR0]
  have hR := Lib.hid hR0
  have hpp := Lib.hid (show ∀ x ∈ [p], x.ok from by simpa using hp)
  obtain ⟨CC, hCC0⟩ : ∃ c, c = growC w h sl [p] [way] years := ⟨_, rfl⟩
  have hCC := Lib.hid hCC0
  have hgrow := Lib.hid (growC_told w h sl [p] way years)
  clear hB hq hR0 hCC0
  unfold sqv Cell.v at *
  go_enter Try.func30, Try.ntmps30
  go_wp2_with fail
  generalize (W.alloc (.cells #[.int .i8 w, .int .i8 h, .slice A sl.length cap] 34)).alloc (.cells #[.int .i8 p.x, .int .i8 p.y] 36) = W1 at *
  have hlt1 : W.heap.size + 1 < W1.heap.size := K1.out.lt
  have hS : GcS W1 (W.heap.size + 1) p W1 := ⟨Below.refl _ _, K1.out.cell 0 _ rfl, K1.out.cell 1 _ rfl⟩
  cases hwy : inB way 0 3
  · have qt := Lib.hid (show ∀ (W' : World) (v : Value), GcS W1 (W.heap.size + 1) p W' → Sl W' W'.heap.size Cell.c 2 v [p] → Calls Try.prog 58 #[.pointer (some ⟨W.heap.size, 0, none⟩), v, .bool false] W' (RetTold W' CC sl) from fun W' v hS' hs' => by
      have := told_calls W.heap.size 0 w h _ sl [p] hpp.out v false W' (HQ.out.ext hS'.1) (HA.out.ext hS'.1) hs'
      rwa [show toldC w h sl [p] false = CC from by rw [hCC.out, ← hgrow.out, hwy]; rfl] at this)
    rw [hwy] at qw
    clear hwy
    refine wp_region_held_drew (S := (GcS W1 (W.heap.size + 1) p)) (by kernel_rfl) ?r27_1_hS0 (fun hHeld => ?r27_1_rest)
    case r27_1_hS0 => (try dsimp only); first | assumption | exact GcS.keep hlt1 (by assumption) ((Below.refl _ _).drew) | exact GcS.keep hlt1 (by assumption) (by assumption) | exact GcS.keep hlt1 (by assumption) ((Below.refl _ _).alloc (Nat.le_refl _) _) | exact GcS.keepG hlt1 (by assumption) hG13 (by first | omega | (simp; done) | (have h9 := hb8.size; simp at h9 ⊢; omega))
    refine wpAnyH_take (i := 0) (v := ?r27_2_vv) (by (simp only [List.getElem?_toArray, List.getElem?_cons_succ, List.getElem?_cons_zero]; rfl)) (by kernel_rfl) (by kernel_rfl) (by kernel_rfl) (by exact fun _ _ _ h => h) (Or.inl ⟨by rfl, ?r27_2_hy⟩) (by assumption) ?r27_2_rest
    case r27_2_hy => intro w hSw; (try dsimp only at hSw); (go_simp <;> (with_reducible rfl))
    try simp only [Act.put, List.setIfInBounds_toArray, List.set_cons_zero, List.set_cons_succ]
    refine wpAnyH_take (i := 2) (v := ?r27_3_vv) (by (simp only [List.getElem?_toArray, List.getElem?_cons_succ, List.getElem?_cons_zero]; rfl)) (by kernel_rfl) (by kernel_rfl) (by kernel_rfl) (by exact fun _ _ _ h => h) (Or.inl ⟨by rfl, ?r27_3_hy⟩) (by assumption) ?r27_3_rest
    case r27_3_hy => intro w hSw; (try dsimp only at hSw); (go_simp <;> (with_reducible rfl))
    try simp only [Act.put, List.setIfInBounds_toArray, List.set_cons_zero, List.set_cons_succ]
    refine wpAnyH_ready (rs := [1, 3, 12]) (by kernel_rfl) (by simp) ?_
    refine (AllReadyH.cons (by (simp only [List.getElem?_toArray, List.getElem?_cons_succ, List.getElem?_cons_zero]; rfl)) (fun K hK => ?_) (AllReadyH.cons (by (simp only [List.getElem?_toArray, List.getElem?_cons_succ, List.getElem?_cons_zero]; rfl)) (fun K hK => ?_) (AllReadyH.cons (by (simp only [List.getElem?_toArray, List.getElem?_cons_succ, List.getElem?_cons_zero]; rfl)) (fun K hK => ?_) AllReadyH.nil)))
    · go_simp
      refine hK.out _ _ ?r27_4_hS (fun hHeld => ?r27_4_r)
      case r27_4_hS => (try dsimp only); first | assumption | exact GcS.keep hlt1 (by assumption) ((Below.refl _ _).drew) | exact GcS.keep hlt1 (by assumption) (by assumption) | exact GcS.keep hlt1 (by assumption) ((Below.refl _ _).alloc (Nat.le_refl _) _) | exact GcS.keepG hlt1 (by assumption) hG13 (by first | omega | (simp; done) | (have h9 := hb8.size; simp at h9 ⊢; omega))
      clear hK K
      try simp only [Act.put, List.setIfInBounds_toArray, List.set_cons_zero, List.set_cons_succ]
      refine wpAnyH_ready (rs := [3, 12]) (by kernel_rfl) (by simp) ?_
      refine (AllReadyH.cons (by (simp only [List.getElem?_toArray, List.getElem?_cons_succ, List.getElem?_cons_zero]; rfl)) (fun K hK => ?_) (AllReadyH.cons (by (simp only [List.getElem?_toArray, List.getElem?_cons_succ, List.getElem?_cons_zero]; rfl)) (fun K hK => ?_) AllReadyH.nil))
      · go_simp
        (go_at_call 72; with_reducible refine (qw.out _).mono ?_; rintro e w3 ⟨rfl, rfl⟩)
        try go_wp2_with fail
        refine hK.out _ _ ?r27_5_hS (fun hHeld => ?r27_5_r)
        case r27_5_hS => (try dsimp only); first | assumption | exact GcS.keep hlt1 (by assumption) ((Below.refl _ _).drew) | exact GcS.keep hlt1 (by assumption) (by assumption) | exact GcS.keep hlt1 (by assumption) ((Below.refl _ _).alloc (Nat.le_refl _) _) | exact GcS.keepG hlt1 (by assumption) hG13 (by first | omega | (simp; done) | (have h9 := hb8.size; simp at h9 ⊢; omega))
        clear hK K
        try simp only [Act.put, List.setIfInBounds_toArray, List.set_cons_zero, List.set_cons_succ]
        refine wpAnyH_take (i := 4) (v := ?r27_6_vv) (by (simp only [List.getElem?_toArray, List.getElem?_cons_succ, List.getElem?_cons_zero]; rfl)) (by kernel_rfl) (by kernel_rfl) (by kernel_rfl) (by exact fun _ _ _ h => h) (Or.inl ⟨by rfl, ?r27_6_hy⟩) (by assumption) ?r27_6_rest
        case r27_6_hy => intro w hSw; (try dsimp only at hSw); (go_simp <;> (with_reducible rfl))
        try simp only [Act.put, List.setIfInBounds_toArray, List.set_cons_zero, List.set_cons_succ]
        refine wpAnyH_take (i := 5) (v := undef) (by (simp only [List.getElem?_toArray, List.getElem?_cons_succ, List.getElem?_cons_zero]; rfl)) (by kernel_rfl) (by kernel_rfl) (by kernel_rfl) (by exact fun _ _ _ h => h) (Or.inr ⟨by rfl, rfl⟩) (by assumption) ?_
        try simp only [Act.put, List.setIfInBounds_toArray, List.set_cons_zero, List.set_cons_succ]
        refine wpAnyH_take (i := 6) (v := undef) (by (simp only [List.getElem?_toArray, List.getElem?_cons_succ, List.getElem?_cons_zero]; rfl)) (by kernel_rfl) (by kernel_rfl) (by kernel_rfl) (by exact fun _ _ _ h => h) (Or.inr ⟨by rfl, rfl⟩) (by assumption) ?_
        try simp only [Act.put, List.setIfInBounds_toArray, List.set_cons_zero, List.set_cons_succ]
        refine wpAnyH_take (i := 7) (v := ?r27_9_vv) (by (simp only [List.getElem?_toArray, List.getElem?_cons_succ, List.getElem?_cons_zero]; rfl)) (by kernel_rfl) (by kernel_rfl) (by kernel_rfl) (by exact fun _ _ _ h => h) (Or.inl ⟨by rfl, ?r27_9_hy⟩) (by assumption) ?r27_9_rest
        case r27_9_hy => intro w hSw; (try dsimp only at hSw); (go_simp <;> (with_reducible rfl))
        try simp only [Act.put, List.setIfInBounds_toArray, List.set_cons_zero, List.set_cons_succ]
        refine wpAnyH_ready (rs := [8, 12]) (by kernel_rfl) (by simp) ?_
        refine (AllReadyH.cons (by (simp only [List.getElem?_toArray, List.getElem?_cons_succ, List.getElem?_cons_zero]; rfl)) (fun K hK => ?_) (AllReadyH.cons (by (simp only [List.getElem?_toArray, List.getElem?_cons_succ, List.getElem?_cons_zero]; rfl)) (fun K hK => ?_) AllReadyH.nil))
        · go_simp
          (go_at_call 58; refine (qt.out _ _ (by assumption) (by repeat (first | with_reducible exact sl1c _ p _ (by simp) _ | refine Sl.alloc ?_ _ | refine Sl.ext ?_ ((Below.refl _ _).drew)))).mono ?_; rintro e w8 ⟨g, rfl, hgl, hgr, hb8⟩)
          try go_wp2_with fail
          refine hK.out _ _ ?r27_10_hS (fun hHeld => ?r27_10_r)
          case r27_10_hS => (try dsimp only); first | assumption | exact GcS.keep hlt1 (by assumption) ((Below.refl _ _).drew) | exact GcS.keep hlt1 (by assumption) (by assumption) | exact GcS.keep hlt1 (by assumption) ((Below.refl _ _).alloc (Nat.le_refl _) _) | exact GcS.keepG hlt1 (by assumption) hG13 (by first | omega | (simp; done) | (have h9 := hb8.size; simp at h9 ⊢; omega))
          clear hK K
          try simp only [Act.put, List.setIfInBounds_toArray, List.set_cons_zero, List.set_cons_succ]
          refine wpAnyH_take (i := 9) (v := ?r27_11_vv) (by (simp only [List.getElem?_toArray, List.getElem?_cons_succ, List.getElem?_cons_zero]; rfl)) (by kernel_rfl) (by kernel_rfl) (by kernel_rfl) (by exact fun _ _ _ h => h) (Or.inl ⟨by rfl, ?r27_11_hy⟩) (by assumption) ?r27_11_rest
          case r27_11_hy => intro w hSw; (try dsimp only at hSw); (go_simp <;> (with_reducible rfl))
          try simp only [Act.put, List.setIfInBounds_toArray, List.set_cons_zero, List.set_cons_succ]
          refine wpAnyH_take (i := 10) (v := ?r27_12_vv) (by (simp only [List.getElem?_toArray, List.getElem?_cons_succ, List.getElem?_cons_zero]; rfl)) (by kernel_rfl) (by kernel_rfl) (by kernel_rfl) (by exact fun _ _ _ h => h) (Or.inl ⟨by rfl, ?r27_12_hy⟩) (by assumption) ?r27_12_rest
          case r27_12_hy => intro w hSw; (try dsimp only at hSw); (go_simp <;> (with_reducible rfl))
          try simp only [Act.put, List.setIfInBounds_toArray, List.set_cons_zero, List.set_cons_succ]
          refine wpAnyH_take (i := 11) (v := ?r27_13_vv) (by (simp only [List.getElem?_toArray, List.getElem?_cons_succ, List.getElem?_cons_zero]; rfl)) (by kernel_rfl) (by kernel_rfl) (by kernel_rfl) (by exact fun _ _ _ h => h) (Or.inl ⟨by rfl, ?r27_13_hy⟩) (by assumption) ?r27_13_rest
          case r27_13_hy => intro w hSw; (try dsimp only at hSw); (go_simp <;> (with_reducible rfl))
          try simp only [Act.put, List.setIfInBounds_toArray, List.set_cons_zero, List.set_cons_succ]
          refine wpAnyH_ready (rs := [12]) (by kernel_rfl) (by simp) ?_
          refine (AllReadyH.cons (by (simp only [List.getElem?_toArray, List.getElem?_cons_succ, List.getElem?_cons_zero]; rfl)) (fun K hK => ?_) AllReadyH.nil)
          go_simp
          refine hK.out _ _ ?r27_14_hS (fun hHeld => ?r27_14_r)
          case r27_14_hS => (try dsimp only); first | assumption | exact GcS.keep hlt1 (by assumption) ((Below.refl _ _).drew) | exact GcS.keep hlt1 (by assumption) (by assumption) | exact GcS.keep hlt1 (by assumption) ((Below.refl _ _).alloc (Nat.le_refl _) _) | exact GcS.keepG hlt1 (by assumption) hG13 (by first | omega | (simp; done) | (have h9 := hb8.size; simp at h9 ⊢; omega))
          clear hK K
          try simp only [Act.put, List.setIfInBounds_toArray, List.set_cons_zero, List.set_cons_succ]
          refine wpAnyH_ready (rs := [13]) (by kernel_rfl) (by simp) ?_
          refine (AllReadyH.cons (by (simp only [List.getElem?_toArray, List.getElem?_cons_succ, List.getElem?_cons_zero]; rfl)) (fun K hK => ?_) AllReadyH.nil)
          (refine step_store_bk rfl 85 (.tmp 10) (.tmp 22) rfl _ (gcells g) rfl rfl 85 Try.zeroCells85 (by repeat (first | exact Bk.new _ 85 Try.zeroCells85 _ (by simp) | refine Bk.ext ?_ hb8 | refine Bk.alloc ?_ _ | refine Bk.ext ?_ ((Below.refl _ _).drew))) (by rw [zsize, gcells_size, hgl]) (ginfo _ hgl) (gcells_one _) ?_; intro w13 k13 G13; have hG13 := G13)
          refine hK.out _ _ ?r27_15_hS (fun hHeld => ?r27_15_r)
          case r27_15_hS => (try dsimp only); first | assumption | exact GcS.keep hlt1 (by assumption) ((Below.refl _ _).drew) | exact GcS.keep hlt1 (by assumption) (by assumption) | exact GcS.keep hlt1 (by assumption) ((Below.refl _ _).alloc (Nat.le_refl _) _) | exact GcS.keepG hlt1 (by assumption) hG13 (by first | omega | (simp; done) | (have h9 := hb8.size; simp at h9 ⊢; omega))
          clear hK K
          try simp only [Act.put, List.setIfInBounds_toArray, List.set_cons_zero, List.set_cons_succ]
          refine wpAnyH_take (i := 14) (v := ?r27_16_vv) (by (simp only [List.getElem?_toArray, List.getElem?_cons_succ, List.getElem?_cons_zero]; rfl)) (by kernel_rfl) (by kernel_rfl) (by kernel_rfl) (by exact fun _ _ _ h => h) (Or.inl ⟨by rfl, ?r27_16_hy⟩) (by assumption) ?r27_16_rest
          case r27_16_hy => intro w hSw; (try dsimp only at hSw); (go_simp <;> (with_reducible rfl))
          try simp only [Act.put, List.setIfInBounds_toArray, List.set_cons_zero, List.set_cons_succ]
          refine wpAnyH_done (by kernel_rfl) ?_ _
          have hS13 : GcS W1 (W.heap.size + 1) p w13 := by assumption
          obtain ⟨hB13, p0', p1'⟩ := hS13
          have HB13 := Lib.hid (show Below W.heap.size W w13 from HB.out.trans (hB13.mono HB.out.size))
          have K13 := Lib.hid k13
          have HGR := Lib.hid hgr
          clear hB13
          clear k13
          clear hgr
          clear hb8
          repeat clear hHeld
          by_cases hc : CC = 0
          · have hE := Lib.hid (hR.out.trans (if_pos (hCC.out.symm.trans hc)))
            obtain ⟨hc2, ⟨y0, y1⟩, hway⟩ := growC_ok (hCC.out.symm.trans hc)
            obtain ⟨hv, hpts⟩ := cornC_ok hc2
            obtain ⟨⟨w0, w1'⟩, ⟨h0, h1⟩, hl⟩ := sqOk_edges hv
            obtain ⟨⟨x0, x1⟩, z0, z1⟩ := hpts p (by simp)
            obtain ⟨ny, hny⟩ : ∃ ny : Nat, years = (ny : Int) := ⟨years.toNat, (Int.toNat_of_nonneg y0).symm⟩
            subst hny
            have hgg := HGR.out hc
            subst hgg
            have qg := Lib.hid (sGrow_calls w h sl hl ⟨w1', h1⟩ p ⟨x0, x1⟩ ⟨z0, z1⟩ way (hway way (by simp)) ny (by omega) _ w13 K13.out)
            rw [show ((ny : Int)).toNat = ny from Int.toNat_natCast ny] at hE
            have hcb : (CC == 0) = true := by simpa using hc
            have hcb2 : (CC != 0) = false := by simpa using hc
            clear hc hc2 hv hpts hl hway hR
            unfold Cell.v at qg
            generalize growL sl ny [p] p way = us at *
            go_wp2_with fail
            refine qg.out.mono ?_
            rintro e w20 ⟨g20, c20, rfl, hO, hb20⟩
            have HO := Lib.hid (hO.more HB13.out.size)
            have HB20 := Lib.hid (ext_trans HB13.out hb20)
            clear hO hb20
            go_wp2_with fail
            go_ret2
            rw [hE.out]
            exact RetC2.mk rfl HO.out HB20.out
          · have hE := Lib.hid (hR.out.trans (if_neg (fun h0 => hc (hCC.out.trans h0))))
            have hcb : (CC == 0) = false := by simpa using hc
            have hcb2 : (CC != 0) = true := by simpa using hc
            clear hc hR
            go_wp2_with fail
            go_ret2
            rw [hE.out]
            exact RetC2.mk hCC.out (Own.empty (α := Cell) (c := Cell.c) (sz := 2) (E := 36) w13 W.heap.size _ (by simp) HB13.out.size) (ext_alloc HB13.out _)
        · go_simp
          refine hK.out _ _ ?r27_17_hS (fun hHeld => ?r27_17_r)
          case r27_17_hS => (try dsimp only); first | assumption | exact GcS.keep hlt1 (by assumption) ((Below.refl _ _).drew) | exact GcS.keep hlt1 (by assumption) (by assumption) | exact GcS.keep hlt1 (by assumption) ((Below.refl _ _).alloc (Nat.le_refl _) _) | exact GcS.keepG hlt1 (by assumption) hG13 (by first | omega | (simp; done) | (have h9 := hb8.size; simp at h9 ⊢; omega))
          clear hK K
          try simp only [Act.put, List.setIfInBounds_toArray, List.set_cons_zero, List.set_cons_succ]
          refine wpAnyH_ready (rs := [8]) (by kernel_rfl) (by simp) ?_
          refine (AllReadyH.cons (by (simp only [List.getElem?_toArray, List.getElem?_cons_succ, List.getElem?_cons_zero]; rfl)) (fun K hK => ?_) AllReadyH.nil)
          go_simp
          (go_at_call 58; refine (qt.out _ _ (by assumption) (by repeat (first | with_reducible exact sl1c _ p _ (by simp) _ | refine Sl.alloc ?_ _ | refine Sl.ext ?_ ((Below.refl _ _).drew)))).mono ?_; rintro e w8 ⟨g, rfl, hgl, hgr, hb8⟩)
          try go_wp2_with fail
          refine hK.out _ _ ?r27_18_hS (fun hHeld => ?r27_18_r)
          case r27_18_hS => (try dsimp only); first | assumption | exact GcS.keep hlt1 (by assumption) ((Below.refl _ _).drew) | exact GcS.keep hlt1 (by assumption) (by assumption) | exact GcS.keep hlt1 (by assumption) ((Below.refl _ _).alloc (Nat.le_refl _) _) | exact GcS.keepG hlt1 (by assumption) hG13 (by first | omega | (simp; done) | (have h9 := hb8.size; simp at h9 ⊢; omega))
          clear hK K
          try simp only [Act.put, List.setIfInBounds_toArray, List.set_cons_zero, List.set_cons_succ]
          refine wpAnyH_take (i := 9) (v := ?r27_19_vv) (by (simp only [List.getElem?_toArray, List.getElem?_cons_succ, List.getElem?_cons_zero]; rfl)) (by kernel_rfl) (by kernel_rfl) (by kernel_rfl) (by exact fun _ _ _ h => h) (Or.inl ⟨by rfl, ?r27_19_hy⟩) (by assumption) ?r27_19_rest
          case r27_19_hy => intro w hSw; (try dsimp only at hSw); (go_simp <;> (with_reducible rfl))
          try simp only [Act.put, List.setIfInBounds_toArray, List.set_cons_zero, List.set_cons_succ]
          refine wpAnyH_take (i := 10) (v := ?r27_20_vv) (by (simp only [List.getElem?_toArray, List.getElem?_cons_succ, List.getElem?_cons_zero]; rfl)) (by kernel_rfl) (by kernel_rfl) (by kernel_rfl) (by exact fun _ _ _ h => h) (Or.inl ⟨by rfl, ?r27_20_hy⟩) (by assumption) ?r27_20_rest
          case r27_20_hy => intro w hSw; (try dsimp only at hSw); (go_simp <;> (with_reducible rfl))
          try simp only [Act.put, List.setIfInBounds_toArray, List.set_cons_zero, List.set_cons_succ]
          refine wpAnyH_take (i := 11) (v := ?r27_21_vv) (by (simp only [List.getElem?_toArray, List.getElem?_cons_succ, List.getElem?_cons_zero]; rfl)) (by kernel_rfl) (by kernel_rfl) (by kernel_rfl) (by exact fun _ _ _ h => h) (Or.inl ⟨by rfl, ?r27_21_hy⟩) (by assumption) ?r27_21_rest
          case r27_21_hy => intro w hSw; (try dsimp only at hSw); (go_simp <;> (with_reducible rfl))
          try simp only [Act.put, List.setIfInBounds_toArray, List.set_cons_zero, List.set_cons_succ]
          refine wpAnyH_ready (rs := [13]) (by kernel_rfl) (by simp) ?_
          refine (AllReadyH.cons (by (simp only [List.getElem?_toArray, List.getElem?_cons_succ, List.getElem?_cons_zero]; rfl)) (fun K hK => ?_) AllReadyH.nil)
          (refine step_store_bk rfl 85 (.tmp 10) (.tmp 22) rfl _ (gcells g) rfl rfl 85 Try.zeroCells85 (by repeat (first | exact Bk.new _ 85 Try.zeroCells85 _ (by simp) | refine Bk.ext ?_ hb8 | refine Bk.alloc ?_ _ | refine Bk.ext ?_ ((Below.refl _ _).drew))) (by rw [zsize, gcells_size, hgl]) (ginfo _ hgl) (gcells_one _) ?_; intro w13 k13 G13; have hG13 := G13)
          refine hK.out _ _ ?r27_22_hS (fun hHeld => ?r27_22_r)
          case r27_22_hS => (try dsimp only); first | assumption | exact GcS.keep hlt1 (by assumption) ((Below.refl _ _).drew) | exact GcS.keep hlt1 (by assumption) (by assumption) | exact GcS.keep hlt1 (by assumption) ((Below.refl _ _).alloc (Nat.le_refl _) _) | exact GcS.keepG hlt1 (by assumption) hG13 (by first | omega | (simp; done) | (have h9 := hb8.size; simp at h9 ⊢; omega))
          clear hK K
          try simp only [Act.put, List.setIfInBounds_toArray, List.set_cons_zero, List.set_cons_succ]
          refine wpAnyH_take (i := 14) (v := ?r27_23_vv) (by (simp only [List.getElem?_toArray, List.getElem?_cons_succ, List.getElem?_cons_zero]; rfl)) (by kernel_rfl) (by kernel_rfl) (by kernel_rfl) (by exact fun _ _ _ h => h) (Or.inl ⟨by rfl, ?r27_23_hy⟩) (by assumption) ?r27_23_rest
          case r27_23_hy => intro w hSw; (try dsimp only at hSw); (go_simp <;> (with_reducible rfl))
          try simp only [Act.put, List.setIfInBounds_toArray, List.set_cons_zero, List.set_cons_succ]
          refine wpAnyH_done (by kernel_rfl) ?_ _
          have hS13 : GcS W1 (W.heap.size + 1) p w13 := by assumption
          obtain ⟨hB13, p0', p1'⟩ := hS13
          have HB13 := Lib.hid (show Below W.heap.size W w13 from HB.out.trans (hB13.mono HB.out.size))
          have K13 := Lib.hid k13
          have HGR := Lib.hid hgr
          clear hB13
          clear k13
          clear hgr
          clear hb8
          repeat clear hHeld
          by_cases hc : CC = 0
          · have hE := Lib.hid (hR.out.trans (if_pos (hCC.out.symm.trans hc)))
            obtain ⟨hc2, ⟨y0, y1⟩, hway⟩ := growC_ok (hCC.out.symm.trans hc)
            obtain ⟨hv, hpts⟩ := cornC_ok hc2
            obtain ⟨⟨w0, w1'⟩, ⟨h0, h1⟩, hl⟩ := sqOk_edges hv
            obtain ⟨⟨x0, x1⟩, z0, z1⟩ := hpts p (by simp)
            obtain ⟨ny, hny⟩ : ∃ ny : Nat, years = (ny : Int) := ⟨years.toNat, (Int.toNat_of_nonneg y0).symm⟩
            subst hny
            have hgg := HGR.out hc
            subst hgg
            have qg := Lib.hid (sGrow_calls w h sl hl ⟨w1', h1⟩ p ⟨x0, x1⟩ ⟨z0, z1⟩ way (hway way (by simp)) ny (by omega) _ w13 K13.out)
            rw [show ((ny : Int)).toNat = ny from Int.toNat_natCast ny] at hE
            have hcb : (CC == 0) = true := by simpa using hc
            have hcb2 : (CC != 0) = false := by simpa using hc
            clear hc hc2 hv hpts hl hway hR
            unfold Cell.v at qg
            generalize growL sl ny [p] p way = us at *
            go_wp2_with fail
            refine qg.out.mono ?_
            rintro e w20 ⟨g20, c20, rfl, hO, hb20⟩
            have HO := Lib.hid (hO.more HB13.out.size)
            have HB20 := Lib.hid (ext_trans HB13.out hb20)
            clear hO hb20
            go_wp2_with fail
            go_ret2
            rw [hE.out]
            exact RetC2.mk rfl HO.out HB20.out
          · have hE := Lib.hid (hR.out.trans (if_neg (fun h0 => hc (hCC.out.trans h0))))
            have hcb : (CC == 0) = false := by simpa using hc
            have hcb2 : (CC != 0) = true := by simpa using hc
            clear hc hR
            go_wp2_with fail
            go_ret2
            rw [hE.out]
            exact RetC2.mk hCC.out (Own.empty (α := Cell) (c := Cell.c) (sz := 2) (E := 36) w13 W.heap.size _ (by simp) HB13.out.size) (ext_alloc HB13.out _)
      · go_simp
        refine hK.out _ _ ?r27_24_hS (fun hHeld => ?r27_24_r)
        case r27_24_hS => (try dsimp only); first | assumption | exact GcS.keep hlt1 (by assumption) ((Below.refl _ _).drew) | exact GcS.keep hlt1 (by assumption) (by assumption) | exact GcS.keep hlt1 (by assumption) ((Below.refl _ _).alloc (Nat.le_refl _) _) | exact GcS.keepG hlt1 (by assumption) hG13 (by first | omega | (simp; done) | (have h9 := hb8.size; simp at h9 ⊢; omega))
        clear hK K
        try simp only [Act.put, List.setIfInBounds_toArray, List.set_cons_zero, List.set_cons_succ]
        refine wpAnyH_ready (rs := [3]) (by kernel_rfl) (by simp) ?_
        refine (AllReadyH.cons (by (simp only [List.getElem?_toArray, List.getElem?_cons_succ, List.getElem?_cons_zero]; rfl)) (fun K hK => ?_) AllReadyH.nil)
        go_simp
        (go_at_call 72; with_reducible refine (qw.out _).mono ?_; rintro e w3 ⟨rfl, rfl⟩)
        try go_wp2_with fail
        refine hK.out _ _ ?r27_25_hS (fun hHeld => ?r27_25_r)
        case r27_25_hS => (try dsimp only); first | assumption | exact GcS.keep hlt1 (by assumption) ((Below.refl _ _).drew) | exact GcS.keep hlt1 (by assumption) (by assumption) | exact GcS.keep hlt1 (by assumption) ((Below.refl _ _).alloc (Nat.le_refl _) _) | exact GcS.keepG hlt1 (by assumption) hG13 (by first | omega | (simp; done) | (have h9 := hb8.size; simp at h9 ⊢; omega))
        clear hK K
        try simp only [Act.put, List.setIfInBounds_toArray, List.set_cons_zero, List.set_cons_succ]
        refine wpAnyH_take (i := 4) (v := ?r27_26_vv) (by (simp only [List.getElem?_toArray, List.getElem?_cons_succ, List.getElem?_cons_zero]; rfl)) (by kernel_rfl) (by kernel_rfl) (by kernel_rfl) (by exact fun _ _ _ h => h) (Or.inl ⟨by rfl, ?r27_26_hy⟩) (by assumption) ?r27_26_rest
        case r27_26_hy => intro w hSw; (try dsimp only at hSw); (go_simp <;> (with_reducible rfl))
        try simp only [Act.put, List.setIfInBounds_toArray, List.set_cons_zero, List.set_cons_succ]
        refine wpAnyH_take (i := 5) (v := undef) (by (simp only [List.getElem?_toArray, List.getElem?_cons_succ, List.getElem?_cons_zero]; rfl)) (by kernel_rfl) (by kernel_rfl) (by kernel_rfl) (by exact fun _ _ _ h => h) (Or.inr ⟨by rfl, rfl⟩) (by assumption) ?_
        try simp only [Act.put, List.setIfInBounds_toArray, List.set_cons_zero, List.set_cons_succ]
        refine wpAnyH_take (i := 6) (v := undef) (by (simp only [List.getElem?_toArray, List.getElem?_cons_succ, List.getElem?_cons_zero]; rfl)) (by kernel_rfl) (by kernel_rfl) (by kernel_rfl) (by exact fun _ _ _ h => h) (Or.inr ⟨by rfl, rfl⟩) (by assumption) ?_
        try simp only [Act.put, List.setIfInBounds_toArray, List.set_cons_zero, List.set_cons_succ]
        refine wpAnyH_take (i := 7) (v := ?r27_29_vv) (by (simp only [List.getElem?_toArray, List.getElem?_cons_succ, List.getElem?_cons_zero]; rfl)) (by kernel_rfl) (by kernel_rfl) (by kernel_rfl) (by exact fun _ _ _ h => h) (Or.inl ⟨by rfl, ?r27_29_hy⟩) (by assumption) ?r27_29_rest
        case r27_29_hy => intro w hSw; (try dsimp only at hSw); (go_simp <;> (with_reducible rfl))
        try simp only [Act.put, List.setIfInBounds_toArray, List.set_cons_zero, List.set_cons_succ]
        refine wpAnyH_ready (rs := [8]) (by kernel_rfl) (by simp) ?_
        refine (AllReadyH.cons (by (simp only [List.getElem?_toArray, List.getElem?_cons_succ, List.getElem?_cons_zero]; rfl)) (fun K hK => ?_) AllReadyH.nil)
        go_simp
        (go_at_call 58; refine (qt.out _ _ (by assumption) (by repeat (first | with_reducible exact sl1c _ p _ (by simp) _ | refine Sl.alloc ?_ _ | refine Sl.ext ?_ ((Below.refl _ _).drew)))).mono ?_; rintro e w8 ⟨g, rfl, hgl, hgr, hb8⟩)
        try go_wp2_with fail
        refine hK.out _ _ ?r27_30_hS (fun hHeld => ?r27_30_r)
        case r27_30_hS => (try dsimp only); first | assumption | exact GcS.keep hlt1 (by assumption) ((Below.refl _ _).drew) | exact GcS.keep hlt1 (by assumption) (by assumption) | exact GcS.keep hlt1 (by assumption) ((Below.refl _ _).alloc (Nat.le_refl _) _) | exact GcS.keepG hlt1 (by assumption) hG13 (by first | omega | (simp; done) | (have h9 := hb8.size; simp at h9 ⊢; omega))
        clear hK K
        try simp only [Act.put, List.setIfInBounds_toArray, List.set_cons_zero, List.set_cons_succ]
        refine wpAnyH_take (i := 9) (v := ?r27_31_vv) (by (simp only [List.getElem?_toArray, List.getElem?_cons_succ, List.getElem?_cons_zero]; rfl)) (by kernel_rfl) (by kernel_rfl) (by kernel_rfl) (by exact fun _ _ _ h => h) (Or.inl ⟨by rfl, ?r27_31_hy⟩) (by assumption) ?r27_31_rest
        case r27_31_hy => intro w hSw; (try dsimp only at hSw); (go_simp <;> (with_reducible rfl))
        try simp only [Act.put, List.setIfInBounds_toArray, List.set_cons_zero, List.set_cons_succ]
        refine wpAnyH_take (i := 10) (v := ?r27_32_vv) (by (simp only [List.getElem?_toArray, List.getElem?_cons_succ, List.getElem?_cons_zero]; rfl)) (by kernel_rfl) (by kernel_rfl) (by kernel_rfl) (by exact fun _ _ _ h => h) (Or.inl ⟨by rfl, ?r27_32_hy⟩) (by assumption) ?r27_32_rest
        case r27_32_hy => intro w hSw; (try dsimp only at hSw); (go_simp <;> (with_reducible rfl))
        try simp only [Act.put, List.setIfInBounds_toArray, List.set_cons_zero, List.set_cons_succ]
        refine wpAnyH_take (i := 11) (v := ?r27_33_vv) (by (simp only [List.getElem?_toArray, List.getElem?_cons_succ, List.getElem?_cons_zero]; rfl)) (by kernel_rfl) (by kernel_rfl) (by kernel_rfl) (by exact fun _ _ _ h => h) (Or.inl ⟨by rfl, ?r27_33_hy⟩) (by assumption) ?r27_33_rest
        case r27_33_hy => intro w hSw; (try dsimp only at hSw); (go_simp <;> (with_reducible rfl))
        try simp only [Act.put, List.setIfInBounds_toArray, List.set_cons_zero, List.set_cons_succ]
        refine wpAnyH_ready (rs := [13]) (by kernel_rfl) (by simp) ?_
        refine (AllReadyH.cons (by (simp only [List.getElem?_toArray, List.getElem?_cons_succ, List.getElem?_cons_zero]; rfl)) (fun K hK => ?_) AllReadyH.nil)
        (refine step_store_bk rfl 85 (.tmp 10) (.tmp 22) rfl _ (gcells g) rfl rfl 85 Try.zeroCells85 (by repeat (first | exact Bk.new _ 85 Try.zeroCells85 _ (by simp) | refine Bk.ext ?_ hb8 | refine Bk.alloc ?_ _ | refine Bk.ext ?_ ((Below.refl _ _).drew))) (by rw [zsize, gcells_size, hgl]) (ginfo _ hgl) (gcells_one _) ?_; intro w13 k13 G13; have hG13 := G13)
        refine hK.out _ _ ?r27_34_hS (fun hHeld => ?r27_34_r)
        case r27_34_hS => (try dsimp only); first | assumption | exact GcS.keep hlt1 (by assumption) ((Below.refl _ _).drew) | exact GcS.keep hlt1 (by assumption) (by assumption) | exact GcS.keep hlt1 (by assumption) ((Below.refl _ _).alloc (Nat.le_refl _) _) | exact GcS.keepG hlt1 (by assumption) hG13 (by first | omega | (simp; done) | (have h9 := hb8.size; simp at h9 ⊢; omega))
        clear hK K
        try simp only [Act.put, List.setIfInBounds_toArray, List.set_cons_zero, List.set_cons_succ]
        refine wpAnyH_take (i := 14) (v := ?r27_35_vv) (by (simp only [List.getElem?_toArray, List.getElem?_cons_succ, List.getElem?_cons_zero]; rfl)) (by kernel_rfl) (by kernel_rfl) (by kernel_rfl) (by exact fun _ _ _ h => h) (Or.inl ⟨by rfl, ?r27_35_hy⟩) (by assumption) ?r27_35_rest
        case r27_35_hy => intro w hSw; (try dsimp only at hSw); (go_simp <;> (with_reducible rfl))
        try simp only [Act.put, List.setIfInBounds_toArray, List.set_cons_zero, List.set_cons_succ]
        refine wpAnyH_done (by kernel_rfl) ?_ _
        have hS13 : GcS W1 (W.heap.size + 1) p w13 := by assumption
        obtain ⟨hB13, p0', p1'⟩ := hS13
        have HB13 := Lib.hid (show Below W.heap.size W w13 from HB.out.trans (hB13.mono HB.out.size))
        have K13 := Lib.hid k13
        have HGR := Lib.hid hgr
        clear hB13
        clear k13
        clear hgr
        clear hb8
        repeat clear hHeld
        by_cases hc : CC = 0
        · have hE := Lib.hid (hR.out.trans (if_pos (hCC.out.symm.trans hc)))
          obtain ⟨hc2, ⟨y0, y1⟩, hway⟩ := growC_ok (hCC.out.symm.trans hc)
          obtain ⟨hv, hpts⟩ := cornC_ok hc2
          obtain ⟨⟨w0, w1'⟩, ⟨h0, h1⟩, hl⟩ := sqOk_edges hv
          obtain ⟨⟨x0, x1⟩, z0, z1⟩ := hpts p (by simp)
          obtain ⟨ny, hny⟩ : ∃ ny : Nat, years = (ny : Int) := ⟨years.toNat, (Int.toNat_of_nonneg y0).symm⟩
          subst hny
          have hgg := HGR.out hc
          subst hgg
          have qg := Lib.hid (sGrow_calls w h sl hl ⟨w1', h1⟩ p ⟨x0, x1⟩ ⟨z0, z1⟩ way (hway way (by simp)) ny (by omega) _ w13 K13.out)
          rw [show ((ny : Int)).toNat = ny from Int.toNat_natCast ny] at hE
          have hcb : (CC == 0) = true := by simpa using hc
          have hcb2 : (CC != 0) = false := by simpa using hc
          clear hc hc2 hv hpts hl hway hR
          unfold Cell.v at qg
          generalize growL sl ny [p] p way = us at *
          go_wp2_with fail
          refine qg.out.mono ?_
          rintro e w20 ⟨g20, c20, rfl, hO, hb20⟩
          have HO := Lib.hid (hO.more HB13.out.size)
          have HB20 := Lib.hid (ext_trans HB13.out hb20)
          clear hO hb20
          go_wp2_with fail
          go_ret2
          rw [hE.out]
          exact RetC2.mk rfl HO.out HB20.out
        · have hE := Lib.hid (hR.out.trans (if_neg (fun h0 => hc (hCC.out.trans h0))))
          have hcb : (CC == 0) = false := by simpa using hc
          have hcb2 : (CC != 0) = true := by simpa using hc
          clear hc hR
          go_wp2_with fail
          go_ret2
          rw [hE.out]
          exact RetC2.mk hCC.out (Own.empty (α := Cell) (c := Cell.c) (sz := 2) (E := 36) w13 W.heap.size _ (by simp) HB13.out.size) (ext_alloc HB13.out _)
    · go_simp
      (go_at_call 72; with_reducible refine (qw.out _).mono ?_; rintro e w3 ⟨rfl, rfl⟩)
      try go_wp2_with fail
      refine hK.out _ _ ?r27_36_hS (fun hHeld => ?r27_36_r)
      case r27_36_hS => (try dsimp only); first | assumption | exact GcS.keep hlt1 (by assumption) ((Below.refl _ _).drew) | exact GcS.keep hlt1 (by assumption) (by assumption) | exact GcS.keep hlt1 (by assumption) ((Below.refl _ _).alloc (Nat.le_refl _) _) | exact GcS.keepG hlt1 (by assumption) hG13 (by first | omega | (simp; done) | (have h9 := hb8.size; simp at h9 ⊢; omega))
      clear hK K
      try simp only [Act.put, List.setIfInBounds_toArray, List.set_cons_zero, List.set_cons_succ]
      refine wpAnyH_take (i := 4) (v := ?r27_37_vv) (by (simp only [List.getElem?_toArray, List.getElem?_cons_succ, List.getElem?_cons_zero]; rfl)) (by kernel_rfl) (by kernel_rfl) (by kernel_rfl) (by exact fun _ _ _ h => h) (Or.inl ⟨by rfl, ?r27_37_hy⟩) (by assumption) ?r27_37_rest
      case r27_37_hy => intro w hSw; (try dsimp only at hSw); (go_simp <;> (with_reducible rfl))
      try simp only [Act.put, List.setIfInBounds_toArray, List.set_cons_zero, List.set_cons_succ]
      refine wpAnyH_take (i := 5) (v := undef) (by (simp only [List.getElem?_toArray, List.getElem?_cons_succ, List.getElem?_cons_zero]; rfl)) (by kernel_rfl) (by kernel_rfl) (by kernel_rfl) (by exact fun _ _ _ h => h) (Or.inr ⟨by rfl, rfl⟩) (by assumption) ?_
      try simp only [Act.put, List.setIfInBounds_toArray, List.set_cons_zero, List.set_cons_succ]
      refine wpAnyH_take (i := 6) (v := undef) (by (simp only [List.getElem?_toArray, List.getElem?_cons_succ, List.getElem?_cons_zero]; rfl)) (by kernel_rfl) (by kernel_rfl) (by kernel_rfl) (by exact fun _ _ _ h => h) (Or.inr ⟨by rfl, rfl⟩) (by assumption) ?_
      try simp only [Act.put, List.setIfInBounds_toArray, List.set_cons_zero, List.set_cons_succ]
      refine wpAnyH_take (i := 7) (v := ?r27_40_vv) (by (simp only [List.getElem?_toArray, List.getElem?_cons_succ, List.getElem?_cons_zero]; rfl)) (by kernel_rfl) (by kernel_rfl) (by kernel_rfl) (by exact fun _ _ _ h => h) (Or.inl ⟨by rfl, ?r27_40_hy⟩) (by assumption) ?r27_40_rest
      case r27_40_hy => intro w hSw; (try dsimp only at hSw); (go_simp <;> (with_reducible rfl))
      try simp only [Act.put, List.setIfInBounds_toArray, List.set_cons_zero, List.set_cons_succ]
      refine wpAnyH_ready (rs := [1, 12]) (by kernel_rfl) (by simp) ?_
      refine (AllReadyH.cons (by (simp only [List.getElem?_toArray, List.getElem?_cons_succ, List.getElem?_cons_zero]; rfl)) (fun K hK => ?_) (AllReadyH.cons (by (simp only [List.getElem?_toArray, List.getElem?_cons_succ, List.getElem?_cons_zero]; rfl)) (fun K hK => ?_) AllReadyH.nil))
      · go_simp
        refine hK.out _ _ ?r27_41_hS (fun hHeld => ?r27_41_r)
        case r27_41_hS => (try dsimp only); first | assumption | exact GcS.keep hlt1 (by assumption) ((Below.refl _ _).drew) | exact GcS.keep hlt1 (by assumption) (by assumption) | exact GcS.keep hlt1 (by assumption) ((Below.refl _ _).alloc (Nat.le_refl _) _) | exact GcS.keepG hlt1 (by assumption) hG13 (by first | omega | (simp; done) | (have h9 := hb8.size; simp at h9 ⊢; omega))
        clear hK K
        try simp only [Act.put, List.setIfInBounds_toArray, List.set_cons_zero, List.set_cons_succ]
        refine wpAnyH_ready (rs := [8, 12]) (by kernel_rfl) (by simp) ?_
        refine (AllReadyH.cons (by (simp only [List.getElem?_toArray, List.getElem?_cons_succ, List.getElem?_cons_zero]; rfl)) (fun K hK => ?_) (AllReadyH.cons (by (simp only [List.getElem?_toArray, List.getElem?_cons_succ, List.getElem?_cons_zero]; rfl)) (fun K hK => ?_) AllReadyH.nil))
        · go_simp
          (go_at_call 58; refine (qt.out _ _ (by assumption) (by repeat (first | with_reducible exact sl1c _ p _ (by simp) _ | refine Sl.alloc ?_ _ | refine Sl.ext ?_ ((Below.refl _ _).drew)))).mono ?_; rintro e w8 ⟨g, rfl, hgl, hgr, hb8⟩)
          try go_wp2_with fail
          refine hK.out _ _ ?r27_42_hS (fun hHeld => ?r27_42_r)
          case r27_42_hS => (try dsimp only); first | assumption | exact GcS.keep hlt1 (by assumption) ((Below.refl _ _).drew) | exact GcS.keep hlt1 (by assumption) (by assumption) | exact GcS.keep hlt1 (by assumption) ((Below.refl _ _).alloc (Nat.le_refl _) _) | exact GcS.keepG hlt1 (by assumption) hG13 (by first | omega | (simp; done) | (have h9 := hb8.size; simp at h9 ⊢; omega))
          clear hK K
          try simp only [Act.put, List.setIfInBounds_toArray, List.set_cons_zero, List.set_cons_succ]
          refine wpAnyH_take (i := 9) (v := ?r27_43_vv) (by (simp only [List.getElem?_toArray, List.getElem?_cons_succ, List.getElem?_cons_zero]; rfl)) (by kernel_rfl) (by kernel_rfl) (by kernel_rfl) (by exact fun _ _ _ h => h) (Or.inl ⟨by rfl, ?r27_43_hy⟩) (by assumption) ?r27_43_rest
          case r27_43_hy => intro w hSw; (try dsimp only at hSw); (go_simp <;> (with_reducible rfl))
          try simp only [Act.put, List.setIfInBounds_toArray, List.set_cons_zero, List.set_cons_succ]
          refine wpAnyH_take (i := 10) (v := ?r27_44_vv) (by (simp only [List.getElem?_toArray, List.getElem?_cons_succ, List.getElem?_cons_zero]; rfl)) (by kernel_rfl) (by kernel_rfl) (by kernel_rfl) (by exact fun _ _ _ h => h) (Or.inl ⟨by rfl, ?r27_44_hy⟩) (by assumption) ?r27_44_rest
          case r27_44_hy => intro w hSw; (try dsimp only at hSw); (go_simp <;> (with_reducible rfl))
          try simp only [Act.put, List.setIfInBounds_toArray, List.set_cons_zero, List.set_cons_succ]
          refine wpAnyH_take (i := 11) (v := ?r27_45_vv) (by (simp only [List.getElem?_toArray, List.getElem?_cons_succ, List.getElem?_cons_zero]; rfl)) (by kernel_rfl) (by kernel_rfl) (by kernel_rfl) (by exact fun _ _ _ h => h) (Or.inl ⟨by rfl, ?r27_45_hy⟩) (by assumption) ?r27_45_rest
          case r27_45_hy => intro w hSw; (try dsimp only at hSw); (go_simp <;> (with_reducible rfl))
          try simp only [Act.put, List.setIfInBounds_toArray, List.set_cons_zero, List.set_cons_succ]
          refine wpAnyH_ready (rs := [12]) (by kernel_rfl) (by simp) ?_
          refine (AllReadyH.cons (by (simp only [List.getElem?_toArray, List.getElem?_cons_succ, List.getElem?_cons_zero]; rfl)) (fun K hK => ?_) AllReadyH.nil)
          go_simp
          refine hK.out _ _ ?r27_46_hS (fun hHeld => ?r27_46_r)
          case r27_46_hS => (try dsimp only); first | assumption | exact GcS.keep hlt1 (by assumption) ((Below.refl _ _).drew) | exact GcS.keep hlt1 (by assumption) (by assumption) | exact GcS.keep hlt1 (by assumption) ((Below.refl _ _).alloc (Nat.le_refl _) _) | exact GcS.keepG hlt1 (by assumption) hG13 (by first | omega | (simp; done) | (have h9 := hb8.size; simp at h9 ⊢; omega))
          clear hK K
          try simp only [Act.put, List.setIfInBounds_toArray, List.set_cons_zero, List.set_cons_succ]
          refine wpAnyH_ready (rs := [13]) (by kernel_rfl) (by simp) ?_
          refine (AllReadyH.cons (by (simp only [List.getElem?_toArray, List.getElem?_cons_succ, List.getElem?_cons_zero]; rfl)) (fun K hK => ?_) AllReadyH.nil)
          (refine step_store_bk rfl 85 (.tmp 10) (.tmp 22) rfl _ (gcells g) rfl rfl 85 Try.zeroCells85 (by repeat (first | exact Bk.new _ 85 Try.zeroCells85 _ (by simp) | refine Bk.ext ?_ hb8 | refine Bk.alloc ?_ _ | refine Bk.ext ?_ ((Below.refl _ _).drew))) (by rw [zsize, gcells_size, hgl]) (ginfo _ hgl) (gcells_one _) ?_; intro w13 k13 G13; have hG13 := G13)
          refine hK.out _ _ ?r27_47_hS (fun hHeld => ?r27_47_r)
          case r27_47_hS => (try dsimp only); first | assumption | exact GcS.keep hlt1 (by assumption) ((Below.refl _ _).drew) | exact GcS.keep hlt1 (by assumption) (by assumption) | exact GcS.keep hlt1 (by assumption) ((Below.refl _ _).alloc (Nat.le_refl _) _) | exact GcS.keepG hlt1 (by assumption) hG13 (by first | omega | (simp; done) | (have h9 := hb8.size; simp at h9 ⊢; omega))
          clear hK K
          try simp only [Act.put, List.setIfInBounds_toArray, List.set_cons_zero, List.set_cons_succ]
          refine wpAnyH_take (i := 14) (v := ?r27_48_vv) (by (simp only [List.getElem?_toArray, List.getElem?_cons_succ, List.getElem?_cons_zero]; rfl)) (by kernel_rfl) (by kernel_rfl) (by kernel_rfl) (by exact fun _ _ _ h => h) (Or.inl ⟨by rfl, ?r27_48_hy⟩) (by assumption) ?r27_48_rest
          case r27_48_hy => intro w hSw; (try dsimp only at hSw); (go_simp <;> (with_reducible rfl))
          try simp only [Act.put, List.setIfInBounds_toArray, List.set_cons_zero, List.set_cons_succ]
          refine wpAnyH_done (by kernel_rfl) ?_ _
          have hS13 : GcS W1 (W.heap.size + 1) p w13 := by assumption
          obtain ⟨hB13, p0', p1'⟩ := hS13
          have HB13 := Lib.hid (show Below W.heap.size W w13 from HB.out.trans (hB13.mono HB.out.size))
          have K13 := Lib.hid k13
          have HGR := Lib.hid hgr
          clear hB13
          clear k13
          clear hgr
          clear hb8
          repeat clear hHeld
          by_cases hc : CC = 0
          · have hE := Lib.hid (hR.out.trans (if_pos (hCC.out.symm.trans hc)))
            obtain ⟨hc2, ⟨y0, y1⟩, hway⟩ := growC_ok (hCC.out.symm.trans hc)
            obtain ⟨hv, hpts⟩ := cornC_ok hc2
            obtain ⟨⟨w0, w1'⟩, ⟨h0, h1⟩, hl⟩ := sqOk_edges hv
            obtain ⟨⟨x0, x1⟩, z0, z1⟩ := hpts p (by simp)
            obtain ⟨ny, hny⟩ : ∃ ny : Nat, years = (ny : Int) := ⟨years.toNat, (Int.toNat_of_nonneg y0).symm⟩
            subst hny
            have hgg := HGR.out hc
            subst hgg
            have qg := Lib.hid (sGrow_calls w h sl hl ⟨w1', h1⟩ p ⟨x0, x1⟩ ⟨z0, z1⟩ way (hway way (by simp)) ny (by omega) _ w13 K13.out)
            rw [show ((ny : Int)).toNat = ny from Int.toNat_natCast ny] at hE
            have hcb : (CC == 0) = true := by simpa using hc
            have hcb2 : (CC != 0) = false := by simpa using hc
            clear hc hc2 hv hpts hl hway hR
            unfold Cell.v at qg
            generalize growL sl ny [p] p way = us at *
            go_wp2_with fail
            refine qg.out.mono ?_
            rintro e w20 ⟨g20, c20, rfl, hO, hb20⟩
            have HO := Lib.hid (hO.more HB13.out.size)
            have HB20 := Lib.hid (ext_trans HB13.out hb20)
            clear hO hb20
            go_wp2_with fail
            go_ret2
            rw [hE.out]
            exact RetC2.mk rfl HO.out HB20.out
          · have hE := Lib.hid (hR.out.trans (if_neg (fun h0 => hc (hCC.out.trans h0))))
            have hcb : (CC == 0) = false := by simpa using hc
            have hcb2 : (CC != 0) = true := by simpa using hc
            clear hc hR
            go_wp2_with fail
            go_ret2
            rw [hE.out]
            exact RetC2.mk hCC.out (Own.empty (α := Cell) (c := Cell.c) (sz := 2) (E := 36) w13 W.heap.size _ (by simp) HB13.out.size) (ext_alloc HB13.out _)
        · go_simp
          refine hK.out _ _ ?r27_49_hS (fun hHeld => ?r27_49_r)
          case r27_49_hS => (try dsimp only); first | assumption | exact GcS.keep hlt1 (by assumption) ((Below.refl _ _).drew) | exact GcS.keep hlt1 (by assumption) (by assumption) | exact GcS.keep hlt1 (by assumption) ((Below.refl _ _).alloc (Nat.le_refl _) _) | exact GcS.keepG hlt1 (by assumption) hG13 (by first | omega | (simp; done) | (have h9 := hb8.size; simp at h9 ⊢; omega))
          clear hK K
          try simp only [Act.put, List.setIfInBounds_toArray, List.set_cons_zero, List.set_cons_succ]
          refine wpAnyH_ready (rs := [8]) (by kernel_rfl) (by simp) ?_
          refine (AllReadyH.cons (by (simp only [List.getElem?_toArray, List.getElem?_cons_succ, List.getElem?_cons_zero]; rfl)) (fun K hK => ?_) AllReadyH.nil)
          go_simp
          (go_at_call 58; refine (qt.out _ _ (by assumption) (by repeat (first | with_reducible exact sl1c _ p _ (by simp) _ | refine Sl.alloc ?_ _ | refine Sl.ext ?_ ((Below.refl _ _).drew)))).mono ?_; rintro e w8 ⟨g, rfl, hgl, hgr, hb8⟩)
          try go_wp2_with fail
          refine hK.out _ _ ?r27_50_hS (fun hHeld => ?r27_50_r)
          case r27_50_hS => (try dsimp only); first | assumption | exact GcS.keep hlt1 (by assumption) ((Below.refl _ _).drew) | exact GcS.keep hlt1 (by assumption) (by assumption) | exact GcS.keep hlt1 (by assumption) ((Below.refl _ _).alloc (Nat.le_refl _) _) | exact GcS.keepG hlt1 (by assumption) hG13 (by first | omega | (simp; done) | (have h9 := hb8.size; simp at h9 ⊢; omega))
          clear hK K
          try simp only [Act.put, List.setIfInBounds_toArray, List.set_cons_zero, List.set_cons_succ]
          refine wpAnyH_take (i := 9) (v := ?r27_51_vv) (by (simp only [List.getElem?_toArray, List.getElem?_cons_succ, List.getElem?_cons_zero]; rfl)) (by kernel_rfl) (by kernel_rfl) (by kernel_rfl) (by exact fun _ _ _ h => h) (Or.inl ⟨by rfl, ?r27_51_hy⟩) (by assumption) ?r27_51_rest
          case r27_51_hy => intro w hSw; (try dsimp only at hSw); (go_simp <;> (with_reducible rfl))
          try simp only [Act.put, List.setIfInBounds_toArray, List.set_cons_zero, List.set_cons_succ]
          refine wpAnyH_take (i := 10) (v := ?r27_52_vv) (by (simp only [List.getElem?_toArray, List.getElem?_cons_succ, List.getElem?_cons_zero]; rfl)) (by kernel_rfl) (by kernel_rfl) (by kernel_rfl) (by exact fun _ _ _ h => h) (Or.inl ⟨by rfl, ?r27_52_hy⟩) (by assumption) ?r27_52_rest
          case r27_52_hy => intro w hSw; (try dsimp only at hSw); (go_simp <;> (with_reducible rfl))
          try simp only [Act.put, List.setIfInBounds_toArray, List.set_cons_zero, List.set_cons_succ]
          refine wpAnyH_take (i := 11) (v := ?r27_53_vv) (by (simp only [List.getElem?_toArray, List.getElem?_cons_succ, List.getElem?_cons_zero]; rfl)) (by kernel_rfl) (by kernel_rfl) (by kernel_rfl) (by exact fun _ _ _ h => h) (Or.inl ⟨by rfl, ?r27_53_hy⟩) (by assumption) ?r27_53_rest
          case r27_53_hy => intro w hSw; (try dsimp only at hSw); (go_simp <;> (with_reducible rfl))
          try simp only [Act.put, List.setIfInBounds_toArray, List.set_cons_zero, List.set_cons_succ]
          refine wpAnyH_ready (rs := [13]) (by kernel_rfl) (by simp) ?_
          refine (AllReadyH.cons (by (simp only [List.getElem?_toArray, List.getElem?_cons_succ, List.getElem?_cons_zero]; rfl)) (fun K hK => ?_) AllReadyH.nil)
          (refine step_store_bk rfl 85 (.tmp 10) (.tmp 22) rfl _ (gcells g) rfl rfl 85 Try.zeroCells85 (by repeat (first | exact Bk.new _ 85 Try.zeroCells85 _ (by simp) | refine Bk.ext ?_ hb8 | refine Bk.alloc ?_ _ | refine Bk.ext ?_ ((Below.refl _ _).drew))) (by rw [zsize, gcells_size, hgl]) (ginfo _ hgl) (gcells_one _) ?_; intro w13 k13 G13; have hG13 := G13)
          refine hK.out _ _ ?r27_54_hS (fun hHeld => ?r27_54_r)
          case r27_54_hS => (try dsimp only); first | assumption | exact GcS.keep hlt1 (by assumption) ((Below.refl _ _).drew) | exact GcS.keep hlt1 (by assumption) (by assumption) | exact GcS.keep hlt1 (by assumption) ((Below.refl _ _).alloc (Nat.le_refl _) _) | exact GcS.keepG hlt1 (by assumption) hG13 (by first | omega | (simp; done) | (have h9 := hb8.size; simp at h9 ⊢; omega))
          clear hK K
          try simp only [Act.put, List.setIfInBounds_toArray, List.set_cons_zero, List.set_cons_succ]
          refine wpAnyH_take (i := 14) (v := ?r27_55_vv) (by (simp only [List.getElem?_toArray, List.getElem?_cons_succ, List.getElem?_cons_zero]; rfl)) (by kernel_rfl) (by kernel_rfl) (by kernel_rfl) (by exact fun _ _ _ h => h) (Or.inl ⟨by rfl, ?r27_55_hy⟩) (by assumption) ?r27_55_rest
          case r27_55_hy => intro w hSw; (try dsimp only at hSw); (go_simp <;> (with_reducible rfl))
          try simp only [Act.put, List.setIfInBounds_toArray, List.set_cons_zero, List.set_cons_succ]
          refine wpAnyH_done (by kernel_rfl) ?_ _
          have hS13 : GcS W1 (W.heap.size + 1) p w13 := by assumption
          obtain ⟨hB13, p0', p1'⟩ := hS13
          have HB13 := Lib.hid (show Below W.heap.size W w13 from HB.out.trans (hB13.mono HB.out.size))
          have K13 := Lib.hid k13
          have HGR := Lib.hid hgr
          clear hB13
          clear k13
          clear hgr
          clear hb8
          repeat clear hHeld
          by_cases hc : CC = 0
          · have hE := Lib.hid (hR.out.trans (if_pos (hCC.out.symm.trans hc)))
            obtain ⟨hc2, ⟨y0, y1⟩, hway⟩ := growC_ok (hCC.out.symm.trans hc)
            obtain ⟨hv, hpts⟩ := cornC_ok hc2
            obtain ⟨⟨w0, w1'⟩, ⟨h0, h1⟩, hl⟩ := sqOk_edges hv
            obtain ⟨⟨x0, x1⟩, z0, z1⟩ := hpts p (by simp)
            obtain ⟨ny, hny⟩ : ∃ ny : Nat, years = (ny : Int) := ⟨years.toNat, (Int.toNat_of_nonneg y0).symm⟩
            subst hny
            have hgg := HGR.out hc
            subst hgg
            have qg := Lib.hid (sGrow_calls w h sl hl ⟨w1', h1⟩ p ⟨x0, x1⟩ ⟨z0, z1⟩ way (hway way (by simp)) ny (by omega) _ w13 K13.out)
            rw [show ((ny : Int)).toNat = ny from Int.toNat_natCast ny] at hE
            have hcb : (CC == 0) = true := by simpa using hc
            have hcb2 : (CC != 0) = false := by simpa using hc
            clear hc hc2 hv hpts hl hway hR
            unfold Cell.v at qg
            generalize growL sl ny [p] p way = us at *
            go_wp2_with fail
            refine qg.out.mono ?_
            rintro e w20 ⟨g20, c20, rfl, hO, hb20⟩
            have HO := Lib.hid (hO.more HB13.out.size)
            have HB20 := Lib.hid (ext_trans HB13.out hb20)
            clear hO hb20
            go_wp2_with fail
            go_ret2
            rw [hE.out]
            exact RetC2.mk rfl HO.out HB20.out
          · have hE := Lib.hid (hR.out.trans (if_neg (fun h0 => hc (hCC.out.trans h0))))
            have hcb : (CC == 0) = false := by simpa using hc
            have hcb2 : (CC != 0) = true := by simpa using hc
            clear hc hR
            go_wp2_with fail
            go_ret2
            rw [hE.out]
            exact RetC2.mk hCC.out (Own.empty (α := Cell) (c := Cell.c) (sz := 2) (E := 36) w13 W.heap.size _ (by simp) HB13.out.size) (ext_alloc HB13.out _)
      · go_simp
        refine hK.out _ _ ?r27_56_hS (fun hHeld => ?r27_56_r)
        case r27_56_hS => (try dsimp only); first | assumption | exact GcS.keep hlt1 (by assumption) ((Below.refl _ _).drew) | exact GcS.keep hlt1 (by assumption) (by assumption) | exact GcS.keep hlt1 (by assumption) ((Below.refl _ _).alloc (Nat.le_refl _) _) | exact GcS.keepG hlt1 (by assumption) hG13 (by first | omega | (simp; done) | (have h9 := hb8.size; simp at h9 ⊢; omega))
        clear hK K
        try simp only [Act.put, List.setIfInBounds_toArray, List.set_cons_zero, List.set_cons_succ]
        refine wpAnyH_ready (rs := [1]) (by kernel_rfl) (by simp) ?_
        refine (AllReadyH.cons (by (simp only [List.getElem?_toArray, List.getElem?_cons_succ, List.getElem?_cons_zero]; rfl)) (fun K hK => ?_) AllReadyH.nil)
        go_simp
        refine hK.out _ _ ?r27_57_hS (fun hHeld => ?r27_57_r)
        case r27_57_hS => (try dsimp only); first | assumption | exact GcS.keep hlt1 (by assumption) ((Below.refl _ _).drew) | exact GcS.keep hlt1 (by assumption) (by assumption) | exact GcS.keep hlt1 (by assumption) ((Below.refl _ _).alloc (Nat.le_refl _) _) | exact GcS.keepG hlt1 (by assumption) hG13 (by first | omega | (simp; done) | (have h9 := hb8.size; simp at h9 ⊢; omega))
        clear hK K
        try simp only [Act.put, List.setIfInBounds_toArray, List.set_cons_zero, List.set_cons_succ]
        refine wpAnyH_ready (rs := [8]) (by kernel_rfl) (by simp) ?_
        refine (AllReadyH.cons (by (simp only [List.getElem?_toArray, List.getElem?_cons_succ, List.getElem?_cons_zero]; rfl)) (fun K hK => ?_) AllReadyH.nil)
        go_simp
        (go_at_call 58; refine (qt.out _ _ (by assumption) (by repeat (first | with_reducible exact sl1c _ p _ (by simp) _ | refine Sl.alloc ?_ _ | refine Sl.ext ?_ ((Below.refl _ _).drew)))).mono ?_; rintro e w8 ⟨g, rfl, hgl, hgr, hb8⟩)
        try go_wp2_with fail
        refine hK.out _ _ ?r27_58_hS (fun hHeld => ?r27_58_r)
        case r27_58_hS => (try dsimp only); first | assumption | exact GcS.keep hlt1 (by assumption) ((Below.refl _ _).drew) | exact GcS.keep hlt1 (by assumption) (by assumption) | exact GcS.keep hlt1 (by assumption) ((Below.refl _ _).alloc (Nat.le_refl _) _) | exact GcS.keepG hlt1 (by assumption) hG13 (by first | omega | (simp; done) | (have h9 := hb8.size; simp at h9 ⊢; omega))
        clear hK K
        try simp only [Act.put, List.setIfInBounds_toArray, List.set_cons_zero, List.set_cons_succ]
        refine wpAnyH_take (i := 9) (v := ?r27_59_vv) (by (simp only [List.getElem?_toArray, List.getElem?_cons_succ, List.getElem?_cons_zero]; rfl)) (by kernel_rfl) (by kernel_rfl) (by kernel_rfl) (by exact fun _ _ _ h => h) (Or.inl ⟨by rfl, ?r27_59_hy⟩) (by assumption) ?r27_59_rest
        case r27_59_hy => intro w hSw; (try dsimp only at hSw); (go_simp <;> (with_reducible rfl))
        try simp only [Act.put, List.setIfInBounds_toArray, List.set_cons_zero, List.set_cons_succ]
        refine wpAnyH_take (i := 10) (v := ?r27_60_vv) (by (simp only [List.getElem?_toArray, List.getElem?_cons_succ, List.getElem?_cons_zero]; rfl)) (by kernel_rfl) (by kernel_rfl) (by kernel_rfl) (by exact fun _ _ _ h => h) (Or.inl ⟨by rfl, ?r27_60_hy⟩) (by assumption) ?r27_60_rest
        case r27_60_hy => intro w hSw; (try dsimp only at hSw); (go_simp <;> (with_reducible rfl))
        try simp only [Act.put, List.setIfInBounds_toArray, List.set_cons_zero, List.set_cons_succ]
        refine wpAnyH_take (i := 11) (v := ?r27_61_vv) (by (simp only [List.getElem?_toArray, List.getElem?_cons_succ, List.getElem?_cons_zero]; rfl)) (by kernel_rfl) (by kernel_rfl) (by kernel_rfl) (by exact fun _ _ _ h => h) (Or.inl ⟨by rfl, ?r27_61_hy⟩) (by assumption) ?r27_61_rest
        case r27_61_hy => intro w hSw; (try dsimp only at hSw); (go_simp <;> (with_reducible rfl))
        try simp only [Act.put, List.setIfInBounds_toArray, List.set_cons_zero, List.set_cons_succ]
        refine wpAnyH_ready (rs := [13]) (by kernel_rfl) (by simp) ?_
        refine (AllReadyH.cons (by (simp only [List.getElem?_toArray, List.getElem?_cons_succ, List.getElem?_cons_zero]; rfl)) (fun K hK => ?_) AllReadyH.nil)
        (refine step_store_bk rfl 85 (.tmp 10) (.tmp 22) rfl _ (gcells g) rfl rfl 85 Try.zeroCells85 (by repeat (first | exact Bk.new _ 85 Try.zeroCells85 _ (by simp) | refine Bk.ext ?_ hb8 | refine Bk.alloc ?_ _ | refine Bk.ext ?_ ((Below.refl _ _).drew))) (by rw [zsize, gcells_size, hgl]) (ginfo _ hgl) (gcells_one _) ?_; intro w13 k13 G13; have hG13 := G13)
        refine hK.out _ _ ?r27_62_hS (fun hHeld => ?r27_62_r)
        case r27_62_hS => (try dsimp only); first | assumption | exact GcS.keep hlt1 (by assumption) ((Below.refl _ _).drew) | exact GcS.keep hlt1 (by assumption) (by assumption) | exact GcS.keep hlt1 (by assumption) ((Below.refl _ _).alloc (Nat.le_refl _) _) | exact GcS.keepG hlt1 (by assumption) hG13 (by first | omega | (simp; done) | (have h9 := hb8.size; simp at h9 ⊢; omega))
        clear hK K
        try simp only [Act.put, List.setIfInBounds_toArray, List.set_cons_zero, List.set_cons_succ]
        refine wpAnyH_take (i := 14) (v := ?r27_63_vv) (by (simp only [List.getElem?_toArray, List.getElem?_cons_succ, List.getElem?_cons_zero]; rfl)) (by kernel_rfl) (by kernel_rfl) (by kernel_rfl) (by exact fun _ _ _ h => h) (Or.inl ⟨by rfl, ?r27_63_hy⟩) (by assumption) ?r27_63_rest
        case r27_63_hy => intro w hSw; (try dsimp only at hSw); (go_simp <;> (with_reducible rfl))
        try simp only [Act.put, List.setIfInBounds_toArray, List.set_cons_zero, List.set_cons_succ]
        refine wpAnyH_done (by kernel_rfl) ?_ _
        have hS13 : GcS W1 (W.heap.size + 1) p w13 := by assumption
        obtain ⟨hB13, p0', p1'⟩ := hS13
        have HB13 := Lib.hid (show Below W.heap.size W w13 from HB.out.trans (hB13.mono HB.out.size))
        have K13 := Lib.hid k13
        have HGR := Lib.hid hgr
        clear hB13
        clear k13
        clear hgr
        clear hb8
        repeat clear hHeld
        by_cases hc : CC = 0
        · have hE := Lib.hid (hR.out.trans (if_pos (hCC.out.symm.trans hc)))
          obtain ⟨hc2, ⟨y0, y1⟩, hway⟩ := growC_ok (hCC.out.symm.trans hc)
          obtain ⟨hv, hpts⟩ := cornC_ok hc2
          obtain ⟨⟨w0, w1'⟩, ⟨h0, h1⟩, hl⟩ := sqOk_edges hv
          obtain ⟨⟨x0, x1⟩, z0, z1⟩ := hpts p (by simp)
          obtain ⟨ny, hny⟩ : ∃ ny : Nat, years = (ny : Int) := ⟨years.toNat, (Int.toNat_of_nonneg y0).symm⟩
          subst hny
          have hgg := HGR.out hc
          subst hgg
          have qg := Lib.hid (sGrow_calls w h sl hl ⟨w1', h1⟩ p ⟨x0, x1⟩ ⟨z0, z1⟩ way (hway way (by simp)) ny (by omega) _ w13 K13.out)
          rw [show ((ny : Int)).toNat = ny from Int.toNat_natCast ny] at hE
          have hcb : (CC == 0) = true := by simpa using hc
          have hcb2 : (CC != 0) = false := by simpa using hc
          clear hc hc2 hv hpts hl hway hR
          unfold Cell.v at qg
          generalize growL sl ny [p] p way = us at *
          go_wp2_with fail
          refine qg.out.mono ?_
          rintro e w20 ⟨g20, c20, rfl, hO, hb20⟩
          have HO := Lib.hid (hO.more HB13.out.size)
          have HB20 := Lib.hid (ext_trans HB13.out hb20)
          clear hO hb20
          go_wp2_with fail
          go_ret2
          rw [hE.out]
          exact RetC2.mk rfl HO.out HB20.out
        · have hE := Lib.hid (hR.out.trans (if_neg (fun h0 => hc (hCC.out.trans h0))))
          have hcb : (CC == 0) = false := by simpa using hc
          have hcb2 : (CC != 0) = true := by simpa using hc
          clear hc hR
          go_wp2_with fail
          go_ret2
          rw [hE.out]
          exact RetC2.mk hCC.out (Own.empty (α := Cell) (c := Cell.c) (sz := 2) (E := 36) w13 W.heap.size _ (by simp) HB13.out.size) (ext_alloc HB13.out _)
    · go_simp
      refine hK.out _ _ ?r27_64_hS (fun hHeld => ?r27_64_r)
      case r27_64_hS => (try dsimp only); first | assumption | exact GcS.keep hlt1 (by assumption) ((Below.refl _ _).drew) | exact GcS.keep hlt1 (by assumption) (by assumption) | exact GcS.keep hlt1 (by assumption) ((Below.refl _ _).alloc (Nat.le_refl _) _) | exact GcS.keepG hlt1 (by assumption) hG13 (by first | omega | (simp; done) | (have h9 := hb8.size; simp at h9 ⊢; omega))
      clear hK K
      try simp only [Act.put, List.setIfInBounds_toArray, List.set_cons_zero, List.set_cons_succ]
      refine wpAnyH_ready (rs := [1, 3]) (by kernel_rfl) (by simp) ?_
      refine (AllReadyH.cons (by (simp only [List.getElem?_toArray, List.getElem?_cons_succ, List.getElem?_cons_zero]; rfl)) (fun K hK => ?_) (AllReadyH.cons (by (simp only [List.getElem?_toArray, List.getElem?_cons_succ, List.getElem?_cons_zero]; rfl)) (fun K hK => ?_) AllReadyH.nil))
      · go_simp
        refine hK.out _ _ ?r27_65_hS (fun hHeld => ?r27_65_r)
        case r27_65_hS => (try dsimp only); first | assumption | exact GcS.keep hlt1 (by assumption) ((Below.refl _ _).drew) | exact GcS.keep hlt1 (by assumption) (by assumption) | exact GcS.keep hlt1 (by assumption) ((Below.refl _ _).alloc (Nat.le_refl _) _) | exact GcS.keepG hlt1 (by assumption) hG13 (by first | omega | (simp; done) | (have h9 := hb8.size; simp at h9 ⊢; omega))
        clear hK K
        try simp only [Act.put, List.setIfInBounds_toArray, List.set_cons_zero, List.set_cons_succ]
        refine wpAnyH_ready (rs := [3]) (by kernel_rfl) (by simp) ?_
        refine (AllReadyH.cons (by (simp only [List.getElem?_toArray, List.getElem?_cons_succ, List.getElem?_cons_zero]; rfl)) (fun K hK => ?_) AllReadyH.nil)
        go_simp
        (go_at_call 72; with_reducible refine (qw.out _).mono ?_; rintro e w3 ⟨rfl, rfl⟩)
        try go_wp2_with fail
        refine hK.out _ _ ?r27_66_hS (fun hHeld => ?r27_66_r)
        case r27_66_hS => (try dsimp only); first | assumption | exact GcS.keep hlt1 (by assumption) ((Below.refl _ _).drew) | exact GcS.keep hlt1 (by assumption) (by assumption) | exact GcS.keep hlt1 (by assumption) ((Below.refl _ _).alloc (Nat.le_refl _) _) | exact GcS.keepG hlt1 (by assumption) hG13 (by first | omega | (simp; done) | (have h9 := hb8.size; simp at h9 ⊢; omega))
        clear hK K
        try simp only [Act.put, List.setIfInBounds_toArray, List.set_cons_zero, List.set_cons_succ]
        refine wpAnyH_take (i := 4) (v := ?r27_67_vv) (by (simp only [List.getElem?_toArray, List.getElem?_cons_succ, List.getElem?_cons_zero]; rfl)) (by kernel_rfl) (by kernel_rfl) (by kernel_rfl) (by exact fun _ _ _ h => h) (Or.inl ⟨by rfl, ?r27_67_hy⟩) (by assumption) ?r27_67_rest
        case r27_67_hy => intro w hSw; (try dsimp only at hSw); (go_simp <;> (with_reducible rfl))
        try simp only [Act.put, List.setIfInBounds_toArray, List.set_cons_zero, List.set_cons_succ]
        refine wpAnyH_take (i := 5) (v := undef) (by (simp only [List.getElem?_toArray, List.getElem?_cons_succ, List.getElem?_cons_zero]; rfl)) (by kernel_rfl) (by kernel_rfl) (by kernel_rfl) (by exact fun _ _ _ h => h) (Or.inr ⟨by rfl, rfl⟩) (by assumption) ?_
        try simp only [Act.put, List.setIfInBounds_toArray, List.set_cons_zero, List.set_cons_succ]
        refine wpAnyH_take (i := 6) (v := undef) (by (simp only [List.getElem?_toArray, List.getElem?_cons_succ, List.getElem?_cons_zero]; rfl)) (by kernel_rfl) (by kernel_rfl) (by kernel_rfl) (by exact fun _ _ _ h => h) (Or.inr ⟨by rfl, rfl⟩) (by assumption) ?_
        try simp only [Act.put, List.setIfInBounds_toArray, List.set_cons_zero, List.set_cons_succ]
        refine wpAnyH_take (i := 7) (v := ?r27_70_vv) (by (simp only [List.getElem?_toArray, List.getElem?_cons_succ, List.getElem?_cons_zero]; rfl)) (by kernel_rfl) (by kernel_rfl) (by kernel_rfl) (by exact fun _ _ _ h => h) (Or.inl ⟨by rfl, ?r27_70_hy⟩) (by assumption) ?r27_70_rest
        case r27_70_hy => intro w hSw; (try dsimp only at hSw); (go_simp <;> (with_reducible rfl))
        try simp only [Act.put, List.setIfInBounds_toArray, List.set_cons_zero, List.set_cons_succ]
        refine wpAnyH_ready (rs := [8]) (by kernel_rfl) (by simp) ?_
        refine (AllReadyH.cons (by (simp only [List.getElem?_toArray, List.getElem?_cons_succ, List.getElem?_cons_zero]; rfl)) (fun K hK => ?_) AllReadyH.nil)
        go_simp
        (go_at_call 58; refine (qt.out _ _ (by assumption) (by repeat (first | with_reducible exact sl1c _ p _ (by simp) _ | refine Sl.alloc ?_ _ | refine Sl.ext ?_ ((Below.refl _ _).drew)))).mono ?_; rintro e w8 ⟨g, rfl, hgl, hgr, hb8⟩)
        try go_wp2_with fail
        refine hK.out _ _ ?r27_71_hS (fun hHeld => ?r27_71_r)
        case r27_71_hS => (try dsimp only); first | assumption | exact GcS.keep hlt1 (by assumption) ((Below.refl _ _).drew) | exact GcS.keep hlt1 (by assumption) (by assumption) | exact GcS.keep hlt1 (by assumption) ((Below.refl _ _).alloc (Nat.le_refl _) _) | exact GcS.keepG hlt1 (by assumption) hG13 (by first | omega | (simp; done) | (have h9 := hb8.size; simp at h9 ⊢; omega))
        clear hK K
        try simp only [Act.put, List.setIfInBounds_toArray, List.set_cons_zero, List.set_cons_succ]
        refine wpAnyH_take (i := 9) (v := ?r27_72_vv) (by (simp only [List.getElem?_toArray, List.getElem?_cons_succ, List.getElem?_cons_zero]; rfl)) (by kernel_rfl) (by kernel_rfl) (by kernel_rfl) (by exact fun _ _ _ h => h) (Or.inl ⟨by rfl, ?r27_72_hy⟩) (by assumption) ?r27_72_rest
        case r27_72_hy => intro w hSw; (try dsimp only at hSw); (go_simp <;> (with_reducible rfl))
        try simp only [Act.put, List.setIfInBounds_toArray, List.set_cons_zero, List.set_cons_succ]
        refine wpAnyH_take (i := 10) (v := ?r27_73_vv) (by (simp only [List.getElem?_toArray, List.getElem?_cons_succ, List.getElem?_cons_zero]; rfl)) (by kernel_rfl) (by kernel_rfl) (by kernel_rfl) (by exact fun _ _ _ h => h) (Or.inl ⟨by rfl, ?r27_73_hy⟩) (by assumption) ?r27_73_rest
        case r27_73_hy => intro w hSw; (try dsimp only at hSw); (go_simp <;> (with_reducible rfl))
        try simp only [Act.put, List.setIfInBounds_toArray, List.set_cons_zero, List.set_cons_succ]
        refine wpAnyH_take (i := 11) (v := ?r27_74_vv) (by (simp only [List.getElem?_toArray, List.getElem?_cons_succ, List.getElem?_cons_zero]; rfl)) (by kernel_rfl) (by kernel_rfl) (by kernel_rfl) (by exact fun _ _ _ h => h) (Or.inl ⟨by rfl, ?r27_74_hy⟩) (by assumption) ?r27_74_rest
        case r27_74_hy => intro w hSw; (try dsimp only at hSw); (go_simp <;> (with_reducible rfl))
        try simp only [Act.put, List.setIfInBounds_toArray, List.set_cons_zero, List.set_cons_succ]
        refine wpAnyH_ready (rs := [13]) (by kernel_rfl) (by simp) ?_
        refine (AllReadyH.cons (by (simp only [List.getElem?_toArray, List.getElem?_cons_succ, List.getElem?_cons_zero]; rfl)) (fun K hK => ?_) AllReadyH.nil)
        (refine step_store_bk rfl 85 (.tmp 10) (.tmp 22) rfl _ (gcells g) rfl rfl 85 Try.zeroCells85 (by repeat (first | exact Bk.new _ 85 Try.zeroCells85 _ (by simp) | refine Bk.ext ?_ hb8 | refine Bk.alloc ?_ _ | refine Bk.ext ?_ ((Below.refl _ _).drew))) (by rw [zsize, gcells_size, hgl]) (ginfo _ hgl) (gcells_one _) ?_; intro w13 k13 G13; have hG13 := G13)
        refine hK.out _ _ ?r27_75_hS (fun hHeld => ?r27_75_r)
        case r27_75_hS => (try dsimp only); first | assumption | exact GcS.keep hlt1 (by assumption) ((Below.refl _ _).drew) | exact GcS.keep hlt1 (by assumption) (by assumption) | exact GcS.keep hlt1 (by assumption) ((Below.refl _ _).alloc (Nat.le_refl _) _) | exact GcS.keepG hlt1 (by assumption) hG13 (by first | omega | (simp; done) | (have h9 := hb8.size; simp at h9 ⊢; omega))
        clear hK K
        try simp only [Act.put, List.setIfInBounds_toArray, List.set_cons_zero, List.set_cons_succ]
        refine wpAnyH_take (i := 14) (v := ?r27_76_vv) (by (simp only [List.getElem?_toArray, List.getElem?_cons_succ, List.getElem?_cons_zero]; rfl)) (by kernel_rfl) (by kernel_rfl) (by kernel_rfl) (by exact fun _ _ _ h => h) (Or.inl ⟨by rfl, ?r27_76_hy⟩) (by assumption) ?r27_76_rest
        case r27_76_hy => intro w hSw; (try dsimp only at hSw); (go_simp <;> (with_reducible rfl))
        try simp only [Act.put, List.setIfInBounds_toArray, List.set_cons_zero, List.set_cons_succ]
        refine wpAnyH_done (by kernel_rfl) ?_ _
        have hS13 : GcS W1 (W.heap.size + 1) p w13 := by assumption
        obtain ⟨hB13, p0', p1'⟩ := hS13
        have HB13 := Lib.hid (show Below W.heap.size W w13 from HB.out.trans (hB13.mono HB.out.size))
        have K13 := Lib.hid k13
        have HGR := Lib.hid hgr
        clear hB13
        clear k13
        clear hgr
        clear hb8
        repeat clear hHeld
        by_cases hc : CC = 0
        · have hE := Lib.hid (hR.out.trans (if_pos (hCC.out.symm.trans hc)))
          obtain ⟨hc2, ⟨y0, y1⟩, hway⟩ := growC_ok (hCC.out.symm.trans hc)
          obtain ⟨hv, hpts⟩ := cornC_ok hc2
          obtain ⟨⟨w0, w1'⟩, ⟨h0, h1⟩, hl⟩ := sqOk_edges hv
          obtain ⟨⟨x0, x1⟩, z0, z1⟩ := hpts p (by simp)
          obtain ⟨ny, hny⟩ : ∃ ny : Nat, years = (ny : Int) := ⟨years.toNat, (Int.toNat_of_nonneg y0).symm⟩
          subst hny
          have hgg := HGR.out hc
          subst hgg
          have qg := Lib.hid (sGrow_calls w h sl hl ⟨w1', h1⟩ p ⟨x0, x1⟩ ⟨z0, z1⟩ way (hway way (by simp)) ny (by omega) _ w13 K13.out)
          rw [show ((ny : Int)).toNat = ny from Int.toNat_natCast ny] at hE
          have hcb : (CC == 0) = true := by simpa using hc
          have hcb2 : (CC != 0) = false := by simpa using hc
          clear hc hc2 hv hpts hl hway hR
          unfold Cell.v at qg
          generalize growL sl ny [p] p way = us at *
          go_wp2_with fail
          refine qg.out.mono ?_
          rintro e w20 ⟨g20, c20, rfl, hO, hb20⟩
          have HO := Lib.hid (hO.more HB13.out.size)
          have HB20 := Lib.hid (ext_trans HB13.out hb20)
          clear hO hb20
          go_wp2_with fail
          go_ret2
          rw [hE.out]
          exact RetC2.mk rfl HO.out HB20.out
        · have hE := Lib.hid (hR.out.trans (if_neg (fun h0 => hc (hCC.out.trans h0))))
          have hcb : (CC == 0) = false := by simpa using hc
          have hcb2 : (CC != 0) = true := by simpa using hc
          clear hc hR
          go_wp2_with fail
          go_ret2
          rw [hE.out]
          exact RetC2.mk hCC.out (Own.empty (α := Cell) (c := Cell.c) (sz := 2) (E := 36) w13 W.heap.size _ (by simp) HB13.out.size) (ext_alloc HB13.out _)
      · go_simp
        (go_at_call 72; with_reducible refine (qw.out _).mono ?_; rintro e w3 ⟨rfl, rfl⟩)
        try go_wp2_with fail
        refine hK.out _ _ ?r27_77_hS (fun hHeld => ?r27_77_r)
        case r27_77_hS => (try dsimp only); first | assumption | exact GcS.keep hlt1 (by assumption) ((Below.refl _ _).drew) | exact GcS.keep hlt1 (by assumption) (by assumption) | exact GcS.keep hlt1 (by assumption) ((Below.refl _ _).alloc (Nat.le_refl _) _) | exact GcS.keepG hlt1 (by assumption) hG13 (by first | omega | (simp; done) | (have h9 := hb8.size; simp at h9 ⊢; omega))
        clear hK K
        try simp only [Act.put, List.setIfInBounds_toArray, List.set_cons_zero, List.set_cons_succ]
        refine wpAnyH_take (i := 4) (v := ?r27_78_vv) (by (simp only [List.getElem?_toArray, List.getElem?_cons_succ, List.getElem?_cons_zero]; rfl)) (by kernel_rfl) (by kernel_rfl) (by kernel_rfl) (by exact fun _ _ _ h => h) (Or.inl ⟨by rfl, ?r27_78_hy⟩) (by assumption) ?r27_78_rest
        case r27_78_hy => intro w hSw; (try dsimp only at hSw); (go_simp <;> (with_reducible rfl))
        try simp only [Act.put, List.setIfInBounds_toArray, List.set_cons_zero, List.set_cons_succ]
        refine wpAnyH_take (i := 5) (v := undef) (by (simp only [List.getElem?_toArray, List.getElem?_cons_succ, List.getElem?_cons_zero]; rfl)) (by kernel_rfl) (by kernel_rfl) (by kernel_rfl) (by exact fun _ _ _ h => h) (Or.inr ⟨by rfl, rfl⟩) (by assumption) ?_
        try simp only [Act.put, List.setIfInBounds_toArray, List.set_cons_zero, List.set_cons_succ]
        refine wpAnyH_take (i := 6) (v := undef) (by (simp only [List.getElem?_toArray, List.getElem?_cons_succ, List.getElem?_cons_zero]; rfl)) (by kernel_rfl) (by kernel_rfl) (by kernel_rfl) (by exact fun _ _ _ h => h) (Or.inr ⟨by rfl, rfl⟩) (by assumption) ?_
        try simp only [Act.put, List.setIfInBounds_toArray, List.set_cons_zero, List.set_cons_succ]
        refine wpAnyH_take (i := 7) (v := ?r27_81_vv) (by (simp only [List.getElem?_toArray, List.getElem?_cons_succ, List.getElem?_cons_zero]; rfl)) (by kernel_rfl) (by kernel_rfl) (by kernel_rfl) (by exact fun _ _ _ h => h) (Or.inl ⟨by rfl, ?r27_81_hy⟩) (by assumption) ?r27_81_rest
        case r27_81_hy => intro w hSw; (try dsimp only at hSw); (go_simp <;> (with_reducible rfl))
        try simp only [Act.put, List.setIfInBounds_toArray, List.set_cons_zero, List.set_cons_succ]
        refine wpAnyH_ready (rs := [1]) (by kernel_rfl) (by simp) ?_
        refine (AllReadyH.cons (by (simp only [List.getElem?_toArray, List.getElem?_cons_succ, List.getElem?_cons_zero]; rfl)) (fun K hK => ?_) AllReadyH.nil)
        go_simp
        refine hK.out _ _ ?r27_82_hS (fun hHeld => ?r27_82_r)
        case r27_82_hS => (try dsimp only); first | assumption | exact GcS.keep hlt1 (by assumption) ((Below.refl _ _).drew) | exact GcS.keep hlt1 (by assumption) (by assumption) | exact GcS.keep hlt1 (by assumption) ((Below.refl _ _).alloc (Nat.le_refl _) _) | exact GcS.keepG hlt1 (by assumption) hG13 (by first | omega | (simp; done) | (have h9 := hb8.size; simp at h9 ⊢; omega))
        clear hK K
        try simp only [Act.put, List.setIfInBounds_toArray, List.set_cons_zero, List.set_cons_succ]
        refine wpAnyH_ready (rs := [8]) (by kernel_rfl) (by simp) ?_
        refine (AllReadyH.cons (by (simp only [List.getElem?_toArray, List.getElem?_cons_succ, List.getElem?_cons_zero]; rfl)) (fun K hK => ?_) AllReadyH.nil)
        go_simp
        (go_at_call 58; refine (qt.out _ _ (by assumption) (by repeat (first | with_reducible exact sl1c _ p _ (by simp) _ | refine Sl.alloc ?_ _ | refine Sl.ext ?_ ((Below.refl _ _).drew)))).mono ?_; rintro e w8 ⟨g, rfl, hgl, hgr, hb8⟩)
        try go_wp2_with fail
        refine hK.out _ _ ?r27_83_hS (fun hHeld => ?r27_83_r)
        case r27_83_hS => (try dsimp only); first | assumption | exact GcS.keep hlt1 (by assumption) ((Below.refl _ _).drew) | exact GcS.keep hlt1 (by assumption) (by assumption) | exact GcS.keep hlt1 (by assumption) ((Below.refl _ _).alloc (Nat.le_refl _) _) | exact GcS.keepG hlt1 (by assumption) hG13 (by first | omega | (simp; done) | (have h9 := hb8.size; simp at h9 ⊢; omega))
        clear hK K
        try simp only [Act.put, List.setIfInBounds_toArray, List.set_cons_zero, List.set_cons_succ]
        refine wpAnyH_take (i := 9) (v := ?r27_84_vv) (by (simp only [List.getElem?_toArray, List.getElem?_cons_succ, List.getElem?_cons_zero]; rfl)) (by kernel_rfl) (by kernel_rfl) (by kernel_rfl) (by exact fun _ _ _ h => h) (Or.inl ⟨by rfl, ?r27_84_hy⟩) (by assumption) ?r27_84_rest
        case r27_84_hy => intro w hSw; (try dsimp only at hSw); (go_simp <;> (with_reducible rfl))
        try simp only [Act.put, List.setIfInBounds_toArray, List.set_cons_zero, List.set_cons_succ]
        refine wpAnyH_take (i := 10) (v := ?r27_85_vv) (by (simp only [List.getElem?_toArray, List.getElem?_cons_succ, List.getElem?_cons_zero]; rfl)) (by kernel_rfl) (by kernel_rfl) (by kernel_rfl) (by exact fun _ _ _ h => h) (Or.inl ⟨by rfl, ?r27_85_hy⟩) (by assumption) ?r27_85_rest
        case r27_85_hy => intro w hSw; (try dsimp only at hSw); (go_simp <;> (with_reducible rfl))
        try simp only [Act.put, List.setIfInBounds_toArray, List.set_cons_zero, List.set_cons_succ]
        refine wpAnyH_take (i := 11) (v := ?r27_86_vv) (by (simp only [List.getElem?_toArray, List.getElem?_cons_succ, List.getElem?_cons_zero]; rfl)) (by kernel_rfl) (by kernel_rfl) (by kernel_rfl) (by exact fun _ _ _ h => h) (Or.inl ⟨by rfl, ?r27_86_hy⟩) (by assumption) ?r27_86_rest
        case r27_86_hy => intro w hSw; (try dsimp only at hSw); (go_simp <;> (with_reducible rfl))
        try simp only [Act.put, List.setIfInBounds_toArray, List.set_cons_zero, List.set_cons_succ]
        refine wpAnyH_ready (rs := [13]) (by kernel_rfl) (by simp) ?_
        refine (AllReadyH.cons (by (simp only [List.getElem?_toArray, List.getElem?_cons_succ, List.getElem?_cons_zero]; rfl)) (fun K hK => ?_) AllReadyH.nil)
        (refine step_store_bk rfl 85 (.tmp 10) (.tmp 22) rfl _ (gcells g) rfl rfl 85 Try.zeroCells85 (by repeat (first | exact Bk.new _ 85 Try.zeroCells85 _ (by simp) | refine Bk.ext ?_ hb8 | refine Bk.alloc ?_ _ | refine Bk.ext ?_ ((Below.refl _ _).drew))) (by rw [zsize, gcells_size, hgl]) (ginfo _ hgl) (gcells_one _) ?_; intro w13 k13 G13; have hG13 := G13)
        refine hK.out _ _ ?r27_87_hS (fun hHeld => ?r27_87_r)
        case r27_87_hS => (try dsimp only); first | assumption | exact GcS.keep hlt1 (by assumption) ((Below.refl _ _).drew) | exact GcS.keep hlt1 (by assumption) (by assumption) | exact GcS.keep hlt1 (by assumption) ((Below.refl _ _).alloc (Nat.le_refl _) _) | exact GcS.keepG hlt1 (by assumption) hG13 (by first | omega | (simp; done) | (have h9 := hb8.size; simp at h9 ⊢; omega))
        clear hK K
        try simp only [Act.put, List.setIfInBounds_toArray, List.set_cons_zero, List.set_cons_succ]
        refine wpAnyH_take (i := 14) (v := ?r27_88_vv) (by (simp only [List.getElem?_toArray, List.getElem?_cons_succ, List.getElem?_cons_zero]; rfl)) (by kernel_rfl) (by kernel_rfl) (by kernel_rfl) (by exact fun _ _ _ h => h) (Or.inl ⟨by rfl, ?r27_88_hy⟩) (by assumption) ?r27_88_rest
        case r27_88_hy => intro w hSw; (try dsimp only at hSw); (go_simp <;> (with_reducible rfl))
        try simp only [Act.put, List.setIfInBounds_toArray, List.set_cons_zero, List.set_cons_succ]
        refine wpAnyH_done (by kernel_rfl) ?_ _
        have hS13 : GcS W1 (W.heap.size + 1) p w13 := by assumption
        obtain ⟨hB13, p0', p1'⟩ := hS13
        have HB13 := Lib.hid (show Below W.heap.size W w13 from HB.out.trans (hB13.mono HB.out.size))
        have K13 := Lib.hid k13
        have HGR := Lib.hid hgr
        clear hB13
        clear k13
        clear hgr
        clear hb8
        repeat clear hHeld
        by_cases hc : CC = 0
        · have hE := Lib.hid (hR.out.trans (if_pos (hCC.out.symm.trans hc)))
          obtain ⟨hc2, ⟨y0, y1⟩, hway⟩ := growC_ok (hCC.out.symm.trans hc)
          obtain ⟨hv, hpts⟩ := cornC_ok hc2
          obtain ⟨⟨w0, w1'⟩, ⟨h0, h1⟩, hl⟩ := sqOk_edges hv
          obtain ⟨⟨x0, x1⟩, z0, z1⟩ := hpts p (by simp)
          obtain ⟨ny, hny⟩ : ∃ ny : Nat, years = (ny : Int) := ⟨years.toNat, (Int.toNat_of_nonneg y0).symm⟩
          subst hny
          have hgg := HGR.out hc
          subst hgg
          have qg := Lib.hid (sGrow_calls w h sl hl ⟨w1', h1⟩ p ⟨x0, x1⟩ ⟨z0, z1⟩ way (hway way (by simp)) ny (by omega) _ w13 K13.out)
          rw [show ((ny : Int)).toNat = ny from Int.toNat_natCast ny] at hE
          have hcb : (CC == 0) = true := by simpa using hc
          have hcb2 : (CC != 0) = false := by simpa using hc
          clear hc hc2 hv hpts hl hway hR
          unfold Cell.v at qg
          generalize growL sl ny [p] p way = us at *
          go_wp2_with fail
          refine qg.out.mono ?_
          rintro e w20 ⟨g20, c20, rfl, hO, hb20⟩
          have HO := Lib.hid (hO.more HB13.out.size)
          have HB20 := Lib.hid (ext_trans HB13.out hb20)
          clear hO hb20
          go_wp2_with fail
          go_ret2
          rw [hE.out]
          exact RetC2.mk rfl HO.out HB20.out
        · have hE := Lib.hid (hR.out.trans (if_neg (fun h0 => hc (hCC.out.trans h0))))
          have hcb : (CC == 0) = false := by simpa using hc
          have hcb2 : (CC != 0) = true := by simpa using hc
          clear hc hR
          go_wp2_with fail
          go_ret2
          rw [hE.out]
          exact RetC2.mk hCC.out (Own.empty (α := Cell) (c := Cell.c) (sz := 2) (E := 36) w13 W.heap.size _ (by simp) HB13.out.size) (ext_alloc HB13.out _)
  · have qt := Lib.hid (show ∀ (W' : World) (v : Value), GcS W1 (W.heap.size + 1) p W' → Sl W' W'.heap.size Cell.c 2 v [p] → Calls Try.prog 58 #[.pointer (some ⟨W.heap.size, 0, none⟩), v, .bool (inB years 0 60)] W' (RetTold W' CC sl) from fun W' v hS' hs' => by
      have := told_calls W.heap.size 0 w h _ sl [p] hpp.out v (inB years 0 60) W' (HQ.out.ext hS'.1) (HA.out.ext hS'.1) hs'
      rwa [show toldC w h sl [p] (inB years 0 60) = CC from by rw [hCC.out, ← hgrow.out, hwy]; rfl] at this)
    rw [hwy] at qw
    clear hwy
    generalize inB years 0 60 = yy at *
    refine wp_region_held_drew (S := (GcS W1 (W.heap.size + 1) p)) (by kernel_rfl) ?r28_1_hS0 (fun hHeld => ?r28_1_rest)
    case r28_1_hS0 => (try dsimp only); first | assumption | exact GcS.keep hlt1 (by assumption) ((Below.refl _ _).drew) | exact GcS.keep hlt1 (by assumption) (by assumption) | exact GcS.keep hlt1 (by assumption) ((Below.refl _ _).alloc (Nat.le_refl _) _) | exact GcS.keepG hlt1 (by assumption) hG13 (by first | omega | (simp; done) | (have h9 := hb8.size; simp at h9 ⊢; omega))
    refine wpAnyH_take (i := 0) (v := ?r28_2_vv) (by (simp only [List.getElem?_toArray, List.getElem?_cons_succ, List.getElem?_cons_zero]; rfl)) (by kernel_rfl) (by kernel_rfl) (by kernel_rfl) (by exact fun _ _ _ h => h) (Or.inl ⟨by rfl, ?r28_2_hy⟩) (by assumption) ?r28_2_rest
    case r28_2_hy => intro w hSw; (try dsimp only at hSw); (go_simp <;> (with_reducible rfl))
    try simp only [Act.put, List.setIfInBounds_toArray, List.set_cons_zero, List.set_cons_succ]
    refine wpAnyH_take (i := 2) (v := ?r28_3_vv) (by (simp only [List.getElem?_toArray, List.getElem?_cons_succ, List.getElem?_cons_zero]; rfl)) (by kernel_rfl) (by kernel_rfl) (by kernel_rfl) (by exact fun _ _ _ h => h) (Or.inl ⟨by rfl, ?r28_3_hy⟩) (by assumption) ?r28_3_rest
    case r28_3_hy => intro w hSw; (try dsimp only at hSw); (go_simp <;> (with_reducible rfl))
    try simp only [Act.put, List.setIfInBounds_toArray, List.set_cons_zero, List.set_cons_succ]
    refine wpAnyH_ready (rs := [1, 3, 12]) (by kernel_rfl) (by simp) ?_
    refine (AllReadyH.cons (by (simp only [List.getElem?_toArray, List.getElem?_cons_succ, List.getElem?_cons_zero]; rfl)) (fun K hK => ?_) (AllReadyH.cons (by (simp only [List.getElem?_toArray, List.getElem?_cons_succ, List.getElem?_cons_zero]; rfl)) (fun K hK => ?_) (AllReadyH.cons (by (simp only [List.getElem?_toArray, List.getElem?_cons_succ, List.getElem?_cons_zero]; rfl)) (fun K hK => ?_) AllReadyH.nil)))
    · go_simp
      refine hK.out _ _ ?r28_4_hS (fun hHeld => ?r28_4_r)
      case r28_4_hS => (try dsimp only); first | assumption | exact GcS.keep hlt1 (by assumption) ((Below.refl _ _).drew) | exact GcS.keep hlt1 (by assumption) (by assumption) | exact GcS.keep hlt1 (by assumption) ((Below.refl _ _).alloc (Nat.le_refl _) _) | exact GcS.keepG hlt1 (by assumption) hG13 (by first | omega | (simp; done) | (have h9 := hb8.size; simp at h9 ⊢; omega))
      clear hK K
      try simp only [Act.put, List.setIfInBounds_toArray, List.set_cons_zero, List.set_cons_succ]
      refine wpAnyH_ready (rs := [3, 12]) (by kernel_rfl) (by simp) ?_
      refine (AllReadyH.cons (by (simp only [List.getElem?_toArray, List.getElem?_cons_succ, List.getElem?_cons_zero]; rfl)) (fun K hK => ?_) (AllReadyH.cons (by (simp only [List.getElem?_toArray, List.getElem?_cons_succ, List.getElem?_cons_zero]; rfl)) (fun K hK => ?_) AllReadyH.nil))
      · go_simp
        (go_at_call 72; with_reducible refine (qw.out _).mono ?_; rintro e w3 ⟨rfl, rfl⟩)
        try go_wp2_with fail
        refine hK.out _ _ ?r28_5_hS (fun hHeld => ?r28_5_r)
        case r28_5_hS => (try dsimp only); first | assumption | exact GcS.keep hlt1 (by assumption) ((Below.refl _ _).drew) | exact GcS.keep hlt1 (by assumption) (by assumption) | exact GcS.keep hlt1 (by assumption) ((Below.refl _ _).alloc (Nat.le_refl _) _) | exact GcS.keepG hlt1 (by assumption) hG13 (by first | omega | (simp; done) | (have h9 := hb8.size; simp at h9 ⊢; omega))
        clear hK K
        try simp only [Act.put, List.setIfInBounds_toArray, List.set_cons_zero, List.set_cons_succ]
        refine wpAnyH_take (i := 4) (v := ?r28_6_vv) (by (simp only [List.getElem?_toArray, List.getElem?_cons_succ, List.getElem?_cons_zero]; rfl)) (by kernel_rfl) (by kernel_rfl) (by kernel_rfl) (by exact fun _ _ _ h => h) (Or.inl ⟨by rfl, ?r28_6_hy⟩) (by assumption) ?r28_6_rest
        case r28_6_hy => intro w hSw; (try dsimp only at hSw); (go_simp <;> (with_reducible rfl))
        try simp only [Act.put, List.setIfInBounds_toArray, List.set_cons_zero, List.set_cons_succ]
        refine wpAnyH_take (i := 5) (v := ?r28_7_vv) (by (simp only [List.getElem?_toArray, List.getElem?_cons_succ, List.getElem?_cons_zero]; rfl)) (by kernel_rfl) (by kernel_rfl) (by kernel_rfl) (by exact fun _ _ _ h => h) (Or.inl ⟨by rfl, ?r28_7_hy⟩) (by assumption) ?r28_7_rest
        case r28_7_hy => intro w hSw; (try dsimp only at hSw); (go_simp <;> (with_reducible rfl))
        try simp only [Act.put, List.setIfInBounds_toArray, List.set_cons_zero, List.set_cons_succ]
        refine wpAnyH_ready (rs := [6, 12]) (by kernel_rfl) (by simp) ?_
        refine (AllReadyH.cons (by (simp only [List.getElem?_toArray, List.getElem?_cons_succ, List.getElem?_cons_zero]; rfl)) (fun K hK => ?_) (AllReadyH.cons (by (simp only [List.getElem?_toArray, List.getElem?_cons_succ, List.getElem?_cons_zero]; rfl)) (fun K hK => ?_) AllReadyH.nil))
        · go_simp
          (go_at_call 73; with_reducible refine (qy.out _).mono ?_; rintro e w6 ⟨rfl, rfl⟩)
          try go_wp2_with fail
          refine hK.out _ _ ?r28_8_hS (fun hHeld => ?r28_8_r)
          case r28_8_hS => (try dsimp only); first | assumption | exact GcS.keep hlt1 (by assumption) ((Below.refl _ _).drew) | exact GcS.keep hlt1 (by assumption) (by assumption) | exact GcS.keep hlt1 (by assumption) ((Below.refl _ _).alloc (Nat.le_refl _) _) | exact GcS.keepG hlt1 (by assumption) hG13 (by first | omega | (simp; done) | (have h9 := hb8.size; simp at h9 ⊢; omega))
          clear hK K
          try simp only [Act.put, List.setIfInBounds_toArray, List.set_cons_zero, List.set_cons_succ]
          refine wpAnyH_take (i := 7) (v := ?r28_9_vv) (by (simp only [List.getElem?_toArray, List.getElem?_cons_succ, List.getElem?_cons_zero]; rfl)) (by kernel_rfl) (by kernel_rfl) (by kernel_rfl) (by exact fun _ _ _ h => h) (Or.inl ⟨by rfl, ?r28_9_hy⟩) (by assumption) ?r28_9_rest
          case r28_9_hy => intro w hSw; (try dsimp only at hSw); (go_simp <;> (with_reducible rfl))
          try simp only [Act.put, List.setIfInBounds_toArray, List.set_cons_zero, List.set_cons_succ]
          refine wpAnyH_ready (rs := [8, 12]) (by kernel_rfl) (by simp) ?_
          refine (AllReadyH.cons (by (simp only [List.getElem?_toArray, List.getElem?_cons_succ, List.getElem?_cons_zero]; rfl)) (fun K hK => ?_) (AllReadyH.cons (by (simp only [List.getElem?_toArray, List.getElem?_cons_succ, List.getElem?_cons_zero]; rfl)) (fun K hK => ?_) AllReadyH.nil))
          · go_simp
            (go_at_call 58; refine (qt.out _ _ (by assumption) (by repeat (first | with_reducible exact sl1c _ p _ (by simp) _ | refine Sl.alloc ?_ _ | refine Sl.ext ?_ ((Below.refl _ _).drew)))).mono ?_; rintro e w8 ⟨g, rfl, hgl, hgr, hb8⟩)
            try go_wp2_with fail
            refine hK.out _ _ ?r28_10_hS (fun hHeld => ?r28_10_r)
            case r28_10_hS => (try dsimp only); first | assumption | exact GcS.keep hlt1 (by assumption) ((Below.refl _ _).drew) | exact GcS.keep hlt1 (by assumption) (by assumption) | exact GcS.keep hlt1 (by assumption) ((Below.refl _ _).alloc (Nat.le_refl _) _) | exact GcS.keepG hlt1 (by assumption) hG13 (by first | omega | (simp; done) | (have h9 := hb8.size; simp at h9 ⊢; omega))
            clear hK K
            try simp only [Act.put, List.setIfInBounds_toArray, List.set_cons_zero, List.set_cons_succ]
            refine wpAnyH_take (i := 9) (v := ?r28_11_vv) (by (simp only [List.getElem?_toArray, List.getElem?_cons_succ, List.getElem?_cons_zero]; rfl)) (by kernel_rfl) (by kernel_rfl) (by kernel_rfl) (by exact fun _ _ _ h => h) (Or.inl ⟨by rfl, ?r28_11_hy⟩) (by assumption) ?r28_11_rest
            case r28_11_hy => intro w hSw; (try dsimp only at hSw); (go_simp <;> (with_reducible rfl))
            try simp only [Act.put, List.setIfInBounds_toArray, List.set_cons_zero, List.set_cons_succ]
            refine wpAnyH_take (i := 10) (v := ?r28_12_vv) (by (simp only [List.getElem?_toArray, List.getElem?_cons_succ, List.getElem?_cons_zero]; rfl)) (by kernel_rfl) (by kernel_rfl) (by kernel_rfl) (by exact fun _ _ _ h => h) (Or.inl ⟨by rfl, ?r28_12_hy⟩) (by assumption) ?r28_12_rest
            case r28_12_hy => intro w hSw; (try dsimp only at hSw); (go_simp <;> (with_reducible rfl))
            try simp only [Act.put, List.setIfInBounds_toArray, List.set_cons_zero, List.set_cons_succ]
            refine wpAnyH_take (i := 11) (v := ?r28_13_vv) (by (simp only [List.getElem?_toArray, List.getElem?_cons_succ, List.getElem?_cons_zero]; rfl)) (by kernel_rfl) (by kernel_rfl) (by kernel_rfl) (by exact fun _ _ _ h => h) (Or.inl ⟨by rfl, ?r28_13_hy⟩) (by assumption) ?r28_13_rest
            case r28_13_hy => intro w hSw; (try dsimp only at hSw); (go_simp <;> (with_reducible rfl))
            try simp only [Act.put, List.setIfInBounds_toArray, List.set_cons_zero, List.set_cons_succ]
            refine wpAnyH_ready (rs := [12]) (by kernel_rfl) (by simp) ?_
            refine (AllReadyH.cons (by (simp only [List.getElem?_toArray, List.getElem?_cons_succ, List.getElem?_cons_zero]; rfl)) (fun K hK => ?_) AllReadyH.nil)
            go_simp
            refine hK.out _ _ ?r28_14_hS (fun hHeld => ?r28_14_r)
            case r28_14_hS => (try dsimp only); first | assumption | exact GcS.keep hlt1 (by assumption) ((Below.refl _ _).drew) | exact GcS.keep hlt1 (by assumption) (by assumption) | exact GcS.keep hlt1 (by assumption) ((Below.refl _ _).alloc (Nat.le_refl _) _) | exact GcS.keepG hlt1 (by assumption) hG13 (by first | omega | (simp; done) | (have h9 := hb8.size; simp at h9 ⊢; omega))
            clear hK K
            try simp only [Act.put, List.setIfInBounds_toArray, List.set_cons_zero, List.set_cons_succ]
            refine wpAnyH_ready (rs := [13]) (by kernel_rfl) (by simp) ?_
            refine (AllReadyH.cons (by (simp only [List.getElem?_toArray, List.getElem?_cons_succ, List.getElem?_cons_zero]; rfl)) (fun K hK => ?_) AllReadyH.nil)
            (refine step_store_bk rfl 85 (.tmp 10) (.tmp 22) rfl _ (gcells g) rfl rfl 85 Try.zeroCells85 (by repeat (first | exact Bk.new _ 85 Try.zeroCells85 _ (by simp) | refine Bk.ext ?_ hb8 | refine Bk.alloc ?_ _ | refine Bk.ext ?_ ((Below.refl _ _).drew))) (by rw [zsize, gcells_size, hgl]) (ginfo _ hgl) (gcells_one _) ?_; intro w13 k13 G13; have hG13 := G13)
            refine hK.out _ _ ?r28_15_hS (fun hHeld => ?r28_15_r)
            case r28_15_hS => (try dsimp only); first | assumption | exact GcS.keep hlt1 (by assumption) ((Below.refl _ _).drew) | exact GcS.keep hlt1 (by assumption) (by assumption) | exact GcS.keep hlt1 (by assumption) ((Below.refl _ _).alloc (Nat.le_refl _) _) | exact GcS.keepG hlt1 (by assumption) hG13 (by first | omega | (simp; done) | (have h9 := hb8.size; simp at h9 ⊢; omega))
            clear hK K
            try simp only [Act.put, List.setIfInBounds_toArray, List.set_cons_zero, List.set_cons_succ]
            refine wpAnyH_take (i := 14) (v := ?r28_16_vv) (by (simp only [List.getElem?_toArray, List.getElem?_cons_succ, List.getElem?_cons_zero]; rfl)) (by kernel_rfl) (by kernel_rfl) (by kernel_rfl) (by exact fun _ _ _ h => h) (Or.inl ⟨by rfl, ?r28_16_hy⟩) (by assumption) ?r28_16_rest
            case r28_16_hy => intro w hSw; (try dsimp only at hSw); (go_simp <;> (with_reducible rfl))
            try simp only [Act.put, List.setIfInBounds_toArray, List.set_cons_zero, List.set_cons_succ]
            refine wpAnyH_done (by kernel_rfl) ?_ _
            have hS13 : GcS W1 (W.heap.size + 1) p w13 := by assumption
            obtain ⟨hB13, p0', p1'⟩ := hS13
            have HB13 := Lib.hid (show Below W.heap.size W w13 from HB.out.trans (hB13.mono HB.out.size))
            have K13 := Lib.hid k13
            have HGR := Lib.hid hgr
            clear hB13
            clear k13
            clear hgr
            clear hb8
            repeat clear hHeld
            by_cases hc : CC = 0
            · have hE := Lib.hid (hR.out.trans (if_pos (hCC.out.symm.trans hc)))
              obtain ⟨hc2, ⟨y0, y1⟩, hway⟩ := growC_ok (hCC.out.symm.trans hc)
              obtain ⟨hv, hpts⟩ := cornC_ok hc2
              obtain ⟨⟨w0, w1'⟩, ⟨h0, h1⟩, hl⟩ := sqOk_edges hv
              obtain ⟨⟨x0, x1⟩, z0, z1⟩ := hpts p (by simp)
              obtain ⟨ny, hny⟩ : ∃ ny : Nat, years = (ny : Int) := ⟨years.toNat, (Int.toNat_of_nonneg y0).symm⟩
              subst hny
              have hgg := HGR.out hc
              subst hgg
              have qg := Lib.hid (sGrow_calls w h sl hl ⟨w1', h1⟩ p ⟨x0, x1⟩ ⟨z0, z1⟩ way (hway way (by simp)) ny (by omega) _ w13 K13.out)
              rw [show ((ny : Int)).toNat = ny from Int.toNat_natCast ny] at hE
              have hcb : (CC == 0) = true := by simpa using hc
              have hcb2 : (CC != 0) = false := by simpa using hc
              clear hc hc2 hv hpts hl hway hR
              unfold Cell.v at qg
              generalize growL sl ny [p] p way = us at *
              go_wp2_with fail
              refine qg.out.mono ?_
              rintro e w20 ⟨g20, c20, rfl, hO, hb20⟩
              have HO := Lib.hid (hO.more HB13.out.size)
              have HB20 := Lib.hid (ext_trans HB13.out hb20)
              clear hO hb20
              go_wp2_with fail
              go_ret2
              rw [hE.out]
              exact RetC2.mk rfl HO.out HB20.out
            · have hE := Lib.hid (hR.out.trans (if_neg (fun h0 => hc (hCC.out.trans h0))))
              have hcb : (CC == 0) = false := by simpa using hc
              have hcb2 : (CC != 0) = true := by simpa using hc
              clear hc hR
              go_wp2_with fail
              go_ret2
              rw [hE.out]
              exact RetC2.mk hCC.out (Own.empty (α := Cell) (c := Cell.c) (sz := 2) (E := 36) w13 W.heap.size _ (by simp) HB13.out.size) (ext_alloc HB13.out _)
          · go_simp
            refine hK.out _ _ ?r28_17_hS (fun hHeld => ?r28_17_r)
            case r28_17_hS => (try dsimp only); first | assumption | exact GcS.keep hlt1 (by assumption) ((Below.refl _ _).drew) | exact GcS.keep hlt1 (by assumption) (by assumption) | exact GcS.keep hlt1 (by assumption) ((Below.refl _ _).alloc (Nat.le_refl _) _) | exact GcS.keepG hlt1 (by assumption) hG13 (by first | omega | (simp; done) | (have h9 := hb8.size; simp at h9 ⊢; omega))
            clear hK K
            try simp only [Act.put, List.setIfInBounds_toArray, List.set_cons_zero, List.set_cons_succ]
            refine wpAnyH_ready (rs := [8]) (by kernel_rfl) (by simp) ?_
            refine (AllReadyH.cons (by (simp only [List.getElem?_toArray, List.getElem?_cons_succ, List.getElem?_cons_zero]; rfl)) (fun K hK => ?_) AllReadyH.nil)
            go_simp
            (go_at_call 58; refine (qt.out _ _ (by assumption) (by repeat (first | with_reducible exact sl1c _ p _ (by simp) _ | refine Sl.alloc ?_ _ | refine Sl.ext ?_ ((Below.refl _ _).drew)))).mono ?_; rintro e w8 ⟨g, rfl, hgl, hgr, hb8⟩)
            try go_wp2_with fail
            refine hK.out _ _ ?r28_18_hS (fun hHeld => ?r28_18_r)
            case r28_18_hS => (try dsimp only); first | assumption | exact GcS.keep hlt1 (by assumption) ((Below.refl _ _).drew) | exact GcS.keep hlt1 (by assumption) (by assumption) | exact GcS.keep hlt1 (by assumption) ((Below.refl _ _).alloc (Nat.le_refl _) _) | exact GcS.keepG hlt1 (by assumption) hG13 (by first | omega | (simp; done) | (have h9 := hb8.size; simp at h9 ⊢; omega))
            clear hK K
            try simp only [Act.put, List.setIfInBounds_toArray, List.set_cons_zero, List.set_cons_succ]
            refine wpAnyH_take (i := 9) (v := ?r28_19_vv) (by (simp only [List.getElem?_toArray, List.getElem?_cons_succ, List.getElem?_cons_zero]; rfl)) (by kernel_rfl) (by kernel_rfl) (by kernel_rfl) (by exact fun _ _ _ h => h) (Or.inl ⟨by rfl, ?r28_19_hy⟩) (by assumption) ?r28_19_rest
            case r28_19_hy => intro w hSw; (try dsimp only at hSw); (go_simp <;> (with_reducible rfl))
            try simp only [Act.put, List.setIfInBounds_toArray, List.set_cons_zero, List.set_cons_succ]
            refine wpAnyH_take (i := 10) (v := ?r28_20_vv) (by (simp only [List.getElem?_toArray, List.getElem?_cons_succ, List.getElem?_cons_zero]; rfl)) (by kernel_rfl) (by kernel_rfl) (by kernel_rfl) (by exact fun _ _ _ h => h) (Or.inl ⟨by rfl, ?r28_20_hy⟩) (by assumption) ?r28_20_rest
            case r28_20_hy => intro w hSw; (try dsimp only at hSw); (go_simp <;> (with_reducible rfl))
            try simp only [Act.put, List.setIfInBounds_toArray, List.set_cons_zero, List.set_cons_succ]
            refine wpAnyH_take (i := 11) (v := ?r28_21_vv) (by (simp only [List.getElem?_toArray, List.getElem?_cons_succ, List.getElem?_cons_zero]; rfl)) (by kernel_rfl) (by kernel_rfl) (by kernel_rfl) (by exact fun _ _ _ h => h) (Or.inl ⟨by rfl, ?r28_21_hy⟩) (by assumption) ?r28_21_rest
            case r28_21_hy => intro w hSw; (try dsimp only at hSw); (go_simp <;> (with_reducible rfl))
            try simp only [Act.put, List.setIfInBounds_toArray, List.set_cons_zero, List.set_cons_succ]
            refine wpAnyH_ready (rs := [13]) (by kernel_rfl) (by simp) ?_
            refine (AllReadyH.cons (by (simp only [List.getElem?_toArray, List.getElem?_cons_succ, List.getElem?_cons_zero]; rfl)) (fun K hK => ?_) AllReadyH.nil)
            (refine step_store_bk rfl 85 (.tmp 10) (.tmp 22) rfl _ (gcells g) rfl rfl 85 Try.zeroCells85 (by repeat (first | exact Bk.new _ 85 Try.zeroCells85 _ (by simp) | refine Bk.ext ?_ hb8 | refine Bk.alloc ?_ _ | refine Bk.ext ?_ ((Below.refl _ _).drew))) (by rw [zsize, gcells_size, hgl]) (ginfo _ hgl) (gcells_one _) ?_; intro w13 k13 G13; have hG13 := G13)
            refine hK.out _ _ ?r28_22_hS (fun hHeld => ?r28_22_r)
            case r28_22_hS => (try dsimp only); first | assumption | exact GcS.keep hlt1 (by assumption) ((Below.refl _ _).drew) | exact GcS.keep hlt1 (by assumption) (by assumption) | exact GcS.keep hlt1 (by assumption) ((Below.refl _ _).alloc (Nat.le_refl _) _) | exact GcS.keepG hlt1 (by assumption) hG13 (by first | omega | (simp; done) | (have h9 := hb8.size; simp at h9 ⊢; omega))
            clear hK K
            try simp only [Act.put, List.setIfInBounds_toArray, List.set_cons_zero, List.set_cons_succ]
            refine wpAnyH_take (i := 14) (v := ?r28_23_vv) (by (simp only [List.getElem?_toArray, List.getElem?_cons_succ, List.getElem?_cons_zero]; rfl)) (by kernel_rfl) (by kernel_rfl) (by kernel_rfl) (by exact fun _ _ _ h => h) (Or.inl ⟨by rfl, ?r28_23_hy⟩) (by assumption) ?r28_23_rest
            case r28_23_hy => intro w hSw; (try dsimp only at hSw); (go_simp <;> (with_reducible rfl))
            try simp only [Act.put, List.setIfInBounds_toArray, List.set_cons_zero, List.set_cons_succ]
            refine wpAnyH_done (by kernel_rfl) ?_ _
            have hS13 : GcS W1 (W.heap.size + 1) p w13 := by assumption
            obtain ⟨hB13, p0', p1'⟩ := hS13
            have HB13 := Lib.hid (show Below W.heap.size W w13 from HB.out.trans (hB13.mono HB.out.size))
            have K13 := Lib.hid k13
            have HGR := Lib.hid hgr
            clear hB13
            clear k13
            clear hgr
            clear hb8
            repeat clear hHeld
            by_cases hc : CC = 0
            · have hE := Lib.hid (hR.out.trans (if_pos (hCC.out.symm.trans hc)))
              obtain ⟨hc2, ⟨y0, y1⟩, hway⟩ := growC_ok (hCC.out.symm.trans hc)
              obtain ⟨hv, hpts⟩ := cornC_ok hc2
              obtain ⟨⟨w0, w1'⟩, ⟨h0, h1⟩, hl⟩ := sqOk_edges hv
              obtain ⟨⟨x0, x1⟩, z0, z1⟩ := hpts p (by simp)
              obtain ⟨ny, hny⟩ : ∃ ny : Nat, years = (ny : Int) := ⟨years.toNat, (Int.toNat_of_nonneg y0).symm⟩
              subst hny
              have hgg := HGR.out hc
              subst hgg
              have qg := Lib.hid (sGrow_calls w h sl hl ⟨w1', h1⟩ p ⟨x0, x1⟩ ⟨z0, z1⟩ way (hway way (by simp)) ny (by omega) _ w13 K13.out)
              rw [show ((ny : Int)).toNat = ny from Int.toNat_natCast ny] at hE
              have hcb : (CC == 0) = true := by simpa using hc
              have hcb2 : (CC != 0) = false := by simpa using hc
              clear hc hc2 hv hpts hl hway hR
              unfold Cell.v at qg
              generalize growL sl ny [p] p way = us at *
              go_wp2_with fail
              refine qg.out.mono ?_
              rintro e w20 ⟨g20, c20, rfl, hO, hb20⟩
              have HO := Lib.hid (hO.more HB13.out.size)
              have HB20 := Lib.hid (ext_trans HB13.out hb20)
              clear hO hb20
              go_wp2_with fail
              go_ret2
              rw [hE.out]
              exact RetC2.mk rfl HO.out HB20.out
            · have hE := Lib.hid (hR.out.trans (if_neg (fun h0 => hc (hCC.out.trans h0))))
              have hcb : (CC == 0) = false := by simpa using hc
              have hcb2 : (CC != 0) = true := by simpa using hc
              clear hc hR
              go_wp2_with fail
              go_ret2
              rw [hE.out]
              exact RetC2.mk hCC.out (Own.empty (α := Cell) (c := Cell.c) (sz := 2) (E := 36) w13 W.heap.size _ (by simp) HB13.out.size) (ext_alloc HB13.out _)
        · go_simp
          refine hK.out _ _ ?r28_24_hS (fun hHeld => ?r28_24_r)
          case r28_24_hS => (try dsimp only); first | assumption | exact GcS.keep hlt1 (by assumption) ((Below.refl _ _).drew) | exact GcS.keep hlt1 (by assumption) (by assumption) | exact GcS.keep hlt1 (by assumption) ((Below.refl _ _).alloc (Nat.le_refl _) _) | exact GcS.keepG hlt1 (by assumption) hG13 (by first | omega | (simp; done) | (have h9 := hb8.size; simp at h9 ⊢; omega))
          clear hK K
          try simp only [Act.put, List.setIfInBounds_toArray, List.set_cons_zero, List.set_cons_succ]
          refine wpAnyH_ready (rs := [6]) (by kernel_rfl) (by simp) ?_
          refine (AllReadyH.cons (by (simp only [List.getElem?_toArray, List.getElem?_cons_succ, List.getElem?_cons_zero]; rfl)) (fun K hK => ?_) AllReadyH.nil)
          go_simp
          (go_at_call 73; with_reducible refine (qy.out _).mono ?_; rintro e w6 ⟨rfl, rfl⟩)
          try go_wp2_with fail
          refine hK.out _ _ ?r28_25_hS (fun hHeld => ?r28_25_r)
          case r28_25_hS => (try dsimp only); first | assumption | exact GcS.keep hlt1 (by assumption) ((Below.refl _ _).drew) | exact GcS.keep hlt1 (by assumption) (by assumption) | exact GcS.keep hlt1 (by assumption) ((Below.refl _ _).alloc (Nat.le_refl _) _) | exact GcS.keepG hlt1 (by assumption) hG13 (by first | omega | (simp; done) | (have h9 := hb8.size; simp at h9 ⊢; omega))
          clear hK K
          try simp only [Act.put, List.setIfInBounds_toArray, List.set_cons_zero, List.set_cons_succ]
          refine wpAnyH_take (i := 7) (v := ?r28_26_vv) (by (simp only [List.getElem?_toArray, List.getElem?_cons_succ, List.getElem?_cons_zero]; rfl)) (by kernel_rfl) (by kernel_rfl) (by kernel_rfl) (by exact fun _ _ _ h => h) (Or.inl ⟨by rfl, ?r28_26_hy⟩) (by assumption) ?r28_26_rest
          case r28_26_hy => intro w hSw; (try dsimp only at hSw); (go_simp <;> (with_reducible rfl))
          try simp only [Act.put, List.setIfInBounds_toArray, List.set_cons_zero, List.set_cons_succ]
          refine wpAnyH_ready (rs := [8]) (by kernel_rfl) (by simp) ?_
          refine (AllReadyH.cons (by (simp only [List.getElem?_toArray, List.getElem?_cons_succ, List.getElem?_cons_zero]; rfl)) (fun K hK => ?_) AllReadyH.nil)
          go_simp
          (go_at_call 58; refine (qt.out _ _ (by assumption) (by repeat (first | with_reducible exact sl1c _ p _ (by simp) _ | refine Sl.alloc ?_ _ | refine Sl.ext ?_ ((Below.refl _ _).drew)))).mono ?_; rintro e w8 ⟨g, rfl, hgl, hgr, hb8⟩)
          try go_wp2_with fail
          refine hK.out _ _ ?r28_27_hS (fun hHeld => ?r28_27_r)
          case r28_27_hS => (try dsimp only); first | assumption | exact GcS.keep hlt1 (by assumption) ((Below.refl _ _).drew) | exact GcS.keep hlt1 (by assumption) (by assumption) | exact GcS.keep hlt1 (by assumption) ((Below.refl _ _).alloc (Nat.le_refl _) _) | exact GcS.keepG hlt1 (by assumption) hG13 (by first | omega | (simp; done) | (have h9 := hb8.size; simp at h9 ⊢; omega))
          clear hK K
          try simp only [Act.put, List.setIfInBounds_toArray, List.set_cons_zero, List.set_cons_succ]
          refine wpAnyH_take (i := 9) (v := ?r28_28_vv) (by (simp only [List.getElem?_toArray, List.getElem?_cons_succ, List.getElem?_cons_zero]; rfl)) (by kernel_rfl) (by kernel_rfl) (by kernel_rfl) (by exact fun _ _ _ h => h) (Or.inl ⟨by rfl, ?r28_28_hy⟩) (by assumption) ?r28_28_rest
          case r28_28_hy => intro w hSw; (try dsimp only at hSw); (go_simp <;> (with_reducible rfl))
          try simp only [Act.put, List.setIfInBounds_toArray, List.set_cons_zero, List.set_cons_succ]
          refine wpAnyH_take (i := 10) (v := ?r28_29_vv) (by (simp only [List.getElem?_toArray, List.getElem?_cons_succ, List.getElem?_cons_zero]; rfl)) (by kernel_rfl) (by kernel_rfl) (by kernel_rfl) (by exact fun _ _ _ h => h) (Or.inl ⟨by rfl, ?r28_29_hy⟩) (by assumption) ?r28_29_rest
          case r28_29_hy => intro w hSw; (try dsimp only at hSw); (go_simp <;> (with_reducible rfl))
          try simp only [Act.put, List.setIfInBounds_toArray, List.set_cons_zero, List.set_cons_succ]
          refine wpAnyH_take (i := 11) (v := ?r28_30_vv) (by (simp only [List.getElem?_toArray, List.getElem?_cons_succ, List.getElem?_cons_zero]; rfl)) (by kernel_rfl) (by kernel_rfl) (by kernel_rfl) (by exact fun _ _ _ h => h) (Or.inl ⟨by rfl, ?r28_30_hy⟩) (by assumption) ?r28_30_rest
          case r28_30_hy => intro w hSw; (try dsimp only at hSw); (go_simp <;> (with_reducible rfl))
          try simp only [Act.put, List.setIfInBounds_toArray, List.set_cons_zero, List.set_cons_succ]
          refine wpAnyH_ready (rs := [13]) (by kernel_rfl) (by simp) ?_
          refine (AllReadyH.cons (by (simp only [List.getElem?_toArray, List.getElem?_cons_succ, List.getElem?_cons_zero]; rfl)) (fun K hK => ?_) AllReadyH.nil)
          (refine step_store_bk rfl 85 (.tmp 10) (.tmp 22) rfl _ (gcells g) rfl rfl 85 Try.zeroCells85 (by repeat (first | exact Bk.new _ 85 Try.zeroCells85 _ (by simp) | refine Bk.ext ?_ hb8 | refine Bk.alloc ?_ _ | refine Bk.ext ?_ ((Below.refl _ _).drew))) (by rw [zsize, gcells_size, hgl]) (ginfo _ hgl) (gcells_one _) ?_; intro w13 k13 G13; have hG13 := G13)
          refine hK.out _ _ ?r28_31_hS (fun hHeld => ?r28_31_r)
          case r28_31_hS => (try dsimp only); first | assumption | exact GcS.keep hlt1 (by assumption) ((Below.refl _ _).drew) | exact GcS.keep hlt1 (by assumption) (by assumption) | exact GcS.keep hlt1 (by assumption) ((Below.refl _ _).alloc (Nat.le_refl _) _) | exact GcS.keepG hlt1 (by assumption) hG13 (by first | omega | (simp; done) | (have h9 := hb8.size; simp at h9 ⊢; omega))
          clear hK K
          try simp only [Act.put, List.setIfInBounds_toArray, List.set_cons_zero, List.set_cons_succ]
          refine wpAnyH_take (i := 14) (v := ?r28_32_vv) (by (simp only [List.getElem?_toArray, List.getElem?_cons_succ, List.getElem?_cons_zero]; rfl)) (by kernel_rfl) (by kernel_rfl) (by kernel_rfl) (by exact fun _ _ _ h => h) (Or.inl ⟨by rfl, ?r28_32_hy⟩) (by assumption) ?r28_32_rest
          case r28_32_hy => intro w hSw; (try dsimp only at hSw); (go_simp <;> (with_reducible rfl))
          try simp only [Act.put, List.setIfInBounds_toArray, List.set_cons_zero, List.set_cons_succ]
          refine wpAnyH_done (by kernel_rfl) ?_ _
          have hS13 : GcS W1 (W.heap.size + 1) p w13 := by assumption
          obtain ⟨hB13, p0', p1'⟩ := hS13
          have HB13 := Lib.hid (show Below W.heap.size W w13 from HB.out.trans (hB13.mono HB.out.size))
          have K13 := Lib.hid k13
          have HGR := Lib.hid hgr
          clear hB13
          clear k13
          clear hgr
          clear hb8
          repeat clear hHeld
          by_cases hc : CC = 0
          · have hE := Lib.hid (hR.out.trans (if_pos (hCC.out.symm.trans hc)))
            obtain ⟨hc2, ⟨y0, y1⟩, hway⟩ := growC_ok (hCC.out.symm.trans hc)
            obtain ⟨hv, hpts⟩ := cornC_ok hc2
            obtain ⟨⟨w0, w1'⟩, ⟨h0, h1⟩, hl⟩ := sqOk_edges hv
            obtain ⟨⟨x0, x1⟩, z0, z1⟩ := hpts p (by simp)
            obtain ⟨ny, hny⟩ : ∃ ny : Nat, years = (ny : Int) := ⟨years.toNat, (Int.toNat_of_nonneg y0).symm⟩
            subst hny
            have hgg := HGR.out hc
            subst hgg
            have qg := Lib.hid (sGrow_calls w h sl hl ⟨w1', h1⟩ p ⟨x0, x1⟩ ⟨z0, z1⟩ way (hway way (by simp)) ny (by omega) _ w13 K13.out)
            rw [show ((ny : Int)).toNat = ny from Int.toNat_natCast ny] at hE
            have hcb : (CC == 0) = true := by simpa using hc
            have hcb2 : (CC != 0) = false := by simpa using hc
            clear hc hc2 hv hpts hl hway hR
            unfold Cell.v at qg
            generalize growL sl ny [p] p way = us at *
            go_wp2_with fail
            refine qg.out.mono ?_
            rintro e w20 ⟨g20, c20, rfl, hO, hb20⟩
            have HO := Lib.hid (hO.more HB13.out.size)
            have HB20 := Lib.hid (ext_trans HB13.out hb20)
            clear hO hb20
            go_wp2_with fail
            go_ret2
            rw [hE.out]
            exact RetC2.mk rfl HO.out HB20.out
          · have hE := Lib.hid (hR.out.trans (if_neg (fun h0 => hc (hCC.out.trans h0))))
            have hcb : (CC == 0) = false := by simpa using hc
            have hcb2 : (CC != 0) = true := by simpa using hc
            clear hc hR
            go_wp2_with fail
            go_ret2
            rw [hE.out]
            exact RetC2.mk hCC.out (Own.empty (α := Cell) (c := Cell.c) (sz := 2) (E := 36) w13 W.heap.size _ (by simp) HB13.out.size) (ext_alloc HB13.out _)
      · go_simp
        refine hK.out _ _ ?r28_33_hS (fun hHeld => ?r28_33_r)
        case r28_33_hS => (try dsimp only); first | assumption | exact GcS.keep hlt1 (by assumption) ((Below.refl _ _).drew) | exact GcS.keep hlt1 (by assumption) (by assumption) | exact GcS.keep hlt1 (by assumption) ((Below.refl _ _).alloc (Nat.le_refl _) _) | exact GcS.keepG hlt1 (by assumption) hG13 (by first | omega | (simp; done) | (have h9 := hb8.size; simp at h9 ⊢; omega))
        clear hK K
        try simp only [Act.put, List.setIfInBounds_toArray, List.set_cons_zero, List.set_cons_succ]
        refine wpAnyH_ready (rs := [3]) (by kernel_rfl) (by simp) ?_
        refine (AllReadyH.cons (by (simp only [List.getElem?_toArray, List.getElem?_cons_succ, List.getElem?_cons_zero]; rfl)) (fun K hK => ?_) AllReadyH.nil)
        go_simp
        (go_at_call 72; with_reducible refine (qw.out _).mono ?_; rintro e w3 ⟨rfl, rfl⟩)
        try go_wp2_with fail
        refine hK.out _ _ ?r28_34_hS (fun hHeld => ?r28_34_r)
        case r28_34_hS => (try dsimp only); first | assumption | exact GcS.keep hlt1 (by assumption) ((Below.refl _ _).drew) | exact GcS.keep hlt1 (by assumption) (by assumption) | exact GcS.keep hlt1 (by assumption) ((Below.refl _ _).alloc (Nat.le_refl _) _) | exact GcS.keepG hlt1 (by assumption) hG13 (by first | omega | (simp; done) | (have h9 := hb8.size; simp at h9 ⊢; omega))
        clear hK K
        try simp only [Act.put, List.setIfInBounds_toArray, List.set_cons_zero, List.set_cons_succ]
        refine wpAnyH_take (i := 4) (v := ?r28_35_vv) (by (simp only [List.getElem?_toArray, List.getElem?_cons_succ, List.getElem?_cons_zero]; rfl)) (by kernel_rfl) (by kernel_rfl) (by kernel_rfl) (by exact fun _ _ _ h => h) (Or.inl ⟨by rfl, ?r28_35_hy⟩) (by assumption) ?r28_35_rest
        case r28_35_hy => intro w hSw; (try dsimp only at hSw); (go_simp <;> (with_reducible rfl))
        try simp only [Act.put, List.setIfInBounds_toArray, List.set_cons_zero, List.set_cons_succ]
        refine wpAnyH_take (i := 5) (v := ?r28_36_vv) (by (simp only [List.getElem?_toArray, List.getElem?_cons_succ, List.getElem?_cons_zero]; rfl)) (by kernel_rfl) (by kernel_rfl) (by kernel_rfl) (by exact fun _ _ _ h => h) (Or.inl ⟨by rfl, ?r28_36_hy⟩) (by assumption) ?r28_36_rest
        case r28_36_hy => intro w hSw; (try dsimp only at hSw); (go_simp <;> (with_reducible rfl))
        try simp only [Act.put, List.setIfInBounds_toArray, List.set_cons_zero, List.set_cons_succ]
        refine wpAnyH_ready (rs := [6]) (by kernel_rfl) (by simp) ?_
        refine (AllReadyH.cons (by (simp only [List.getElem?_toArray, List.getElem?_cons_succ, List.getElem?_cons_zero]; rfl)) (fun K hK => ?_) AllReadyH.nil)
        go_simp
        (go_at_call 73; with_reducible refine (qy.out _).mono ?_; rintro e w6 ⟨rfl, rfl⟩)
        try go_wp2_with fail
        refine hK.out _ _ ?r28_37_hS (fun hHeld => ?r28_37_r)
        case r28_37_hS => (try dsimp only); first | assumption | exact GcS.keep hlt1 (by assumption) ((Below.refl _ _).drew) | exact GcS.keep hlt1 (by assumption) (by assumption) | exact GcS.keep hlt1 (by assumption) ((Below.refl _ _).alloc (Nat.le_refl _) _) | exact GcS.keepG hlt1 (by assumption) hG13 (by first | omega | (simp; done) | (have h9 := hb8.size; simp at h9 ⊢; omega))
        clear hK K
        try simp only [Act.put, List.setIfInBounds_toArray, List.set_cons_zero, List.set_cons_succ]
        refine wpAnyH_take (i := 7) (v := ?r28_38_vv) (by (simp only [List.getElem?_toArray, List.getElem?_cons_succ, List.getElem?_cons_zero]; rfl)) (by kernel_rfl) (by kernel_rfl) (by kernel_rfl) (by exact fun _ _ _ h => h) (Or.inl ⟨by rfl, ?r28_38_hy⟩) (by assumption) ?r28_38_rest
        case r28_38_hy => intro w hSw; (try dsimp only at hSw); (go_simp <;> (with_reducible rfl))
        try simp only [Act.put, List.setIfInBounds_toArray, List.set_cons_zero, List.set_cons_succ]
        refine wpAnyH_ready (rs := [8]) (by kernel_rfl) (by simp) ?_
        refine (AllReadyH.cons (by (simp only [List.getElem?_toArray, List.getElem?_cons_succ, List.getElem?_cons_zero]; rfl)) (fun K hK => ?_) AllReadyH.nil)
        go_simp
        (go_at_call 58; refine (qt.out _ _ (by assumption) (by repeat (first | with_reducible exact sl1c _ p _ (by simp) _ | refine Sl.alloc ?_ _ | refine Sl.ext ?_ ((Below.refl _ _).drew)))).mono ?_; rintro e w8 ⟨g, rfl, hgl, hgr, hb8⟩)
        try go_wp2_with fail
        refine hK.out _ _ ?r28_39_hS (fun hHeld => ?r28_39_r)
        case r28_39_hS => (try dsimp only); first | assumption | exact GcS.keep hlt1 (by assumption) ((Below.refl _ _).drew) | exact GcS.keep hlt1 (by assumption) (by assumption) | exact GcS.keep hlt1 (by assumption) ((Below.refl _ _).alloc (Nat.le_refl _) _) | exact GcS.keepG hlt1 (by assumption) hG13 (by first | omega | (simp; done) | (have h9 := hb8.size; simp at h9 ⊢; omega))
        clear hK K
        try simp only [Act.put, List.setIfInBounds_toArray, List.set_cons_zero, List.set_cons_succ]
        refine wpAnyH_take (i := 9) (v := ?r28_40_vv) (by (simp only [List.getElem?_toArray, List.getElem?_cons_succ, List.getElem?_cons_zero]; rfl)) (by kernel_rfl) (by kernel_rfl) (by kernel_rfl) (by exact fun _ _ _ h => h) (Or.inl ⟨by rfl, ?r28_40_hy⟩) (by assumption) ?r28_40_rest
        case r28_40_hy => intro w hSw; (try dsimp only at hSw); (go_simp <;> (with_reducible rfl))
        try simp only [Act.put, List.setIfInBounds_toArray, List.set_cons_zero, List.set_cons_succ]
        refine wpAnyH_take (i := 10) (v := ?r28_41_vv) (by (simp only [List.getElem?_toArray, List.getElem?_cons_succ, List.getElem?_cons_zero]; rfl)) (by kernel_rfl) (by kernel_rfl) (by kernel_rfl) (by exact fun _ _ _ h => h) (Or.inl ⟨by rfl, ?r28_41_hy⟩) (by assumption) ?r28_41_rest
        case r28_41_hy => intro w hSw; (try dsimp only at hSw); (go_simp <;> (with_reducible rfl))
        try simp only [Act.put, List.setIfInBounds_toArray, List.set_cons_zero, List.set_cons_succ]
        refine wpAnyH_take (i := 11) (v := ?r28_42_vv) (by (simp only [List.getElem?_toArray, List.getElem?_cons_succ, List.getElem?_cons_zero]; rfl)) (by kernel_rfl) (by kernel_rfl) (by kernel_rfl) (by exact fun _ _ _ h => h) (Or.inl ⟨by rfl, ?r28_42_hy⟩) (by assumption) ?r28_42_rest
        case r28_42_hy => intro w hSw; (try dsimp only at hSw); (go_simp <;> (with_reducible rfl))
        try simp only [Act.put, List.setIfInBounds_toArray, List.set_cons_zero, List.set_cons_succ]
        refine wpAnyH_ready (rs := [13]) (by kernel_rfl) (by simp) ?_
        refine (AllReadyH.cons (by (simp only [List.getElem?_toArray, List.getElem?_cons_succ, List.getElem?_cons_zero]; rfl)) (fun K hK => ?_) AllReadyH.nil)
        (refine step_store_bk rfl 85 (.tmp 10) (.tmp 22) rfl _ (gcells g) rfl rfl 85 Try.zeroCells85 (by repeat (first | exact Bk.new _ 85 Try.zeroCells85 _ (by simp) | refine Bk.ext ?_ hb8 | refine Bk.alloc ?_ _ | refine Bk.ext ?_ ((Below.refl _ _).drew))) (by rw [zsize, gcells_size, hgl]) (ginfo _ hgl) (gcells_one _) ?_; intro w13 k13 G13; have hG13 := G13)
        refine hK.out _ _ ?r28_43_hS (fun hHeld => ?r28_43_r)
        case r28_43_hS => (try dsimp only); first | assumption | exact GcS.keep hlt1 (by assumption) ((Below.refl _ _).drew) | exact GcS.keep hlt1 (by assumption) (by assumption) | exact GcS.keep hlt1 (by assumption) ((Below.refl _ _).alloc (Nat.le_refl _) _) | exact GcS.keepG hlt1 (by assumption) hG13 (by first | omega | (simp; done) | (have h9 := hb8.size; simp at h9 ⊢; omega))
        clear hK K
        try simp only [Act.put, List.setIfInBounds_toArray, List.set_cons_zero, List.set_cons_succ]
        refine wpAnyH_take (i := 14) (v := ?r28_44_vv) (by (simp only [List.getElem?_toArray, List.getElem?_cons_succ, List.getElem?_cons_zero]; rfl)) (by kernel_rfl) (by kernel_rfl) (by kernel_rfl) (by exact fun _ _ _ h => h) (Or.inl ⟨by rfl, ?r28_44_hy⟩) (by assumption) ?r28_44_rest
        case r28_44_hy => intro w hSw; (try dsimp only at hSw); (go_simp <;> (with_reducible rfl))
        try simp only [Act.put, List.setIfInBounds_toArray, List.set_cons_zero, List.set_cons_succ]
        refine wpAnyH_done (by kernel_rfl) ?_ _
        have hS13 : GcS W1 (W.heap.size + 1) p w13 := by assumption
        obtain ⟨hB13, p0', p1'⟩ := hS13
        have HB13 := Lib.hid (show Below W.heap.size W w13 from HB.out.trans (hB13.mono HB.out.size))
        have K13 := Lib.hid k13
        have HGR := Lib.hid hgr
        clear hB13
        clear k13
        clear hgr
        clear hb8
        repeat clear hHeld
        by_cases hc : CC = 0
        · have hE := Lib.hid (hR.out.trans (if_pos (hCC.out.symm.trans hc)))
          obtain ⟨hc2, ⟨y0, y1⟩, hway⟩ := growC_ok (hCC.out.symm.trans hc)
          obtain ⟨hv, hpts⟩ := cornC_ok hc2
          obtain ⟨⟨w0, w1'⟩, ⟨h0, h1⟩, hl⟩ := sqOk_edges hv
          obtain ⟨⟨x0, x1⟩, z0, z1⟩ := hpts p (by simp)
          obtain ⟨ny, hny⟩ : ∃ ny : Nat, years = (ny : Int) := ⟨years.toNat, (Int.toNat_of_nonneg y0).symm⟩
          subst hny
          have hgg := HGR.out hc
          subst hgg
          have qg := Lib.hid (sGrow_calls w h sl hl ⟨w1', h1⟩ p ⟨x0, x1⟩ ⟨z0, z1⟩ way (hway way (by simp)) ny (by omega) _ w13 K13.out)
          rw [show ((ny : Int)).toNat = ny from Int.toNat_natCast ny] at hE
          have hcb : (CC == 0) = true := by simpa using hc
          have hcb2 : (CC != 0) = false := by simpa using hc
          clear hc hc2 hv hpts hl hway hR
          unfold Cell.v at qg
          generalize growL sl ny [p] p way = us at *
          go_wp2_with fail
          refine qg.out.mono ?_
          rintro e w20 ⟨g20, c20, rfl, hO, hb20⟩
          have HO := Lib.hid (hO.more HB13.out.size)
          have HB20 := Lib.hid (ext_trans HB13.out hb20)
          clear hO hb20
          go_wp2_with fail
          go_ret2
          rw [hE.out]
          exact RetC2.mk rfl HO.out HB20.out
        · have hE := Lib.hid (hR.out.trans (if_neg (fun h0 => hc (hCC.out.trans h0))))
          have hcb : (CC == 0) = false := by simpa using hc
          have hcb2 : (CC != 0) = true := by simpa using hc
          clear hc hR
          go_wp2_with fail
          go_ret2
          rw [hE.out]
          exact RetC2.mk hCC.out (Own.empty (α := Cell) (c := Cell.c) (sz := 2) (E := 36) w13 W.heap.size _ (by simp) HB13.out.size) (ext_alloc HB13.out _)
    · go_simp
      (go_at_call 72; with_reducible refine (qw.out _).mono ?_; rintro e w3 ⟨rfl, rfl⟩)
      try go_wp2_with fail
      refine hK.out _ _ ?r28_45_hS (fun hHeld => ?r28_45_r)
      case r28_45_hS => (try dsimp only); first | assumption | exact GcS.keep hlt1 (by assumption) ((Below.refl _ _).drew) | exact GcS.keep hlt1 (by assumption) (by assumption) | exact GcS.keep hlt1 (by assumption) ((Below.refl _ _).alloc (Nat.le_refl _) _) | exact GcS.keepG hlt1 (by assumption) hG13 (by first | omega | (simp; done) | (have h9 := hb8.size; simp at h9 ⊢; omega))
      clear hK K
      try simp only [Act.put, List.setIfInBounds_toArray, List.set_cons_zero, List.set_cons_succ]
      refine wpAnyH_take (i := 4) (v := ?r28_46_vv) (by (simp only [List.getElem?_toArray, List.getElem?_cons_succ, List.getElem?_cons_zero]; rfl)) (by kernel_rfl) (by kernel_rfl) (by kernel_rfl) (by exact fun _ _ _ h => h) (Or.inl ⟨by rfl, ?r28_46_hy⟩) (by assumption) ?r28_46_rest
      case r28_46_hy => intro w hSw; (try dsimp only at hSw); (go_simp <;> (with_reducible rfl))
      try simp only [Act.put, List.setIfInBounds_toArray, List.set_cons_zero, List.set_cons_succ]
      refine wpAnyH_take (i := 5) (v := ?r28_47_vv) (by (simp only [List.getElem?_toArray, List.getElem?_cons_succ, List.getElem?_cons_zero]; rfl)) (by kernel_rfl) (by kernel_rfl) (by kernel_rfl) (by exact fun _ _ _ h => h) (Or.inl ⟨by rfl, ?r28_47_hy⟩) (by assumption) ?r28_47_rest
      case r28_47_hy => intro w hSw; (try dsimp only at hSw); (go_simp <;> (with_reducible rfl))
      try simp only [Act.put, List.setIfInBounds_toArray, List.set_cons_zero, List.set_cons_succ]
      refine wpAnyH_ready (rs := [1, 6, 12]) (by kernel_rfl) (by simp) ?_
      refine (AllReadyH.cons (by (simp only [List.getElem?_toArray, List.getElem?_cons_succ, List.getElem?_cons_zero]; rfl)) (fun K hK => ?_) (AllReadyH.cons (by (simp only [List.getElem?_toArray, List.getElem?_cons_succ, List.getElem?_cons_zero]; rfl)) (fun K hK => ?_) (AllReadyH.cons (by (simp only [List.getElem?_toArray, List.getElem?_cons_succ, List.getElem?_cons_zero]; rfl)) (fun K hK => ?_) AllReadyH.nil)))
      · go_simp
        refine hK.out _ _ ?r28_48_hS (fun hHeld => ?r28_48_r)
        case r28_48_hS => (try dsimp only); first | assumption | exact GcS.keep hlt1 (by assumption) ((Below.refl _ _).drew) | exact GcS.keep hlt1 (by assumption) (by assumption) | exact GcS.keep hlt1 (by assumption) ((Below.refl _ _).alloc (Nat.le_refl _) _) | exact GcS.keepG hlt1 (by assumption) hG13 (by first | omega | (simp; done) | (have h9 := hb8.size; simp at h9 ⊢; omega))
        clear hK K
        try simp only [Act.put, List.setIfInBounds_toArray, List.set_cons_zero, List.set_cons_succ]
        refine wpAnyH_ready (rs := [6, 12]) (by kernel_rfl) (by simp) ?_
        refine (AllReadyH.cons (by (simp only [List.getElem?_toArray, List.getElem?_cons_succ, List.getElem?_cons_zero]; rfl)) (fun K hK => ?_) (AllReadyH.cons (by (simp only [List.getElem?_toArray, List.getElem?_cons_succ, List.getElem?_cons_zero]; rfl)) (fun K hK => ?_) AllReadyH.nil))
        · go_simp
          (go_at_call 73; with_reducible refine (qy.out _).mono ?_; rintro e w6 ⟨rfl, rfl⟩)
          try go_wp2_with fail
          refine hK.out _ _ ?r28_49_hS (fun hHeld => ?r28_49_r)
          case r28_49_hS => (try dsimp only); first | assumption | exact GcS.keep hlt1 (by assumption) ((Below.refl _ _).drew) | exact GcS.keep hlt1 (by assumption) (by assumption) | exact GcS.keep hlt1 (by assumption) ((Below.refl _ _).alloc (Nat.le_refl _) _) | exact GcS.keepG hlt1 (by assumption) hG13 (by first | omega | (simp; done) | (have h9 := hb8.size; simp at h9 ⊢; omega))
          clear hK K
          try simp only [Act.put, List.setIfInBounds_toArray, List.set_cons_zero, List.set_cons_succ]
          refine wpAnyH_take (i := 7) (v := ?r28_50_vv) (by (simp only [List.getElem?_toArray, List.getElem?_cons_succ, List.getElem?_cons_zero]; rfl)) (by kernel_rfl) (by kernel_rfl) (by kernel_rfl) (by exact fun _ _ _ h => h) (Or.inl ⟨by rfl, ?r28_50_hy⟩) (by assumption) ?r28_50_rest
          case r28_50_hy => intro w hSw; (try dsimp only at hSw); (go_simp <;> (with_reducible rfl))
          try simp only [Act.put, List.setIfInBounds_toArray, List.set_cons_zero, List.set_cons_succ]
          refine wpAnyH_ready (rs := [8, 12]) (by kernel_rfl) (by simp) ?_
          refine (AllReadyH.cons (by (simp only [List.getElem?_toArray, List.getElem?_cons_succ, List.getElem?_cons_zero]; rfl)) (fun K hK => ?_) (AllReadyH.cons (by (simp only [List.getElem?_toArray, List.getElem?_cons_succ, List.getElem?_cons_zero]; rfl)) (fun K hK => ?_) AllReadyH.nil))
          · go_simp
            (go_at_call 58; refine (qt.out _ _ (by assumption) (by repeat (first | with_reducible exact sl1c _ p _ (by simp) _ | refine Sl.alloc ?_ _ | refine Sl.ext ?_ ((Below.refl _ _).drew)))).mono ?_; rintro e w8 ⟨g, rfl, hgl, hgr, hb8⟩)
            try go_wp2_with fail
            refine hK.out _ _ ?r28_51_hS (fun hHeld => ?r28_51_r)
            case r28_51_hS => (try dsimp only); first | assumption | exact GcS.keep hlt1 (by assumption) ((Below.refl _ _).drew) | exact GcS.keep hlt1 (by assumption) (by assumption) | exact GcS.keep hlt1 (by assumption) ((Below.refl _ _).alloc (Nat.le_refl _) _) | exact GcS.keepG hlt1 (by assumption) hG13 (by first | omega | (simp; done) | (have h9 := hb8.size; simp at h9 ⊢; omega))
            clear hK K
            try simp only [Act.put, List.setIfInBounds_toArray, List.set_cons_zero, List.set_cons_succ]
            refine wpAnyH_take (i := 9) (v := ?r28_52_vv) (by (simp only [List.getElem?_toArray, List.getElem?_cons_succ, List.getElem?_cons_zero]; rfl)) (by kernel_rfl) (by kernel_rfl) (by kernel_rfl) (by exact fun _ _ _ h => h) (Or.inl ⟨by rfl, ?r28_52_hy⟩) (by assumption) ?r28_52_rest
            case r28_52_hy => intro w hSw; (try dsimp only at hSw); (go_simp <;> (with_reducible rfl))
            try simp only [Act.put, List.setIfInBounds_toArray, List.set_cons_zero, List.set_cons_succ]
            refine wpAnyH_take (i := 10) (v := ?r28_53_vv) (by (simp only [List.getElem?_toArray, List.getElem?_cons_succ, List.getElem?_cons_zero]; rfl)) (by kernel_rfl) (by kernel_rfl) (by kernel_rfl) (by exact fun _ _ _ h => h) (Or.inl ⟨by rfl, ?r28_53_hy⟩) (by assumption) ?r28_53_rest
            case r28_53_hy => intro w hSw; (try dsimp only at hSw); (go_simp <;> (with_reducible rfl))
            try simp only [Act.put, List.setIfInBounds_toArray, List.set_cons_zero, List.set_cons_succ]
            refine wpAnyH_take (i := 11) (v := ?r28_54_vv) (by (simp only [List.getElem?_toArray, List.getElem?_cons_succ, List.getElem?_cons_zero]; rfl)) (by kernel_rfl) (by kernel_rfl) (by kernel_rfl) (by exact fun _ _ _ h => h) (Or.inl ⟨by rfl, ?r28_54_hy⟩) (by assumption) ?r28_54_rest
            case r28_54_hy => intro w hSw; (try dsimp only at hSw); (go_simp <;> (with_reducible rfl))
            try simp only [Act.put, List.setIfInBounds_toArray, List.set_cons_zero, List.set_cons_succ]
            refine wpAnyH_ready (rs := [12]) (by kernel_rfl) (by simp) ?_
            refine (AllReadyH.cons (by (simp only [List.getElem?_toArray, List.getElem?_cons_succ, List.getElem?_cons_zero]; rfl)) (fun K hK => ?_) AllReadyH.nil)
            go_simp
            refine hK.out _ _ ?r28_55_hS (fun hHeld => ?r28_55_r)
            case r28_55_hS => (try dsimp only); first | assumption | exact GcS.keep hlt1 (by assumption) ((Below.refl _ _).drew) | exact GcS.keep hlt1 (by assumption) (by assumption) | exact GcS.keep hlt1 (by assumption) ((Below.refl _ _).alloc (Nat.le_refl _) _) | exact GcS.keepG hlt1 (by assumption) hG13 (by first | omega | (simp; done) | (have h9 := hb8.size; simp at h9 ⊢; omega))
            clear hK K
            try simp only [Act.put, List.setIfInBounds_toArray, List.set_cons_zero, List.set_cons_succ]
            refine wpAnyH_ready (rs := [13]) (by kernel_rfl) (by simp) ?_
            refine (AllReadyH.cons (by (simp only [List.getElem?_toArray, List.getElem?_cons_succ, List.getElem?_cons_zero]; rfl)) (fun K hK => ?_) AllReadyH.nil)
            (refine step_store_bk rfl 85 (.tmp 10) (.tmp 22) rfl _ (gcells g) rfl rfl 85 Try.zeroCells85 (by repeat (first | exact Bk.new _ 85 Try.zeroCells85 _ (by simp) | refine Bk.ext ?_ hb8 | refine Bk.alloc ?_ _ | refine Bk.ext ?_ ((Below.refl _ _).drew))) (by rw [zsize, gcells_size, hgl]) (ginfo _ hgl) (gcells_one _) ?_; intro w13 k13 G13; have hG13 := G13)
            refine hK.out _ _ ?r28_56_hS (fun hHeld => ?r28_56_r)
            case r28_56_hS => (try dsimp only); first | assumption | exact GcS.keep hlt1 (by assumption) ((Below.refl _ _).drew) | exact GcS.keep hlt1 (by assumption) (by assumption) | exact GcS.keep hlt1 (by assumption) ((Below.refl _ _).alloc (Nat.le_refl _) _) | exact GcS.keepG hlt1 (by assumption) hG13 (by first | omega | (simp; done) | (have h9 := hb8.size; simp at h9 ⊢; omega))
            clear hK K
            try simp only [Act.put, List.setIfInBounds_toArray, List.set_cons_zero, List.set_cons_succ]
            refine wpAnyH_take (i := 14) (v := ?r28_57_vv) (by (simp only [List.getElem?_toArray, List.getElem?_cons_succ, List.getElem?_cons_zero]; rfl)) (by kernel_rfl) (by kernel_rfl) (by kernel_rfl) (by exact fun _ _ _ h => h) (Or.inl ⟨by rfl, ?r28_57_hy⟩) (by assumption) ?r28_57_rest
            case r28_57_hy => intro w hSw; (try dsimp only at hSw); (go_simp <;> (with_reducible rfl))
            try simp only [Act.put, List.setIfInBounds_toArray, List.set_cons_zero, List.set_cons_succ]
            refine wpAnyH_done (by kernel_rfl) ?_ _
            have hS13 : GcS W1 (W.heap.size + 1) p w13 := by assumption
            obtain ⟨hB13, p0', p1'⟩ := hS13
            have HB13 := Lib.hid (show Below W.heap.size W w13 from HB.out.trans (hB13.mono HB.out.size))
            have K13 := Lib.hid k13
            have HGR := Lib.hid hgr
            clear hB13
            clear k13
            clear hgr
            clear hb8
            repeat clear hHeld
            by_cases hc : CC = 0
            · have hE := Lib.hid (hR.out.trans (if_pos (hCC.out.symm.trans hc)))
              obtain ⟨hc2, ⟨y0, y1⟩, hway⟩ := growC_ok (hCC.out.symm.trans hc)
              obtain ⟨hv, hpts⟩ := cornC_ok hc2
              obtain ⟨⟨w0, w1'⟩, ⟨h0, h1⟩, hl⟩ := sqOk_edges hv
              obtain ⟨⟨x0, x1⟩, z0, z1⟩ := hpts p (by simp)
              obtain ⟨ny, hny⟩ : ∃ ny : Nat, years = (ny : Int) := ⟨years.toNat, (Int.toNat_of_nonneg y0).symm⟩
              subst hny
              have hgg := HGR.out hc
              subst hgg
              have qg := Lib.hid (sGrow_calls w h sl hl ⟨w1', h1⟩ p ⟨x0, x1⟩ ⟨z0, z1⟩ way (hway way (by simp)) ny (by omega) _ w13 K13.out)
              rw [show ((ny : Int)).toNat = ny from Int.toNat_natCast ny] at hE
              have hcb : (CC == 0) = true := by simpa using hc
              have hcb2 : (CC != 0) = false := by simpa using hc
              clear hc hc2 hv hpts hl hway hR
              unfold Cell.v at qg
              generalize growL sl ny [p] p way = us at *
              go_wp2_with fail
              refine qg.out.mono ?_
              rintro e w20 ⟨g20, c20, rfl, hO, hb20⟩
              have HO := Lib.hid (hO.more HB13.out.size)
              have HB20 := Lib.hid (ext_trans HB13.out hb20)
              clear hO hb20
              go_wp2_with fail
              go_ret2
              rw [hE.out]
              exact RetC2.mk rfl HO.out HB20.out
            · have hE := Lib.hid (hR.out.trans (if_neg (fun h0 => hc (hCC.out.trans h0))))
              have hcb : (CC == 0) = false := by simpa using hc
              have hcb2 : (CC != 0) = true := by simpa using hc
              clear hc hR
              go_wp2_with fail
              go_ret2
              rw [hE.out]
              exact RetC2.mk hCC.out (Own.empty (α := Cell) (c := Cell.c) (sz := 2) (E := 36) w13 W.heap.size _ (by simp) HB13.out.size) (ext_alloc HB13.out _)
          · go_simp
            refine hK.out _ _ ?r28_58_hS (fun hHeld => ?r28_58_r)
            case r28_58_hS => (try dsimp only); first | assumption | exact GcS.keep hlt1 (by assumption) ((Below.refl _ _).drew) | exact GcS.keep hlt1 (by assumption) (by assumption) | exact GcS.keep hlt1 (by assumption) ((Below.refl _ _).alloc (Nat.le_refl _) _) | exact GcS.keepG hlt1 (by assumption) hG13 (by first | omega | (simp; done) | (have h9 := hb8.size; simp at h9 ⊢; omega))
            clear hK K
            try simp only [Act.put, List.setIfInBounds_toArray, List.set_cons_zero, List.set_cons_succ]
            refine wpAnyH_ready (rs := [8]) (by kernel_rfl) (by simp) ?_
            refine (AllReadyH.cons (by (simp only [List.getElem?_toArray, List.getElem?_cons_succ, List.getElem?_cons_zero]; rfl)) (fun K hK => ?_) AllReadyH.nil)
            go_simp
            (go_at_call 58; refine (qt.out _ _ (by assumption) (by repeat (first | with_reducible exact sl1c _ p _ (by simp) _ | refine Sl.alloc ?_ _ | refine Sl.ext ?_ ((Below.refl _ _).drew)))).mono ?_; rintro e w8 ⟨g, rfl, hgl, hgr, hb8⟩)
            try go_wp2_with fail
            refine hK.out _ _ ?r28_59_hS (fun hHeld => ?r28_59_r)
            case r28_59_hS => (try dsimp only); first | assumption | exact GcS.keep hlt1 (by assumption) ((Below.refl _ _).drew) | exact GcS.keep hlt1 (by assumption) (by assumption) | exact GcS.keep hlt1 (by assumption) ((Below.refl _ _).alloc (Nat.le_refl _) _) | exact GcS.keepG hlt1 (by assumption) hG13 (by first | omega | (simp; done) | (have h9 := hb8.size; simp at h9 ⊢; omega))
            clear hK K
            try simp only [Act.put, List.setIfInBounds_toArray, List.set_cons_zero, List.set_cons_succ]
            refine wpAnyH_take (i := 9) (v := ?r28_60_vv) (by (simp only [List.getElem?_toArray, List.getElem?_cons_succ, List.getElem?_cons_zero]; rfl)) (by kernel_rfl) (by kernel_rfl) (by kernel_rfl) (by exact fun _ _ _ h => h) (Or.inl ⟨by rfl, ?r28_60_hy⟩) (by assumption) ?r28_60_rest
            case r28_60_hy => intro w hSw; (try dsimp only at hSw); (go_simp <;> (with_reducible rfl))
            try simp only [Act.put, List.setIfInBounds_toArray, List.set_cons_zero, List.set_cons_succ]
            refine wpAnyH_take (i := 10) (v := ?r28_61_vv) (by (simp only [List.getElem?_toArray, List.getElem?_cons_succ, List.getElem?_cons_zero]; rfl)) (by kernel_rfl) (by kernel_rfl) (by kernel_rfl) (by exact fun _ _ _ h => h) (Or.inl ⟨by rfl, ?r28_61_hy⟩) (by assumption) ?r28_61_rest
            case r28_61_hy => intro w hSw; (try dsimp only at hSw); (go_simp <;> (with_reducible rfl))
            try simp only [Act.put, List.setIfInBounds_toArray, List.set_cons_zero, List.set_cons_succ]
            refine wpAnyH_take (i := 11) (v := ?r28_62_vv) (by (simp only [List.getElem?_toArray, List.getElem?_cons_succ, List.getElem?_cons_zero]; rfl)) (by kernel_rfl) (by kernel_rfl) (by kernel_rfl) (by exact fun _ _ _ h => h) (Or.inl ⟨by rfl, ?r28_62_hy⟩) (by assumption) ?r28_62_rest
            case r28_62_hy => intro w hSw; (try dsimp only at hSw); (go_simp <;> (with_reducible rfl))
            try simp only [Act.put, List.setIfInBounds_toArray, List.set_cons_zero, List.set_cons_succ]
            refine wpAnyH_ready (rs := [13]) (by kernel_rfl) (by simp) ?_
            refine (AllReadyH.cons (by (simp only [List.getElem?_toArray, List.getElem?_cons_succ, List.getElem?_cons_zero]; rfl)) (fun K hK => ?_) AllReadyH.nil)
            (refine step_store_bk rfl 85 (.tmp 10) (.tmp 22) rfl _ (gcells g) rfl rfl 85 Try.zeroCells85 (by repeat (first | exact Bk.new _ 85 Try.zeroCells85 _ (by simp) | refine Bk.ext ?_ hb8 | refine Bk.alloc ?_ _ | refine Bk.ext ?_ ((Below.refl _ _).drew))) (by rw [zsize, gcells_size, hgl]) (ginfo _ hgl) (gcells_one _) ?_; intro w13 k13 G13; have hG13 := G13)
            refine hK.out _ _ ?r28_63_hS (fun hHeld => ?r28_63_r)
            case r28_63_hS => (try dsimp only); first | assumption | exact GcS.keep hlt1 (by assumption) ((Below.refl _ _).drew) | exact GcS.keep hlt1 (by assumption) (by assumption) | exact GcS.keep hlt1 (by assumption) ((Below.refl _ _).alloc (Nat.le_refl _) _) | exact GcS.keepG hlt1 (by assumption) hG13 (by first | omega | (simp; done) | (have h9 := hb8.size; simp at h9 ⊢; omega))
            clear hK K
            try simp only [Act.put, List.setIfInBounds_toArray, List.set_cons_zero, List.set_cons_succ]
            refine wpAnyH_take (i := 14) (v := ?r28_64_vv) (by (simp only [List.getElem?_toArray, List.getElem?_cons_succ, List.getElem?_cons_zero]; rfl)) (by kernel_rfl) (by kernel_rfl) (by kernel_rfl) (by exact fun _ _ _ h => h) (Or.inl ⟨by rfl, ?r28_64_hy⟩) (by assumption) ?r28_64_rest
            case r28_64_hy => intro w hSw; (try dsimp only at hSw); (go_simp <;> (with_reducible rfl))
            try simp only [Act.put, List.setIfInBounds_toArray, List.set_cons_zero, List.set_cons_succ]
            refine wpAnyH_done (by kernel_rfl) ?_ _
            have hS13 : GcS W1 (W.heap.size + 1) p w13 := by assumption
            obtain ⟨hB13, p0', p1'⟩ := hS13
            have HB13 := Lib.hid (show Below W.heap.size W w13 from HB.out.trans (hB13.mono HB.out.size))
            have K13 := Lib.hid k13
            have HGR := Lib.hid hgr
            clear hB13
            clear k13
            clear hgr
            clear hb8
            repeat clear hHeld
            by_cases hc : CC = 0
            · have hE := Lib.hid (hR.out.trans (if_pos (hCC.out.symm.trans hc)))
              obtain ⟨hc2, ⟨y0, y1⟩, hway⟩ := growC_ok (hCC.out.symm.trans hc)
              obtain ⟨hv, hpts⟩ := cornC_ok hc2
              obtain ⟨⟨w0, w1'⟩, ⟨h0, h1⟩, hl⟩ := sqOk_edges hv
              obtain ⟨⟨x0, x1⟩, z0, z1⟩ := hpts p (by simp)
              obtain ⟨ny, hny⟩ : ∃ ny : Nat, years = (ny : Int) := ⟨years.toNat, (Int.toNat_of_nonneg y0).symm⟩
              subst hny
              have hgg := HGR.out hc
              subst hgg
              have qg := Lib.hid (sGrow_calls w h sl hl ⟨w1', h1⟩ p ⟨x0, x1⟩ ⟨z0, z1⟩ way (hway way (by simp)) ny (by omega) _ w13 K13.out)
              rw [show ((ny : Int)).toNat = ny from Int.toNat_natCast ny] at hE
              have hcb : (CC == 0) = true := by simpa using hc
              have hcb2 : (CC != 0) = false := by simpa using hc
              clear hc hc2 hv hpts hl hway hR
              unfold Cell.v at qg
              generalize growL sl ny [p] p way = us at *
              go_wp2_with fail
              refine qg.out.mono ?_
              rintro e w20 ⟨g20, c20, rfl, hO, hb20⟩
              have HO := Lib.hid (hO.more HB13.out.size)
              have HB20 := Lib.hid (ext_trans HB13.out hb20)
              clear hO hb20
              go_wp2_with fail
              go_ret2
              rw [hE.out]
              exact RetC2.mk rfl HO.out HB20.out
            · have hE := Lib.hid (hR.out.trans (if_neg (fun h0 => hc (hCC.out.trans h0))))
              have hcb : (CC == 0) = false := by simpa using hc
              have hcb2 : (CC != 0) = true := by simpa using hc
              clear hc hR
              go_wp2_with fail
              go_ret2
              rw [hE.out]
              exact RetC2.mk hCC.out (Own.empty (α := Cell) (c := Cell.c) (sz := 2) (E := 36) w13 W.heap.size _ (by simp) HB13.out.size) (ext_alloc HB13.out _)
        · go_simp
          refine hK.out _ _ ?r28_65_hS (fun hHeld => ?r28_65_r)
          case r28_65_hS => (try dsimp only); first | assumption | exact GcS.keep hlt1 (by assumption) ((Below.refl _ _).drew) | exact GcS.keep hlt1 (by assumption) (by assumption) | exact GcS.keep hlt1 (by assumption) ((Below.refl _ _).alloc (Nat.le_refl _) _) | exact GcS.keepG hlt1 (by assumption) hG13 (by first | omega | (simp; done) | (have h9 := hb8.size; simp at h9 ⊢; omega))
          clear hK K
          try simp only [Act.put, List.setIfInBounds_toArray, List.set_cons_zero, List.set_cons_succ]
          refine wpAnyH_ready (rs := [6]) (by kernel_rfl) (by simp) ?_
          refine (AllReadyH.cons (by (simp only [List.getElem?_toArray, List.getElem?_cons_succ, List.getElem?_cons_zero]; rfl)) (fun K hK => ?_) AllReadyH.nil)
          go_simp
          (go_at_call 73; with_reducible refine (qy.out _).mono ?_; rintro e w6 ⟨rfl, rfl⟩)
          try go_wp2_with fail
          refine hK.out _ _ ?r28_66_hS (fun hHeld => ?r28_66_r)
          case r28_66_hS => (try dsimp only); first | assumption | exact GcS.keep hlt1 (by assumption) ((Below.refl _ _).drew) | exact GcS.keep hlt1 (by assumption) (by assumption) | exact GcS.keep hlt1 (by assumption) ((Below.refl _ _).alloc (Nat.le_refl _) _) | exact GcS.keepG hlt1 (by assumption) hG13 (by first | omega | (simp; done) | (have h9 := hb8.size; simp at h9 ⊢; omega))
          clear hK K
          try simp only [Act.put, List.setIfInBounds_toArray, List.set_cons_zero, List.set_cons_succ]
          refine wpAnyH_take (i := 7) (v := ?r28_67_vv) (by (simp only [List.getElem?_toArray, List.getElem?_cons_succ, List.getElem?_cons_zero]; rfl)) (by kernel_rfl) (by kernel_rfl) (by kernel_rfl) (by exact fun _ _ _ h => h) (Or.inl ⟨by rfl, ?r28_67_hy⟩) (by assumption) ?r28_67_rest
          case r28_67_hy => intro w hSw; (try dsimp only at hSw); (go_simp <;> (with_reducible rfl))
          try simp only [Act.put, List.setIfInBounds_toArray, List.set_cons_zero, List.set_cons_succ]
          refine wpAnyH_ready (rs := [8]) (by kernel_rfl) (by simp) ?_
          refine (AllReadyH.cons (by (simp only [List.getElem?_toArray, List.getElem?_cons_succ, List.getElem?_cons_zero]; rfl)) (fun K hK => ?_) AllReadyH.nil)
          go_simp
          (go_at_call 58; refine (qt.out _ _ (by assumption) (by repeat (first | with_reducible exact sl1c _ p _ (by simp) _ | refine Sl.alloc ?_ _ | refine Sl.ext ?_ ((Below.refl _ _).drew)))).mono ?_; rintro e w8 ⟨g, rfl, hgl, hgr, hb8⟩)
          try go_wp2_with fail
          refine hK.out _ _ ?r28_68_hS (fun hHeld => ?r28_68_r)
          case r28_68_hS => (try dsimp only); first | assumption | exact GcS.keep hlt1 (by assumption) ((Below.refl _ _).drew) | exact GcS.keep hlt1 (by assumption) (by assumption) | exact GcS.keep hlt1 (by assumption) ((Below.refl _ _).alloc (Nat.le_refl _) _) | exact GcS.keepG hlt1 (by assumption) hG13 (by first | omega | (simp; done) | (have h9 := hb8.size; simp at h9 ⊢; omega))
          clear hK K
          try simp only [Act.put, List.setIfInBounds_toArray, List.set_cons_zero, List.set_cons_succ]
          refine wpAnyH_take (i := 9) (v := ?r28_69_vv) (by (simp only [List.getElem?_toArray, List.getElem?_cons_succ, List.getElem?_cons_zero]; rfl)) (by kernel_rfl) (by kernel_rfl) (by kernel_rfl) (by exact fun _ _ _ h => h) (Or.inl ⟨by rfl, ?r28_69_hy⟩) (by assumption) ?r28_69_rest
          case r28_69_hy => intro w hSw; (try dsimp only at hSw); (go_simp <;> (with_reducible rfl))
          try simp only [Act.put, List.setIfInBounds_toArray, List.set_cons_zero, List.set_cons_succ]
          refine wpAnyH_take (i := 10) (v := ?r28_70_vv) (by (simp only [List.getElem?_toArray, List.getElem?_cons_succ, List.getElem?_cons_zero]; rfl)) (by kernel_rfl) (by kernel_rfl) (by kernel_rfl) (by exact fun _ _ _ h => h) (Or.inl ⟨by rfl, ?r28_70_hy⟩) (by assumption) ?r28_70_rest
          case r28_70_hy => intro w hSw; (try dsimp only at hSw); (go_simp <;> (with_reducible rfl))
          try simp only [Act.put, List.setIfInBounds_toArray, List.set_cons_zero, List.set_cons_succ]
          refine wpAnyH_take (i := 11) (v := ?r28_71_vv) (by (simp only [List.getElem?_toArray, List.getElem?_cons_succ, List.getElem?_cons_zero]; rfl)) (by kernel_rfl) (by kernel_rfl) (by kernel_rfl) (by exact fun _ _ _ h => h) (Or.inl ⟨by rfl, ?r28_71_hy⟩) (by assumption) ?r28_71_rest
          case r28_71_hy => intro w hSw; (try dsimp only at hSw); (go_simp <;> (with_reducible rfl))
          try simp only [Act.put, List.setIfInBounds_toArray, List.set_cons_zero, List.set_cons_succ]
          refine wpAnyH_ready (rs := [13]) (by kernel_rfl) (by simp) ?_
          refine (AllReadyH.cons (by (simp only [List.getElem?_toArray, List.getElem?_cons_succ, List.getElem?_cons_zero]; rfl)) (fun K hK => ?_) AllReadyH.nil)
          (refine step_store_bk rfl 85 (.tmp 10) (.tmp 22) rfl _ (gcells g) rfl rfl 85 Try.zeroCells85 (by repeat (first | exact Bk.new _ 85 Try.zeroCells85 _ (by simp) | refine Bk.ext ?_ hb8 | refine Bk.alloc ?_ _ | refine Bk.ext ?_ ((Below.refl _ _).drew))) (by rw [zsize, gcells_size, hgl]) (ginfo _ hgl) (gcells_one _) ?_; intro w13 k13 G13; have hG13 := G13)
          refine hK.out _ _ ?r28_72_hS (fun hHeld => ?r28_72_r)
          case r28_72_hS => (try dsimp only); first | assumption | exact GcS.keep hlt1 (by assumption) ((Below.refl _ _).drew) | exact GcS.keep hlt1 (by assumption) (by assumption) | exact GcS.keep hlt1 (by assumption) ((Below.refl _ _).alloc (Nat.le_refl _) _) | exact GcS.keepG hlt1 (by assumption) hG13 (by first | omega | (simp; done) | (have h9 := hb8.size; simp at h9 ⊢; omega))
          clear hK K
          try simp only [Act.put, List.setIfInBounds_toArray, List.set_cons_zero, List.set_cons_succ]
          refine wpAnyH_take (i := 14) (v := ?r28_73_vv) (by (simp only [List.getElem?_toArray, List.getElem?_cons_succ, List.getElem?_cons_zero]; rfl)) (by kernel_rfl) (by kernel_rfl) (by kernel_rfl) (by exact fun _ _ _ h => h) (Or.inl ⟨by rfl, ?r28_73_hy⟩) (by assumption) ?r28_73_rest
          case r28_73_hy => intro w hSw; (try dsimp only at hSw); (go_simp <;> (with_reducible rfl))
          try simp only [Act.put, List.setIfInBounds_toArray, List.set_cons_zero, List.set_cons_succ]
          refine wpAnyH_done (by kernel_rfl) ?_ _
          have hS13 : GcS W1 (W.heap.size + 1) p w13 := by assumption
          obtain ⟨hB13, p0', p1'⟩ := hS13
          have HB13 := Lib.hid (show Below W.heap.size W w13 from HB.out.trans (hB13.mono HB.out.size))
          have K13 := Lib.hid k13
          have HGR := Lib.hid hgr
          clear hB13
          clear k13
          clear hgr
          clear hb8
          repeat clear hHeld
          by_cases hc : CC = 0
          · have hE := Lib.hid (hR.out.trans (if_pos (hCC.out.symm.trans hc)))
            obtain ⟨hc2, ⟨y0, y1⟩, hway⟩ := growC_ok (hCC.out.symm.trans hc)
            obtain ⟨hv, hpts⟩ := cornC_ok hc2
            obtain ⟨⟨w0, w1'⟩, ⟨h0, h1⟩, hl⟩ := sqOk_edges hv
            obtain ⟨⟨x0, x1⟩, z0, z1⟩ := hpts p (by simp)
            obtain ⟨ny, hny⟩ : ∃ ny : Nat, years = (ny : Int) := ⟨years.toNat, (Int.toNat_of_nonneg y0).symm⟩
            subst hny
            have hgg := HGR.out hc
            subst hgg
            have qg := Lib.hid (sGrow_calls w h sl hl ⟨w1', h1⟩ p ⟨x0, x1⟩ ⟨z0, z1⟩ way (hway way (by simp)) ny (by omega) _ w13 K13.out)
            rw [show ((ny : Int)).toNat = ny from Int.toNat_natCast ny] at hE
            have hcb : (CC == 0) = true := by simpa using hc
            have hcb2 : (CC != 0) = false := by simpa using hc
            clear hc hc2 hv hpts hl hway hR
            unfold Cell.v at qg
            generalize growL sl ny [p] p way = us at *
            go_wp2_with fail
            refine qg.out.mono ?_
            rintro e w20 ⟨g20, c20, rfl, hO, hb20⟩
            have HO := Lib.hid (hO.more HB13.out.size)
            have HB20 := Lib.hid (ext_trans HB13.out hb20)
            clear hO hb20
            go_wp2_with fail
            go_ret2
            rw [hE.out]
            exact RetC2.mk rfl HO.out HB20.out
          · have hE := Lib.hid (hR.out.trans (if_neg (fun h0 => hc (hCC.out.trans h0))))
            have hcb : (CC == 0) = false := by simpa using hc
            have hcb2 : (CC != 0) = true := by simpa using hc
            clear hc hR
            go_wp2_with fail
            go_ret2
            rw [hE.out]
            exact RetC2.mk hCC.out (Own.empty (α := Cell) (c := Cell.c) (sz := 2) (E := 36) w13 W.heap.size _ (by simp) HB13.out.size) (ext_alloc HB13.out _)
      · go_simp
        (go_at_call 73; with_reducible refine (qy.out _).mono ?_; rintro e w6 ⟨rfl, rfl⟩)
        try go_wp2_with fail
        refine hK.out _ _ ?r28_74_hS (fun hHeld => ?r28_74_r)
        case r28_74_hS => (try dsimp only); first | assumption | exact GcS.keep hlt1 (by assumption) ((Below.refl _ _).drew) | exact GcS.keep hlt1 (by assumption) (by assumption) | exact GcS.keep hlt1 (by assumption) ((Below.refl _ _).alloc (Nat.le_refl _) _) | exact GcS.keepG hlt1 (by assumption) hG13 (by first | omega | (simp; done) | (have h9 := hb8.size; simp at h9 ⊢; omega))
        clear hK K
        try simp only [Act.put, List.setIfInBounds_toArray, List.set_cons_zero, List.set_cons_succ]
        refine wpAnyH_take (i := 7) (v := ?r28_75_vv) (by (simp only [List.getElem?_toArray, List.getElem?_cons_succ, List.getElem?_cons_zero]; rfl)) (by kernel_rfl) (by kernel_rfl) (by kernel_rfl) (by exact fun _ _ _ h => h) (Or.inl ⟨by rfl, ?r28_75_hy⟩) (by assumption) ?r28_75_rest
        case r28_75_hy => intro w hSw; (try dsimp only at hSw); (go_simp <;> (with_reducible rfl))
        try simp only [Act.put, List.setIfInBounds_toArray, List.set_cons_zero, List.set_cons_succ]
        refine wpAnyH_ready (rs := [1, 12]) (by kernel_rfl) (by simp) ?_
        refine (AllReadyH.cons (by (simp only [List.getElem?_toArray, List.getElem?_cons_succ, List.getElem?_cons_zero]; rfl)) (fun K hK => ?_) (AllReadyH.cons (by (simp only [List.getElem?_toArray, List.getElem?_cons_succ, List.getElem?_cons_zero]; rfl)) (fun K hK => ?_) AllReadyH.nil))
        · go_simp
          refine hK.out _ _ ?r28_76_hS (fun hHeld => ?r28_76_r)
          case r28_76_hS => (try dsimp only); first | assumption | exact GcS.keep hlt1 (by assumption) ((Below.refl _ _).drew) | exact GcS.keep hlt1 (by assumption) (by assumption) | exact GcS.keep hlt1 (by assumption) ((Below.refl _ _).alloc (Nat.le_refl _) _) | exact GcS.keepG hlt1 (by assumption) hG13 (by first | omega | (simp; done) | (have h9 := hb8.size; simp at h9 ⊢; omega))
          clear hK K
          try simp only [Act.put, List.setIfInBounds_toArray, List.set_cons_zero, List.set_cons_succ]
          refine wpAnyH_ready (rs := [8, 12]) (by kernel_rfl) (by simp) ?_
          refine (AllReadyH.cons (by (simp only [List.getElem?_toArray, List.getElem?_cons_succ, List.getElem?_cons_zero]; rfl)) (fun K hK => ?_) (AllReadyH.cons (by (simp only [List.getElem?_toArray, List.getElem?_cons_succ, List.getElem?_cons_zero]; rfl)) (fun K hK => ?_) AllReadyH.nil))
          · go_simp
            (go_at_call 58; refine (qt.out _ _ (by assumption) (by repeat (first | with_reducible exact sl1c _ p _ (by simp) _ | refine Sl.alloc ?_ _ | refine Sl.ext ?_ ((Below.refl _ _).drew)))).mono ?_; rintro e w8 ⟨g, rfl, hgl, hgr, hb8⟩)
            try go_wp2_with fail
            refine hK.out _ _ ?r28_77_hS (fun hHeld => ?r28_77_r)
            case r28_77_hS => (try dsimp only); first | assumption | exact GcS.keep hlt1 (by assumption) ((Below.refl _ _).drew) | exact GcS.keep hlt1 (by assumption) (by assumption) | exact GcS.keep hlt1 (by assumption) ((Below.refl _ _).alloc (Nat.le_refl _) _) | exact GcS.keepG hlt1 (by assumption) hG13 (by first | omega | (simp; done) | (have h9 := hb8.size; simp at h9 ⊢; omega))
            clear hK K
            try simp only [Act.put, List.setIfInBounds_toArray, List.set_cons_zero, List.set_cons_succ]
            refine wpAnyH_take (i := 9) (v := ?r28_78_vv) (by (simp only [List.getElem?_toArray, List.getElem?_cons_succ, List.getElem?_cons_zero]; rfl)) (by kernel_rfl) (by kernel_rfl) (by kernel_rfl) (by exact fun _ _ _ h => h) (Or.inl ⟨by rfl, ?r28_78_hy⟩) (by assumption) ?r28_78_rest
            case r28_78_hy => intro w hSw; (try dsimp only at hSw); (go_simp <;> (with_reducible rfl))
            try simp only [Act.put, List.setIfInBounds_toArray, List.set_cons_zero, List.set_cons_succ]
            refine wpAnyH_take (i := 10) (v := ?r28_79_vv) (by (simp only [List.getElem?_toArray, List.getElem?_cons_succ, List.getElem?_cons_zero]; rfl)) (by kernel_rfl) (by kernel_rfl) (by kernel_rfl) (by exact fun _ _ _ h => h) (Or.inl ⟨by rfl, ?r28_79_hy⟩) (by assumption) ?r28_79_rest
            case r28_79_hy => intro w hSw; (try dsimp only at hSw); (go_simp <;> (with_reducible rfl))
            try simp only [Act.put, List.setIfInBounds_toArray, List.set_cons_zero, List.set_cons_succ]
            refine wpAnyH_take (i := 11) (v := ?r28_80_vv) (by (simp only [List.getElem?_toArray, List.getElem?_cons_succ, List.getElem?_cons_zero]; rfl)) (by kernel_rfl) (by kernel_rfl) (by kernel_rfl) (by exact fun _ _ _ h => h) (Or.inl ⟨by rfl, ?r28_80_hy⟩) (by assumption) ?r28_80_rest
            case r28_80_hy => intro w hSw; (try dsimp only at hSw); (go_simp <;> (with_reducible rfl))
            try simp only [Act.put, List.setIfInBounds_toArray, List.set_cons_zero, List.set_cons_succ]
            refine wpAnyH_ready (rs := [12]) (by kernel_rfl) (by simp) ?_
            refine (AllReadyH.cons (by (simp only [List.getElem?_toArray, List.getElem?_cons_succ, List.getElem?_cons_zero]; rfl)) (fun K hK => ?_) AllReadyH.nil)
            go_simp
            refine hK.out _ _ ?r28_81_hS (fun hHeld => ?r28_81_r)
            case r28_81_hS => (try dsimp only); first | assumption | exact GcS.keep hlt1 (by assumption) ((Below.refl _ _).drew) | exact GcS.keep hlt1 (by assumption) (by assumption) | exact GcS.keep hlt1 (by assumption) ((Below.refl _ _).alloc (Nat.le_refl _) _) | exact GcS.keepG hlt1 (by assumption) hG13 (by first | omega | (simp; done) | (have h9 := hb8.size; simp at h9 ⊢; omega))
            clear hK K
            try simp only [Act.put, List.setIfInBounds_toArray, List.set_cons_zero, List.set_cons_succ]
            refine wpAnyH_ready (rs := [13]) (by kernel_rfl) (by simp) ?_
            refine (AllReadyH.cons (by (simp only [List.getElem?_toArray, List.getElem?_cons_succ, List.getElem?_cons_zero]; rfl)) (fun K hK => ?_) AllReadyH.nil)
            (refine step_store_bk rfl 85 (.tmp 10) (.tmp 22) rfl _ (gcells g) rfl rfl 85 Try.zeroCells85 (by repeat (first | exact Bk.new _ 85 Try.zeroCells85 _ (by simp) | refine Bk.ext ?_ hb8 | refine Bk.alloc ?_ _ | refine Bk.ext ?_ ((Below.refl _ _).drew))) (by rw [zsize, gcells_size, hgl]) (ginfo _ hgl) (gcells_one _) ?_; intro w13 k13 G13; have hG13 := G13)
            refine hK.out _ _ ?r28_82_hS (fun hHeld => ?r28_82_r)
            case r28_82_hS => (try dsimp only); first | assumption | exact GcS.keep hlt1 (by assumption) ((Below.refl _ _).drew) | exact GcS.keep hlt1 (by assumption) (by assumption) | exact GcS.keep hlt1 (by assumption) ((Below.refl _ _).alloc (Nat.le_refl _) _) | exact GcS.keepG hlt1 (by assumption) hG13 (by first | omega | (simp; done) | (have h9 := hb8.size; simp at h9 ⊢; omega))
            clear hK K
            try simp only [Act.put, List.setIfInBounds_toArray, List.set_cons_zero, List.set_cons_succ]
            refine wpAnyH_take (i := 14) (v := ?r28_83_vv) (by (simp only [List.getElem?_toArray, List.getElem?_cons_succ, List.getElem?_cons_zero]; rfl)) (by kernel_rfl) (by kernel_rfl) (by kernel_rfl) (by exact fun _ _ _ h => h) (Or.inl ⟨by rfl, ?r28_83_hy⟩) (by assumption) ?r28_83_rest
            case r28_83_hy => intro w hSw; (try dsimp only at hSw); (go_simp <;> (with_reducible rfl))
            try simp only [Act.put, List.setIfInBounds_toArray, List.set_cons_zero, List.set_cons_succ]
            refine wpAnyH_done (by kernel_rfl) ?_ _
            have hS13 : GcS W1 (W.heap.size + 1) p w13 := by assumption
            obtain ⟨hB13, p0', p1'⟩ := hS13
            have HB13 := Lib.hid (show Below W.heap.size W w13 from HB.out.trans (hB13.mono HB.out.size))
            have K13 := Lib.hid k13
            have HGR := Lib.hid hgr
            clear hB13
            clear k13
            clear hgr
            clear hb8
            repeat clear hHeld
            by_cases hc : CC = 0
            · have hE := Lib.hid (hR.out.trans (if_pos (hCC.out.symm.trans hc)))
              obtain ⟨hc2, ⟨y0, y1⟩, hway⟩ := growC_ok (hCC.out.symm.trans hc)
              obtain ⟨hv, hpts⟩ := cornC_ok hc2
              obtain ⟨⟨w0, w1'⟩, ⟨h0, h1⟩, hl⟩ := sqOk_edges hv
              obtain ⟨⟨x0, x1⟩, z0, z1⟩ := hpts p (by simp)
              obtain ⟨ny, hny⟩ : ∃ ny : Nat, years = (ny : Int) := ⟨years.toNat, (Int.toNat_of_nonneg y0).symm⟩
              subst hny
              have hgg := HGR.out hc
              subst hgg
              have qg := Lib.hid (sGrow_calls w h sl hl ⟨w1', h1⟩ p ⟨x0, x1⟩ ⟨z0, z1⟩ way (hway way (by simp)) ny (by omega) _ w13 K13.out)
              rw [show ((ny : Int)).toNat = ny from Int.toNat_natCast ny] at hE
              have hcb : (CC == 0) = true := by simpa using hc
              have hcb2 : (CC != 0) = false := by simpa using hc
              clear hc hc2 hv hpts hl hway hR
              unfold Cell.v at qg
              generalize growL sl ny [p] p way = us at *
              go_wp2_with fail
              refine qg.out.mono ?_
              rintro e w20 ⟨g20, c20, rfl, hO, hb20⟩
              have HO := Lib.hid (hO.more HB13.out.size)
              have HB20 := Lib.hid (ext_trans HB13.out hb20)
              clear hO hb20
              go_wp2_with fail
              go_ret2
              rw [hE.out]
              exact RetC2.mk rfl HO.out HB20.out
            · have hE := Lib.hid (hR.out.trans (if_neg (fun h0 => hc (hCC.out.trans h0))))
              have hcb : (CC == 0) = false := by simpa using hc
              have hcb2 : (CC != 0) = true := by simpa using hc
              clear hc hR
              go_wp2_with fail
              go_ret2
              rw [hE.out]
              exact RetC2.mk hCC.out (Own.empty (α := Cell) (c := Cell.c) (sz := 2) (E := 36) w13 W.heap.size _ (by simp) HB13.out.size) (ext_alloc HB13.out _)
          · go_simp
            refine hK.out _ _ ?r28_84_hS (fun hHeld => ?r28_84_r)
            case r28_84_hS => (try dsimp only); first | assumption | exact GcS.keep hlt1 (by assumption) ((Below.refl _ _).drew) | exact GcS.keep hlt1 (by assumption) (by assumption) | exact GcS.keep hlt1 (by assumption) ((Below.refl _ _).alloc (Nat.le_refl _) _) | exact GcS.keepG hlt1 (by assumption) hG13 (by first | omega | (simp; done) | (have h9 := hb8.size; simp at h9 ⊢; omega))
            clear hK K
            try simp only [Act.put, List.setIfInBounds_toArray, List.set_cons_zero, List.set_cons_succ]
            refine wpAnyH_ready (rs := [8]) (by kernel_rfl) (by simp) ?_
            refine (AllReadyH.cons (by (simp only [List.getElem?_toArray, List.getElem?_cons_succ, List.getElem?_cons_zero]; rfl)) (fun K hK => ?_) AllReadyH.nil)
            go_simp
            (go_at_call 58; refine (qt.out _ _ (by assumption) (by repeat (first | with_reducible exact sl1c _ p _ (by simp) _ | refine Sl.alloc ?_ _ | refine Sl.ext ?_ ((Below.refl _ _).drew)))).mono ?_; rintro e w8 ⟨g, rfl, hgl, hgr, hb8⟩)
            try go_wp2_with fail
            refine hK.out _ _ ?r28_85_hS (fun hHeld => ?r28_85_r)
            case r28_85_hS => (try dsimp only); first | assumption | exact GcS.keep hlt1 (by assumption) ((Below.refl _ _).drew) | exact GcS.keep hlt1 (by assumption) (by assumption) | exact GcS.keep hlt1 (by assumption) ((Below.refl _ _).alloc (Nat.le_refl _) _) | exact GcS.keepG hlt1 (by assumption) hG13 (by first | omega | (simp; done) | (have h9 := hb8.size; simp at h9 ⊢; omega))
            clear hK K
            try simp only [Act.put, List.setIfInBounds_toArray, List.set_cons_zero, List.set_cons_succ]
            refine wpAnyH_take (i := 9) (v := ?r28_86_vv) (by (simp only [List.getElem?_toArray, List.getElem?_cons_succ, List.getElem?_cons_zero]; rfl)) (by kernel_rfl) (by kernel_rfl) (by kernel_rfl) (by exact fun _ _ _ h => h) (Or.inl ⟨by rfl, ?r28_86_hy⟩) (by assumption) ?r28_86_rest
            case r28_86_hy => intro w hSw; (try dsimp only at hSw); (go_simp <;> (with_reducible rfl))
            try simp only [Act.put, List.setIfInBounds_toArray, List.set_cons_zero, List.set_cons_succ]
            refine wpAnyH_take (i := 10) (v := ?r28_87_vv) (by (simp only [List.getElem?_toArray, List.getElem?_cons_succ, List.getElem?_cons_zero]; rfl)) (by kernel_rfl) (by kernel_rfl) (by kernel_rfl) (by exact fun _ _ _ h => h) (Or.inl ⟨by rfl, ?r28_87_hy⟩) (by assumption) ?r28_87_rest
            case r28_87_hy => intro w hSw; (try dsimp only at hSw); (go_simp <;> (with_reducible rfl))
            try simp only [Act.put, List.setIfInBounds_toArray, List.set_cons_zero, List.set_cons_succ]
            refine wpAnyH_take (i := 11) (v := ?r28_88_vv) (by (simp only [List.getElem?_toArray, List.getElem?_cons_succ, List.getElem?_cons_zero]; rfl)) (by kernel_rfl) (by kernel_rfl) (by kernel_rfl) (by exact fun _ _ _ h => h) (Or.inl ⟨by rfl, ?r28_88_hy⟩) (by assumption) ?r28_88_rest
            case r28_88_hy => intro w hSw; (try dsimp only at hSw); (go_simp <;> (with_reducible rfl))
            try simp only [Act.put, List.setIfInBounds_toArray, List.set_cons_zero, List.set_cons_succ]
            refine wpAnyH_ready (rs := [13]) (by kernel_rfl) (by simp) ?_
            refine (AllReadyH.cons (by (simp only [List.getElem?_toArray, List.getElem?_cons_succ, List.getElem?_cons_zero]; rfl)) (fun K hK => ?_) AllReadyH.nil)
            (refine step_store_bk rfl 85 (.tmp 10) (.tmp 22) rfl _ (gcells g) rfl rfl 85 Try.zeroCells85 (by repeat (first | exact Bk.new _ 85 Try.zeroCells85 _ (by simp) | refine Bk.ext ?_ hb8 | refine Bk.alloc ?_ _ | refine Bk.ext ?_ ((Below.refl _ _).drew))) (by rw [zsize, gcells_size, hgl]) (ginfo _ hgl) (gcells_one _) ?_; intro w13 k13 G13; have hG13 := G13)
            refine hK.out _ _ ?r28_89_hS (fun hHeld => ?r28_89_r)
            case r28_89_hS => (try dsimp only); first | assumption | exact GcS.keep hlt1 (by assumption) ((Below.refl _ _).drew) | exact GcS.keep hlt1 (by assumption) (by assumption) | exact GcS.keep hlt1 (by assumption) ((Below.refl _ _).alloc (Nat.le_refl _) _) | exact GcS.keepG hlt1 (by assumption) hG13 (by first | omega | (simp; done) | (have h9 := hb8.size; simp at h9 ⊢; omega))
            clear hK K
            try simp only [Act.put, List.setIfInBounds_toArray, List.set_cons_zero, List.set_cons_succ]
            refine wpAnyH_take (i := 14) (v := ?r28_90_vv) (by (simp only [List.getElem?_toArray, List.getElem?_cons_succ, List.getElem?_cons_zero]; rfl)) (by kernel_rfl) (by kernel_rfl) (by kernel_rfl) (by exact fun _ _ _ h => h) (Or.inl ⟨by rfl, ?r28_90_hy⟩) (by assumption) ?r28_90_rest
            case r28_90_hy => intro w hSw; (try dsimp only at hSw); (go_simp <;> (with_reducible rfl))
            try simp only [Act.put, List.setIfInBounds_toArray, List.set_cons_zero, List.set_cons_succ]
            refine wpAnyH_done (by kernel_rfl) ?_ _
            have hS13 : GcS W1 (W.heap.size + 1) p w13 := by assumption
            obtain ⟨hB13, p0', p1'⟩ := hS13
            have HB13 := Lib.hid (show Below W.heap.size W w13 from HB.out.trans (hB13.mono HB.out.size))
            have K13 := Lib.hid k13
            have HGR := Lib.hid hgr
            clear hB13
            clear k13
            clear hgr
            clear hb8
            repeat clear hHeld
            by_cases hc : CC = 0
            · have hE := Lib.hid (hR.out.trans (if_pos (hCC.out.symm.trans hc)))
              obtain ⟨hc2, ⟨y0, y1⟩, hway⟩ := growC_ok (hCC.out.symm.trans hc)
              obtain ⟨hv, hpts⟩ := cornC_ok hc2
              obtain ⟨⟨w0, w1'⟩, ⟨h0, h1⟩, hl⟩ := sqOk_edges hv
              obtain ⟨⟨x0, x1⟩, z0, z1⟩ := hpts p (by simp)
              obtain ⟨ny, hny⟩ : ∃ ny : Nat, years = (ny : Int) := ⟨years.toNat, (Int.toNat_of_nonneg y0).symm⟩
              subst hny
              have hgg := HGR.out hc
              subst hgg
              have qg := Lib.hid (sGrow_calls w h sl hl ⟨w1', h1⟩ p ⟨x0, x1⟩ ⟨z0, z1⟩ way (hway way (by simp)) ny (by omega) _ w13 K13.out)
              rw [show ((ny : Int)).toNat = ny from Int.toNat_natCast ny] at hE
              have hcb : (CC == 0) = true := by simpa using hc
              have hcb2 : (CC != 0) = false := by simpa using hc
              clear hc hc2 hv hpts hl hway hR
              unfold Cell.v at qg
              generalize growL sl ny [p] p way = us at *
              go_wp2_with fail
              refine qg.out.mono ?_
              rintro e w20 ⟨g20, c20, rfl, hO, hb20⟩
              have HO := Lib.hid (hO.more HB13.out.size)
              have HB20 := Lib.hid (ext_trans HB13.out hb20)
              clear hO hb20
              go_wp2_with fail
              go_ret2
              rw [hE.out]
              exact RetC2.mk rfl HO.out HB20.out
            · have hE := Lib.hid (hR.out.trans (if_neg (fun h0 => hc (hCC.out.trans h0))))
              have hcb : (CC == 0) = false := by simpa using hc
              have hcb2 : (CC != 0) = true := by simpa using hc
              clear hc hR
              go_wp2_with fail
              go_ret2
              rw [hE.out]
              exact RetC2.mk hCC.out (Own.empty (α := Cell) (c := Cell.c) (sz := 2) (E := 36) w13 W.heap.size _ (by simp) HB13.out.size) (ext_alloc HB13.out _)
        · go_simp
          refine hK.out _ _ ?r28_91_hS (fun hHeld => ?r28_91_r)
          case r28_91_hS => (try dsimp only); first | assumption | exact GcS.keep hlt1 (by assumption) ((Below.refl _ _).drew) | exact GcS.keep hlt1 (by assumption) (by assumption) | exact GcS.keep hlt1 (by assumption) ((Below.refl _ _).alloc (Nat.le_refl _) _) | exact GcS.keepG hlt1 (by assumption) hG13 (by first | omega | (simp; done) | (have h9 := hb8.size; simp at h9 ⊢; omega))
          clear hK K
          try simp only [Act.put, List.setIfInBounds_toArray, List.set_cons_zero, List.set_cons_succ]
          refine wpAnyH_ready (rs := [1]) (by kernel_rfl) (by simp) ?_
          refine (AllReadyH.cons (by (simp only [List.getElem?_toArray, List.getElem?_cons_succ, List.getElem?_cons_zero]; rfl)) (fun K hK => ?_) AllReadyH.nil)
          go_simp
          refine hK.out _ _ ?r28_92_hS (fun hHeld => ?r28_92_r)
          case r28_92_hS => (try dsimp only); first | assumption | exact GcS.keep hlt1 (by assumption) ((Below.refl _ _).drew) | exact GcS.keep hlt1 (by assumption) (by assumption) | exact GcS.keep hlt1 (by assumption) ((Below.refl _ _).alloc (Nat.le_refl _) _) | exact GcS.keepG hlt1 (by assumption) hG13 (by first | omega | (simp; done) | (have h9 := hb8.size; simp at h9 ⊢; omega))
          clear hK K
          try simp only [Act.put, List.setIfInBounds_toArray, List.set_cons_zero, List.set_cons_succ]
          refine wpAnyH_ready (rs := [8]) (by kernel_rfl) (by simp) ?_
          refine (AllReadyH.cons (by (simp only [List.getElem?_toArray, List.getElem?_cons_succ, List.getElem?_cons_zero]; rfl)) (fun K hK => ?_) AllReadyH.nil)
          go_simp
          (go_at_call 58; refine (qt.out _ _ (by assumption) (by repeat (first | with_reducible exact sl1c _ p _ (by simp) _ | refine Sl.alloc ?_ _ | refine Sl.ext ?_ ((Below.refl _ _).drew)))).mono ?_; rintro e w8 ⟨g, rfl, hgl, hgr, hb8⟩)
          try go_wp2_with fail
          refine hK.out _ _ ?r28_93_hS (fun hHeld => ?r28_93_r)
          case r28_93_hS => (try dsimp only); first | assumption | exact GcS.keep hlt1 (by assumption) ((Below.refl _ _).drew) | exact GcS.keep hlt1 (by assumption) (by assumption) | exact GcS.keep hlt1 (by assumption) ((Below.refl _ _).alloc (Nat.le_refl _) _) | exact GcS.keepG hlt1 (by assumption) hG13 (by first | omega | (simp; done) | (have h9 := hb8.size; simp at h9 ⊢; omega))
          clear hK K
          try simp only [Act.put, List.setIfInBounds_toArray, List.set_cons_zero, List.set_cons_succ]
          refine wpAnyH_take (i := 9) (v := ?r28_94_vv) (by (simp only [List.getElem?_toArray, List.getElem?_cons_succ, List.getElem?_cons_zero]; rfl)) (by kernel_rfl) (by kernel_rfl) (by kernel_rfl) (by exact fun _ _ _ h => h) (Or.inl ⟨by rfl, ?r28_94_hy⟩) (by assumption) ?r28_94_rest
          case r28_94_hy => intro w hSw; (try dsimp only at hSw); (go_simp <;> (with_reducible rfl))
          try simp only [Act.put, List.setIfInBounds_toArray, List.set_cons_zero, List.set_cons_succ]
          refine wpAnyH_take (i := 10) (v := ?r28_95_vv) (by (simp only [List.getElem?_toArray, List.getElem?_cons_succ, List.getElem?_cons_zero]; rfl)) (by kernel_rfl) (by kernel_rfl) (by kernel_rfl) (by exact fun _ _ _ h => h) (Or.inl ⟨by rfl, ?r28_95_hy⟩) (by assumption) ?r28_95_rest
          case r28_95_hy => intro w hSw; (try dsimp only at hSw); (go_simp <;> (with_reducible rfl))
          try simp only [Act.put, List.setIfInBounds_toArray, List.set_cons_zero, List.set_cons_succ]
          refine wpAnyH_take (i := 11) (v := ?r28_96_vv) (by (simp only [List.getElem?_toArray, List.getElem?_cons_succ, List.getElem?_cons_zero]; rfl)) (by kernel_rfl) (by kernel_rfl) (by kernel_rfl) (by exact fun _ _ _ h => h) (Or.inl ⟨by rfl, ?r28_96_hy⟩) (by assumption) ?r28_96_rest
          case r28_96_hy => intro w hSw; (try dsimp only at hSw); (go_simp <;> (with_reducible rfl))
          try simp only [Act.put, List.setIfInBounds_toArray, List.set_cons_zero, List.set_cons_succ]
          refine wpAnyH_ready (rs := [13]) (by kernel_rfl) (by simp) ?_
          refine (AllReadyH.cons (by (simp only [List.getElem?_toArray, List.getElem?_cons_succ, List.getElem?_cons_zero]; rfl)) (fun K hK => ?_) AllReadyH.nil)
          (refine step_store_bk rfl 85 (.tmp 10) (.tmp 22) rfl _ (gcells g) rfl rfl 85 Try.zeroCells85 (by repeat (first | exact Bk.new _ 85 Try.zeroCells85 _ (by simp) | refine Bk.ext ?_ hb8 | refine Bk.alloc ?_ _ | refine Bk.ext ?_ ((Below.refl _ _).drew))) (by rw [zsize, gcells_size, hgl]) (ginfo _ hgl) (gcells_one _) ?_; intro w13 k13 G13; have hG13 := G13)
          refine hK.out _ _ ?r28_97_hS (fun hHeld => ?r28_97_r)
          case r28_97_hS => (try dsimp only); first | assumption | exact GcS.keep hlt1 (by assumption) ((Below.refl _ _).drew) | exact GcS.keep hlt1 (by assumption) (by assumption) | exact GcS.keep hlt1 (by assumption) ((Below.refl _ _).alloc (Nat.le_refl _) _) | exact GcS.keepG hlt1 (by assumption) hG13 (by first | omega | (simp; done) | (have h9 := hb8.size; simp at h9 ⊢; omega))
          clear hK K
          try simp only [Act.put, List.setIfInBounds_toArray, List.set_cons_zero, List.set_cons_succ]
          refine wpAnyH_take (i := 14) (v := ?r28_98_vv) (by (simp only [List.getElem?_toArray, List.getElem?_cons_succ, List.getElem?_cons_zero]; rfl)) (by kernel_rfl) (by kernel_rfl) (by kernel_rfl) (by exact fun _ _ _ h => h) (Or.inl ⟨by rfl, ?r28_98_hy⟩) (by assumption) ?r28_98_rest
          case r28_98_hy => intro w hSw; (try dsimp only at hSw); (go_simp <;> (with_reducible rfl))
          try simp only [Act.put, List.setIfInBounds_toArray, List.set_cons_zero, List.set_cons_succ]
          refine wpAnyH_done (by kernel_rfl) ?_ _
          have hS13 : GcS W1 (W.heap.size + 1) p w13 := by assumption
          obtain ⟨hB13, p0', p1'⟩ := hS13
          have HB13 := Lib.hid (show Below W.heap.size W w13 from HB.out.trans (hB13.mono HB.out.size))
          have K13 := Lib.hid k13
          have HGR := Lib.hid hgr
          clear hB13
          clear k13
          clear hgr
          clear hb8
          repeat clear hHeld
          by_cases hc : CC = 0
          · have hE := Lib.hid (hR.out.trans (if_pos (hCC.out.symm.trans hc)))
            obtain ⟨hc2, ⟨y0, y1⟩, hway⟩ := growC_ok (hCC.out.symm.trans hc)
            obtain ⟨hv, hpts⟩ := cornC_ok hc2
            obtain ⟨⟨w0, w1'⟩, ⟨h0, h1⟩, hl⟩ := sqOk_edges hv
            obtain ⟨⟨x0, x1⟩, z0, z1⟩ := hpts p (by simp)
            obtain ⟨ny, hny⟩ : ∃ ny : Nat, years = (ny : Int) := ⟨years.toNat, (Int.toNat_of_nonneg y0).symm⟩
            subst hny
            have hgg := HGR.out hc
            subst hgg
            have qg := Lib.hid (sGrow_calls w h sl hl ⟨w1', h1⟩ p ⟨x0, x1⟩ ⟨z0, z1⟩ way (hway way (by simp)) ny (by omega) _ w13 K13.out)
            rw [show ((ny : Int)).toNat = ny from Int.toNat_natCast ny] at hE
            have hcb : (CC == 0) = true := by simpa using hc
            have hcb2 : (CC != 0) = false := by simpa using hc
            clear hc hc2 hv hpts hl hway hR
            unfold Cell.v at qg
            generalize growL sl ny [p] p way = us at *
            go_wp2_with fail
            refine qg.out.mono ?_
            rintro e w20 ⟨g20, c20, rfl, hO, hb20⟩
            have HO := Lib.hid (hO.more HB13.out.size)
            have HB20 := Lib.hid (ext_trans HB13.out hb20)
            clear hO hb20
            go_wp2_with fail
            go_ret2
            rw [hE.out]
            exact RetC2.mk rfl HO.out HB20.out
          · have hE := Lib.hid (hR.out.trans (if_neg (fun h0 => hc (hCC.out.trans h0))))
            have hcb : (CC == 0) = false := by simpa using hc
            have hcb2 : (CC != 0) = true := by simpa using hc
            clear hc hR
            go_wp2_with fail
            go_ret2
            rw [hE.out]
            exact RetC2.mk hCC.out (Own.empty (α := Cell) (c := Cell.c) (sz := 2) (E := 36) w13 W.heap.size _ (by simp) HB13.out.size) (ext_alloc HB13.out _)
      · go_simp
        refine hK.out _ _ ?r28_99_hS (fun hHeld => ?r28_99_r)
        case r28_99_hS => (try dsimp only); first | assumption | exact GcS.keep hlt1 (by assumption) ((Below.refl _ _).drew) | exact GcS.keep hlt1 (by assumption) (by assumption) | exact GcS.keep hlt1 (by assumption) ((Below.refl _ _).alloc (Nat.le_refl _) _) | exact GcS.keepG hlt1 (by assumption) hG13 (by first | omega | (simp; done) | (have h9 := hb8.size; simp at h9 ⊢; omega))
        clear hK K
        try simp only [Act.put, List.setIfInBounds_toArray, List.set_cons_zero, List.set_cons_succ]
        refine wpAnyH_ready (rs := [1, 6]) (by kernel_rfl) (by simp) ?_
        refine (AllReadyH.cons (by (simp only [List.getElem?_toArray, List.getElem?_cons_succ, List.getElem?_cons_zero]; rfl)) (fun K hK => ?_) (AllReadyH.cons (by (simp only [List.getElem?_toArray, List.getElem?_cons_succ, List.getElem?_cons_zero]; rfl)) (fun K hK => ?_) AllReadyH.nil))
        · go_simp
          refine hK.out _ _ ?r28_100_hS (fun hHeld => ?r28_100_r)
          case r28_100_hS => (try dsimp only); first | assumption | exact GcS.keep hlt1 (by assumption) ((Below.refl _ _).drew) | exact GcS.keep hlt1 (by assumption) (by assumption) | exact GcS.keep hlt1 (by assumption) ((Below.refl _ _).alloc (Nat.le_refl _) _) | exact GcS.keepG hlt1 (by assumption) hG13 (by first | omega | (simp; done) | (have h9 := hb8.size; simp at h9 ⊢; omega))
          clear hK K
          try simp only [Act.put, List.setIfInBounds_toArray, List.set_cons_zero, List.set_cons_succ]
          refine wpAnyH_ready (rs := [6]) (by kernel_rfl) (by simp) ?_
          refine (AllReadyH.cons (by (simp only [List.getElem?_toArray, List.getElem?_cons_succ, List.getElem?_cons_zero]; rfl)) (fun K hK => ?_) AllReadyH.nil)
          go_simp
          (go_at_call 73; with_reducible refine (qy.out _).mono ?_; rintro e w6 ⟨rfl, rfl⟩)
          try go_wp2_with fail
          refine hK.out _ _ ?r28_101_hS (fun hHeld => ?r28_101_r)
          case r28_101_hS => (try dsimp only); first | assumption | exact GcS.keep hlt1 (by assumption) ((Below.refl _ _).drew) | exact GcS.keep hlt1 (by assumption) (by assumption) | exact GcS.keep hlt1 (by assumption) ((Below.refl _ _).alloc (Nat.le_refl _) _) | exact GcS.keepG hlt1 (by assumption) hG13 (by first | omega | (simp; done) | (have h9 := hb8.size; simp at h9 ⊢; omega))
          clear hK K
          try simp only [Act.put, List.setIfInBounds_toArray, List.set_cons_zero, List.set_cons_succ]
          refine wpAnyH_take (i := 7) (v := ?r28_102_vv) (by (simp only [List.getElem?_toArray, List.getElem?_cons_succ, List.getElem?_cons_zero]; rfl)) (by kernel_rfl) (by kernel_rfl) (by kernel_rfl) (by exact fun _ _ _ h => h) (Or.inl ⟨by rfl, ?r28_102_hy⟩) (by assumption) ?r28_102_rest
          case r28_102_hy => intro w hSw; (try dsimp only at hSw); (go_simp <;> (with_reducible rfl))
          try simp only [Act.put, List.setIfInBounds_toArray, List.set_cons_zero, List.set_cons_succ]
          refine wpAnyH_ready (rs := [8]) (by kernel_rfl) (by simp) ?_
          refine (AllReadyH.cons (by (simp only [List.getElem?_toArray, List.getElem?_cons_succ, List.getElem?_cons_zero]; rfl)) (fun K hK => ?_) AllReadyH.nil)
          go_simp
          (go_at_call 58; refine (qt.out _ _ (by assumption) (by repeat (first | with_reducible exact sl1c _ p _ (by simp) _ | refine Sl.alloc ?_ _ | refine Sl.ext ?_ ((Below.refl _ _).drew)))).mono ?_; rintro e w8 ⟨g, rfl, hgl, hgr, hb8⟩)
          try go_wp2_with fail
          refine hK.out _ _ ?r28_103_hS (fun hHeld => ?r28_103_r)
          case r28_103_hS => (try dsimp only); first | assumption | exact GcS.keep hlt1 (by assumption) ((Below.refl _ _).drew) | exact GcS.keep hlt1 (by assumption) (by assumption) | exact GcS.keep hlt1 (by assumption) ((Below.refl _ _).alloc (Nat.le_refl _) _) | exact GcS.keepG hlt1 (by assumption) hG13 (by first | omega | (simp; done) | (have h9 := hb8.size; simp at h9 ⊢; omega))
          clear hK K
          try simp only [Act.put, List.setIfInBounds_toArray, List.set_cons_zero, List.set_cons_succ]
          refine wpAnyH_take (i := 9) (v := ?r28_104_vv) (by (simp only [List.getElem?_toArray, List.getElem?_cons_succ, List.getElem?_cons_zero]; rfl)) (by kernel_rfl) (by kernel_rfl) (by kernel_rfl) (by exact fun _ _ _ h => h) (Or.inl ⟨by rfl, ?r28_104_hy⟩) (by assumption) ?r28_104_rest
          case r28_104_hy => intro w hSw; (try dsimp only at hSw); (go_simp <;> (with_reducible rfl))
          try simp only [Act.put, List.setIfInBounds_toArray, List.set_cons_zero, List.set_cons_succ]
          refine wpAnyH_take (i := 10) (v := ?r28_105_vv) (by (simp only [List.getElem?_toArray, List.getElem?_cons_succ, List.getElem?_cons_zero]; rfl)) (by kernel_rfl) (by kernel_rfl) (by kernel_rfl) (by exact fun _ _ _ h => h) (Or.inl ⟨by rfl, ?r28_105_hy⟩) (by assumption) ?r28_105_rest
          case r28_105_hy => intro w hSw; (try dsimp only at hSw); (go_simp <;> (with_reducible rfl))
          try simp only [Act.put, List.setIfInBounds_toArray, List.set_cons_zero, List.set_cons_succ]
          refine wpAnyH_take (i := 11) (v := ?r28_106_vv) (by (simp only [List.getElem?_toArray, List.getElem?_cons_succ, List.getElem?_cons_zero]; rfl)) (by kernel_rfl) (by kernel_rfl) (by kernel_rfl) (by exact fun _ _ _ h => h) (Or.inl ⟨by rfl, ?r28_106_hy⟩) (by assumption) ?r28_106_rest
          case r28_106_hy => intro w hSw; (try dsimp only at hSw); (go_simp <;> (with_reducible rfl))
          try simp only [Act.put, List.setIfInBounds_toArray, List.set_cons_zero, List.set_cons_succ]
          refine wpAnyH_ready (rs := [13]) (by kernel_rfl) (by simp) ?_
          refine (AllReadyH.cons (by (simp only [List.getElem?_toArray, List.getElem?_cons_succ, List.getElem?_cons_zero]; rfl)) (fun K hK => ?_) AllReadyH.nil)
          (refine step_store_bk rfl 85 (.tmp 10) (.tmp 22) rfl _ (gcells g) rfl rfl 85 Try.zeroCells85 (by repeat (first | exact Bk.new _ 85 Try.zeroCells85 _ (by simp) | refine Bk.ext ?_ hb8 | refine Bk.alloc ?_ _ | refine Bk.ext ?_ ((Below.refl _ _).drew))) (by rw [zsize, gcells_size, hgl]) (ginfo _ hgl) (gcells_one _) ?_; intro w13 k13 G13; have hG13 := G13)
          refine hK.out _ _ ?r28_107_hS (fun hHeld => ?r28_107_r)
          case r28_107_hS => (try dsimp only); first | assumption | exact GcS.keep hlt1 (by assumption) ((Below.refl _ _).drew) | exact GcS.keep hlt1 (by assumption) (by assumption) | exact GcS.keep hlt1 (by assumption) ((Below.refl _ _).alloc (Nat.le_refl _) _) | exact GcS.keepG hlt1 (by assumption) hG13 (by first | omega | (simp; done) | (have h9 := hb8.size; simp at h9 ⊢; omega))
          clear hK K
          try simp only [Act.put, List.setIfInBounds_toArray, List.set_cons_zero, List.set_cons_succ]
          refine wpAnyH_take (i := 14) (v := ?r28_108_vv) (by (simp only [List.getElem?_toArray, List.getElem?_cons_succ, List.getElem?_cons_zero]; rfl)) (by kernel_rfl) (by kernel_rfl) (by kernel_rfl) (by exact fun _ _ _ h => h) (Or.inl ⟨by rfl, ?r28_108_hy⟩) (by assumption) ?r28_108_rest
          case r28_108_hy => intro w hSw; (try dsimp only at hSw); (go_simp <;> (with_reducible rfl))
          try simp only [Act.put, List.setIfInBounds_toArray, List.set_cons_zero, List.set_cons_succ]
          refine wpAnyH_done (by kernel_rfl) ?_ _
          have hS13 : GcS W1 (W.heap.size + 1) p w13 := by assumption
          obtain ⟨hB13, p0', p1'⟩ := hS13
          have HB13 := Lib.hid (show Below W.heap.size W w13 from HB.out.trans (hB13.mono HB.out.size))
          have K13 := Lib.hid k13
          have HGR := Lib.hid hgr
          clear hB13
          clear k13
          clear hgr
          clear hb8
          repeat clear hHeld
          by_cases hc : CC = 0
          · have hE := Lib.hid (hR.out.trans (if_pos (hCC.out.symm.trans hc)))
            obtain ⟨hc2, ⟨y0, y1⟩, hway⟩ := growC_ok (hCC.out.symm.trans hc)
            obtain ⟨hv, hpts⟩ := cornC_ok hc2
            obtain ⟨⟨w0, w1'⟩, ⟨h0, h1⟩, hl⟩ := sqOk_edges hv
            obtain ⟨⟨x0, x1⟩, z0, z1⟩ := hpts p (by simp)
            obtain ⟨ny, hny⟩ : ∃ ny : Nat, years = (ny : Int) := ⟨years.toNat, (Int.toNat_of_nonneg y0).symm⟩
            subst hny
            have hgg := HGR.out hc
            subst hgg
            have qg := Lib.hid (sGrow_calls w h sl hl ⟨w1', h1⟩ p ⟨x0, x1⟩ ⟨z0, z1⟩ way (hway way (by simp)) ny (by omega) _ w13 K13.out)
            rw [show ((ny : Int)).toNat = ny from Int.toNat_natCast ny] at hE
            have hcb : (CC == 0) = true := by simpa using hc
            have hcb2 : (CC != 0) = false := by simpa using hc
            clear hc hc2 hv hpts hl hway hR
            unfold Cell.v at qg
            generalize growL sl ny [p] p way = us at *
            go_wp2_with fail
            refine qg.out.mono ?_
            rintro e w20 ⟨g20, c20, rfl, hO, hb20⟩
            have HO := Lib.hid (hO.more HB13.out.size)
            have HB20 := Lib.hid (ext_trans HB13.out hb20)
            clear hO hb20
            go_wp2_with fail
            go_ret2
            rw [hE.out]
            exact RetC2.mk rfl HO.out HB20.out
          · have hE := Lib.hid (hR.out.trans (if_neg (fun h0 => hc (hCC.out.trans h0))))
            have hcb : (CC == 0) = false := by simpa using hc
            have hcb2 : (CC != 0) = true := by simpa using hc
            clear hc hR
            go_wp2_with fail
            go_ret2
            rw [hE.out]
            exact RetC2.mk hCC.out (Own.empty (α := Cell) (c := Cell.c) (sz := 2) (E := 36) w13 W.heap.size _ (by simp) HB13.out.size) (ext_alloc HB13.out _)
        · go_simp
          (go_at_call 73; with_reducible refine (qy.out _).mono ?_; rintro e w6 ⟨rfl, rfl⟩)
          try go_wp2_with fail
          refine hK.out _ _ ?r28_109_hS (fun hHeld => ?r28_109_r)
          case r28_109_hS => (try dsimp only); first | assumption | exact GcS.keep hlt1 (by assumption) ((Below.refl _ _).drew) | exact GcS.keep hlt1 (by assumption) (by assumption) | exact GcS.keep hlt1 (by assumption) ((Below.refl _ _).alloc (Nat.le_refl _) _) | exact GcS.keepG hlt1 (by assumption) hG13 (by first | omega | (simp; done) | (have h9 := hb8.size; simp at h9 ⊢; omega))
          clear hK K
          try simp only [Act.put, List.setIfInBounds_toArray, List.set_cons_zero, List.set_cons_succ]
          refine wpAnyH_take (i := 7) (v := ?r28_110_vv) (by (simp only [List.getElem?_toArray, List.getElem?_cons_succ, List.getElem?_cons_zero]; rfl)) (by kernel_rfl) (by kernel_rfl) (by kernel_rfl) (by exact fun _ _ _ h => h) (Or.inl ⟨by rfl, ?r28_110_hy⟩) (by assumption) ?r28_110_rest
          case r28_110_hy => intro w hSw; (try dsimp only at hSw); (go_simp <;> (with_reducible rfl))
          try simp only [Act.put, List.setIfInBounds_toArray, List.set_cons_zero, List.set_cons_succ]
          refine wpAnyH_ready (rs := [1]) (by kernel_rfl) (by simp) ?_
          refine (AllReadyH.cons (by (simp only [List.getElem?_toArray, List.getElem?_cons_succ, List.getElem?_cons_zero]; rfl)) (fun K hK => ?_) AllReadyH.nil)
          go_simp
          refine hK.out _ _ ?r28_111_hS (fun hHeld => ?r28_111_r)
          case r28_111_hS => (try dsimp only); first | assumption | exact GcS.keep hlt1 (by assumption) ((Below.refl _ _).drew) | exact GcS.keep hlt1 (by assumption) (by assumption) | exact GcS.keep hlt1 (by assumption) ((Below.refl _ _).alloc (Nat.le_refl _) _) | exact GcS.keepG hlt1 (by assumption) hG13 (by first | omega | (simp; done) | (have h9 := hb8.size; simp at h9 ⊢; omega))
          clear hK K
          try simp only [Act.put, List.setIfInBounds_toArray, List.set_cons_zero, List.set_cons_succ]
          refine wpAnyH_ready (rs := [8]) (by kernel_rfl) (by simp) ?_
          refine (AllReadyH.cons (by (simp only [List.getElem?_toArray, List.getElem?_cons_succ, List.getElem?_cons_zero]; rfl)) (fun K hK => ?_) AllReadyH.nil)
          go_simp
          (go_at_call 58; refine (qt.out _ _ (by assumption) (by repeat (first | with_reducible exact sl1c _ p _ (by simp) _ | refine Sl.alloc ?_ _ | refine Sl.ext ?_ ((Below.refl _ _).drew)))).mono ?_; rintro e w8 ⟨g, rfl, hgl, hgr, hb8⟩)
          try go_wp2_with fail
          refine hK.out _ _ ?r28_112_hS (fun hHeld => ?r28_112_r)
          case r28_112_hS => (try dsimp only); first | assumption | exact GcS.keep hlt1 (by assumption) ((Below.refl _ _).drew) | exact GcS.keep hlt1 (by assumption) (by assumption) | exact GcS.keep hlt1 (by assumption) ((Below.refl _ _).alloc (Nat.le_refl _) _) | exact GcS.keepG hlt1 (by assumption) hG13 (by first | omega | (simp; done) | (have h9 := hb8.size; simp at h9 ⊢; omega))
          clear hK K
          try simp only [Act.put, List.setIfInBounds_toArray, List.set_cons_zero, List.set_cons_succ]
          refine wpAnyH_take (i := 9) (v := ?r28_113_vv) (by (simp only [List.getElem?_toArray, List.getElem?_cons_succ, List.getElem?_cons_zero]; rfl)) (by kernel_rfl) (by kernel_rfl) (by kernel_rfl) (by exact fun _ _ _ h => h) (Or.inl ⟨by rfl, ?r28_113_hy⟩) (by assumption) ?r28_113_rest
          case r28_113_hy => intro w hSw; (try dsimp only at hSw); (go_simp <;> (with_reducible rfl))
          try simp only [Act.put, List.setIfInBounds_toArray, List.set_cons_zero, List.set_cons_succ]
          refine wpAnyH_take (i := 10) (v := ?r28_114_vv) (by (simp only [List.getElem?_toArray, List.getElem?_cons_succ, List.getElem?_cons_zero]; rfl)) (by kernel_rfl) (by kernel_rfl) (by kernel_rfl) (by exact fun _ _ _ h => h) (Or.inl ⟨by rfl, ?r28_114_hy⟩) (by assumption) ?r28_114_rest
          case r28_114_hy => intro w hSw; (try dsimp only at hSw); (go_simp <;> (with_reducible rfl))
          try simp only [Act.put, List.setIfInBounds_toArray, List.set_cons_zero, List.set_cons_succ]
          refine wpAnyH_take (i := 11) (v := ?r28_115_vv) (by (simp only [List.getElem?_toArray, List.getElem?_cons_succ, List.getElem?_cons_zero]; rfl)) (by kernel_rfl) (by kernel_rfl) (by kernel_rfl) (by exact fun _ _ _ h => h) (Or.inl ⟨by rfl, ?r28_115_hy⟩) (by assumption) ?r28_115_rest
          case r28_115_hy => intro w hSw; (try dsimp only at hSw); (go_simp <;> (with_reducible rfl))
          try simp only [Act.put, List.setIfInBounds_toArray, List.set_cons_zero, List.set_cons_succ]
          refine wpAnyH_ready (rs := [13]) (by kernel_rfl) (by simp) ?_
          refine (AllReadyH.cons (by (simp only [List.getElem?_toArray, List.getElem?_cons_succ, List.getElem?_cons_zero]; rfl)) (fun K hK => ?_) AllReadyH.nil)
          (refine step_store_bk rfl 85 (.tmp 10) (.tmp 22) rfl _ (gcells g) rfl rfl 85 Try.zeroCells85 (by repeat (first | exact Bk.new _ 85 Try.zeroCells85 _ (by simp) | refine Bk.ext ?_ hb8 | refine Bk.alloc ?_ _ | refine Bk.ext ?_ ((Below.refl _ _).drew))) (by rw [zsize, gcells_size, hgl]) (ginfo _ hgl) (gcells_one _) ?_; intro w13 k13 G13; have hG13 := G13)
          refine hK.out _ _ ?r28_116_hS (fun hHeld => ?r28_116_r)
          case r28_116_hS => (try dsimp only); first | assumption | exact GcS.keep hlt1 (by assumption) ((Below.refl _ _).drew) | exact GcS.keep hlt1 (by assumption) (by assumption) | exact GcS.keep hlt1 (by assumption) ((Below.refl _ _).alloc (Nat.le_refl _) _) | exact GcS.keepG hlt1 (by assumption) hG13 (by first | omega | (simp; done) | (have h9 := hb8.size; simp at h9 ⊢; omega))
          clear hK K
          try simp only [Act.put, List.setIfInBounds_toArray, List.set_cons_zero, List.set_cons_succ]
          refine wpAnyH_take (i := 14) (v := ?r28_117_vv) (by (simp only [List.getElem?_toArray, List.getElem?_cons_succ, List.getElem?_cons_zero]; rfl)) (by kernel_rfl) (by kernel_rfl) (by kernel_rfl) (by exact fun _ _ _ h => h) (Or.inl ⟨by rfl, ?r28_117_hy⟩) (by assumption) ?r28_117_rest
          case r28_117_hy => intro w hSw; (try dsimp only at hSw); (go_simp <;> (with_reducible rfl))
          try simp only [Act.put, List.setIfInBounds_toArray, List.set_cons_zero, List.set_cons_succ]
          refine wpAnyH_done (by kernel_rfl) ?_ _
          have hS13 : GcS W1 (W.heap.size + 1) p w13 := by assumption
          obtain ⟨hB13, p0', p1'⟩ := hS13
          have HB13 := Lib.hid (show Below W.heap.size W w13 from HB.out.trans (hB13.mono HB.out.size))
          have K13 := Lib.hid k13
          have HGR := Lib.hid hgr
          clear hB13
          clear k13
          clear hgr
          clear hb8
          repeat clear hHeld
          by_cases hc : CC = 0
          · have hE := Lib.hid (hR.out.trans (if_pos (hCC.out.symm.trans hc)))
            obtain ⟨hc2, ⟨y0, y1⟩, hway⟩ := growC_ok (hCC.out.symm.trans hc)
            obtain ⟨hv, hpts⟩ := cornC_ok hc2
            obtain ⟨⟨w0, w1'⟩, ⟨h0, h1⟩, hl⟩ := sqOk_edges hv
            obtain ⟨⟨x0, x1⟩, z0, z1⟩ := hpts p (by simp)
            obtain ⟨ny, hny⟩ : ∃ ny : Nat, years = (ny : Int) := ⟨years.toNat, (Int.toNat_of_nonneg y0).symm⟩
            subst hny
            have hgg := HGR.out hc
            subst hgg
            have qg := Lib.hid (sGrow_calls w h sl hl ⟨w1', h1⟩ p ⟨x0, x1⟩ ⟨z0, z1⟩ way (hway way (by simp)) ny (by omega) _ w13 K13.out)
            rw [show ((ny : Int)).toNat = ny from Int.toNat_natCast ny] at hE
            have hcb : (CC == 0) = true := by simpa using hc
            have hcb2 : (CC != 0) = false := by simpa using hc
            clear hc hc2 hv hpts hl hway hR
            unfold Cell.v at qg
            generalize growL sl ny [p] p way = us at *
            go_wp2_with fail
            refine qg.out.mono ?_
            rintro e w20 ⟨g20, c20, rfl, hO, hb20⟩
            have HO := Lib.hid (hO.more HB13.out.size)
            have HB20 := Lib.hid (ext_trans HB13.out hb20)
            clear hO hb20
            go_wp2_with fail
            go_ret2
            rw [hE.out]
            exact RetC2.mk rfl HO.out HB20.out
          · have hE := Lib.hid (hR.out.trans (if_neg (fun h0 => hc (hCC.out.trans h0))))
            have hcb : (CC == 0) = false := by simpa using hc
            have hcb2 : (CC != 0) = true := by simpa using hc
            clear hc hR
            go_wp2_with fail
            go_ret2
            rw [hE.out]
            exact RetC2.mk hCC.out (Own.empty (α := Cell) (c := Cell.c) (sz := 2) (E := 36) w13 W.heap.size _ (by simp) HB13.out.size) (ext_alloc HB13.out _)
    · go_simp
      refine hK.out _ _ ?r28_118_hS (fun hHeld => ?r28_118_r)
      case r28_118_hS => (try dsimp only); first | assumption | exact GcS.keep hlt1 (by assumption) ((Below.refl _ _).drew) | exact GcS.keep hlt1 (by assumption) (by assumption) | exact GcS.keep hlt1 (by assumption) ((Below.refl _ _).alloc (Nat.le_refl _) _) | exact GcS.keepG hlt1 (by assumption) hG13 (by first | omega | (simp; done) | (have h9 := hb8.size; simp at h9 ⊢; omega))
      clear hK K
      try simp only [Act.put, List.setIfInBounds_toArray, List.set_cons_zero, List.set_cons_succ]
      refine wpAnyH_ready (rs := [1, 3]) (by kernel_rfl) (by simp) ?_
      refine (AllReadyH.cons (by (simp only [List.getElem?_toArray, List.getElem?_cons_succ, List.getElem?_cons_zero]; rfl)) (fun K hK => ?_) (AllReadyH.cons (by (simp only [List.getElem?_toArray, List.getElem?_cons_succ, List.getElem?_cons_zero]; rfl)) (fun K hK => ?_) AllReadyH.nil))
      · go_simp
        refine hK.out _ _ ?r28_119_hS (fun hHeld => ?r28_119_r)
        case r28_119_hS => (try dsimp only); first | assumption | exact GcS.keep hlt1 (by assumption) ((Below.refl _ _).drew) | exact GcS.keep hlt1 (by assumption) (by assumption) | exact GcS.keep hlt1 (by assumption) ((Below.refl _ _).alloc (Nat.le_refl _) _) | exact GcS.keepG hlt1 (by assumption) hG13 (by first | omega | (simp; done) | (have h9 := hb8.size; simp at h9 ⊢; omega))
        clear hK K
        try simp only [Act.put, List.setIfInBounds_toArray, List.set_cons_zero, List.set_cons_succ]
        refine wpAnyH_ready (rs := [3]) (by kernel_rfl) (by simp) ?_
        refine (AllReadyH.cons (by (simp only [List.getElem?_toArray, List.getElem?_cons_succ, List.getElem?_cons_zero]; rfl)) (fun K hK => ?_) AllReadyH.nil)
        go_simp
        (go_at_call 72; with_reducible refine (qw.out _).mono ?_; rintro e w3 ⟨rfl, rfl⟩)
        try go_wp2_with fail
        refine hK.out _ _ ?r28_120_hS (fun hHeld => ?r28_120_r)
        case r28_120_hS => (try dsimp only); first | assumption | exact GcS.keep hlt1 (by assumption) ((Below.refl _ _).drew) | exact GcS.keep hlt1 (by assumption) (by assumption) | exact GcS.keep hlt1 (by assumption) ((Below.refl _ _).alloc (Nat.le_refl _) _) | exact GcS.keepG hlt1 (by assumption) hG13 (by first | omega | (simp; done) | (have h9 := hb8.size; simp at h9 ⊢; omega))
        clear hK K
        try simp only [Act.put, List.setIfInBounds_toArray, List.set_cons_zero, List.set_cons_succ]
        refine wpAnyH_take (i := 4) (v := ?r28_121_vv) (by (simp only [List.getElem?_toArray, List.getElem?_cons_succ, List.getElem?_cons_zero]; rfl)) (by kernel_rfl) (by kernel_rfl) (by kernel_rfl) (by exact fun _ _ _ h => h) (Or.inl ⟨by rfl, ?r28_121_hy⟩) (by assumption) ?r28_121_rest
        case r28_121_hy => intro w hSw; (try dsimp only at hSw); (go_simp <;> (with_reducible rfl))
        try simp only [Act.put, List.setIfInBounds_toArray, List.set_cons_zero, List.set_cons_succ]
        refine wpAnyH_take (i := 5) (v := ?r28_122_vv) (by (simp only [List.getElem?_toArray, List.getElem?_cons_succ, List.getElem?_cons_zero]; rfl)) (by kernel_rfl) (by kernel_rfl) (by kernel_rfl) (by exact fun _ _ _ h => h) (Or.inl ⟨by rfl, ?r28_122_hy⟩) (by assumption) ?r28_122_rest
        case r28_122_hy => intro w hSw; (try dsimp only at hSw); (go_simp <;> (with_reducible rfl))
        try simp only [Act.put, List.setIfInBounds_toArray, List.set_cons_zero, List.set_cons_succ]
        refine wpAnyH_ready (rs := [6]) (by kernel_rfl) (by simp) ?_
        refine (AllReadyH.cons (by (simp only [List.getElem?_toArray, List.getElem?_cons_succ, List.getElem?_cons_zero]; rfl)) (fun K hK => ?_) AllReadyH.nil)
        go_simp
        (go_at_call 73; with_reducible refine (qy.out _).mono ?_; rintro e w6 ⟨rfl, rfl⟩)
        try go_wp2_with fail
        refine hK.out _ _ ?r28_123_hS (fun hHeld => ?r28_123_r)
        case r28_123_hS => (try dsimp only); first | assumption | exact GcS.keep hlt1 (by assumption) ((Below.refl _ _).drew) | exact GcS.keep hlt1 (by assumption) (by assumption) | exact GcS.keep hlt1 (by assumption) ((Below.refl _ _).alloc (Nat.le_refl _) _) | exact GcS.keepG hlt1 (by assumption) hG13 (by first | omega | (simp; done) | (have h9 := hb8.size; simp at h9 ⊢; omega))
        clear hK K
        try simp only [Act.put, List.setIfInBounds_toArray, List.set_cons_zero, List.set_cons_succ]
        refine wpAnyH_take (i := 7) (v := ?r28_124_vv) (by (simp only [List.getElem?_toArray, List.getElem?_cons_succ, List.getElem?_cons_zero]; rfl)) (by kernel_rfl) (by kernel_rfl) (by kernel_rfl) (by exact fun _ _ _ h => h) (Or.inl ⟨by rfl, ?r28_124_hy⟩) (by assumption) ?r28_124_rest
        case r28_124_hy => intro w hSw; (try dsimp only at hSw); (go_simp <;> (with_reducible rfl))
        try simp only [Act.put, List.setIfInBounds_toArray, List.set_cons_zero, List.set_cons_succ]
        refine wpAnyH_ready (rs := [8]) (by kernel_rfl) (by simp) ?_
        refine (AllReadyH.cons (by (simp only [List.getElem?_toArray, List.getElem?_cons_succ, List.getElem?_cons_zero]; rfl)) (fun K hK => ?_) AllReadyH.nil)
        go_simp
        (go_at_call 58; refine (qt.out _ _ (by assumption) (by repeat (first | with_reducible exact sl1c _ p _ (by simp) _ | refine Sl.alloc ?_ _ | refine Sl.ext ?_ ((Below.refl _ _).drew)))).mono ?_; rintro e w8 ⟨g, rfl, hgl, hgr, hb8⟩)
        try go_wp2_with fail
        refine hK.out _ _ ?r28_125_hS (fun hHeld => ?r28_125_r)
        case r28_125_hS => (try dsimp only); first | assumption | exact GcS.keep hlt1 (by assumption) ((Below.refl _ _).drew) | exact GcS.keep hlt1 (by assumption) (by assumption) | exact GcS.keep hlt1 (by assumption) ((Below.refl _ _).alloc (Nat.le_refl _) _) | exact GcS.keepG hlt1 (by assumption) hG13 (by first | omega | (simp; done) | (have h9 := hb8.size; simp at h9 ⊢; omega))
        clear hK K
        try simp only [Act.put, List.setIfInBounds_toArray, List.set_cons_zero, List.set_cons_succ]
        refine wpAnyH_take (i := 9) (v := ?r28_126_vv) (by (simp only [List.getElem?_toArray, List.getElem?_cons_succ, List.getElem?_cons_zero]; rfl)) (by kernel_rfl) (by kernel_rfl) (by kernel_rfl) (by exact fun _ _ _ h => h) (Or.inl ⟨by rfl, ?r28_126_hy⟩) (by assumption) ?r28_126_rest
        case r28_126_hy => intro w hSw; (try dsimp only at hSw); (go_simp <;> (with_reducible rfl))
        try simp only [Act.put, List.setIfInBounds_toArray, List.set_cons_zero, List.set_cons_succ]
        refine wpAnyH_take (i := 10) (v := ?r28_127_vv) (by (simp only [List.getElem?_toArray, List.getElem?_cons_succ, List.getElem?_cons_zero]; rfl)) (by kernel_rfl) (by kernel_rfl) (by kernel_rfl) (by exact fun _ _ _ h => h) (Or.inl ⟨by rfl, ?r28_127_hy⟩) (by assumption) ?r28_127_rest
        case r28_127_hy => intro w hSw; (try dsimp only at hSw); (go_simp <;> (with_reducible rfl))
        try simp only [Act.put, List.setIfInBounds_toArray, List.set_cons_zero, List.set_cons_succ]
        refine wpAnyH_take (i := 11) (v := ?r28_128_vv) (by (simp only [List.getElem?_toArray, List.getElem?_cons_succ, List.getElem?_cons_zero]; rfl)) (by kernel_rfl) (by kernel_rfl) (by kernel_rfl) (by exact fun _ _ _ h => h) (Or.inl ⟨by rfl, ?r28_128_hy⟩) (by assumption) ?r28_128_rest
        case r28_128_hy => intro w hSw; (try dsimp only at hSw); (go_simp <;> (with_reducible rfl))
        try simp only [Act.put, List.setIfInBounds_toArray, List.set_cons_zero, List.set_cons_succ]
        refine wpAnyH_ready (rs := [13]) (by kernel_rfl) (by simp) ?_
        refine (AllReadyH.cons (by (simp only [List.getElem?_toArray, List.getElem?_cons_succ, List.getElem?_cons_zero]; rfl)) (fun K hK => ?_) AllReadyH.nil)
        (refine step_store_bk rfl 85 (.tmp 10) (.tmp 22) rfl _ (gcells g) rfl rfl 85 Try.zeroCells85 (by repeat (first | exact Bk.new _ 85 Try.zeroCells85 _ (by simp) | refine Bk.ext ?_ hb8 | refine Bk.alloc ?_ _ | refine Bk.ext ?_ ((Below.refl _ _).drew))) (by rw [zsize, gcells_size, hgl]) (ginfo _ hgl) (gcells_one _) ?_; intro w13 k13 G13; have hG13 := G13)
        refine hK.out _ _ ?r28_129_hS (fun hHeld => ?r28_129_r)
        case r28_129_hS => (try dsimp only); first | assumption | exact GcS.keep hlt1 (by assumption) ((Below.refl _ _).drew) | exact GcS.keep hlt1 (by assumption) (by assumption) | exact GcS.keep hlt1 (by assumption) ((Below.refl _ _).alloc (Nat.le_refl _) _) | exact GcS.keepG hlt1 (by assumption) hG13 (by first | omega | (simp; done) | (have h9 := hb8.size; simp at h9 ⊢; omega))
        clear hK K
        try simp only [Act.put, List.setIfInBounds_toArray, List.set_cons_zero, List.set_cons_succ]
        refine wpAnyH_take (i := 14) (v := ?r28_130_vv) (by (simp only [List.getElem?_toArray, List.getElem?_cons_succ, List.getElem?_cons_zero]; rfl)) (by kernel_rfl) (by kernel_rfl) (by kernel_rfl) (by exact fun _ _ _ h => h) (Or.inl ⟨by rfl, ?r28_130_hy⟩) (by assumption) ?r28_130_rest
        case r28_130_hy => intro w hSw; (try dsimp only at hSw); (go_simp <;> (with_reducible rfl))
        try simp only [Act.put, List.setIfInBounds_toArray, List.set_cons_zero, List.set_cons_succ]
        refine wpAnyH_done (by kernel_rfl) ?_ _
        have hS13 : GcS W1 (W.heap.size + 1) p w13 := by assumption
        obtain ⟨hB13, p0', p1'⟩ := hS13
        have HB13 := Lib.hid (show Below W.heap.size W w13 from HB.out.trans (hB13.mono HB.out.size))
        have K13 := Lib.hid k13
        have HGR := Lib.hid hgr
        clear hB13
        clear k13
        clear hgr
        clear hb8
        repeat clear hHeld
        by_cases hc : CC = 0
        · have hE := Lib.hid (hR.out.trans (if_pos (hCC.out.symm.trans hc)))
          obtain ⟨hc2, ⟨y0, y1⟩, hway⟩ := growC_ok (hCC.out.symm.trans hc)
          obtain ⟨hv, hpts⟩ := cornC_ok hc2
          obtain ⟨⟨w0, w1'⟩, ⟨h0, h1⟩, hl⟩ := sqOk_edges hv
          obtain ⟨⟨x0, x1⟩, z0, z1⟩ := hpts p (by simp)
          obtain ⟨ny, hny⟩ : ∃ ny : Nat, years = (ny : Int) := ⟨years.toNat, (Int.toNat_of_nonneg y0).symm⟩
          subst hny
          have hgg := HGR.out hc
          subst hgg
          have qg := Lib.hid (sGrow_calls w h sl hl ⟨w1', h1⟩ p ⟨x0, x1⟩ ⟨z0, z1⟩ way (hway way (by simp)) ny (by omega) _ w13 K13.out)
          rw [show ((ny : Int)).toNat = ny from Int.toNat_natCast ny] at hE
          have hcb : (CC == 0) = true := by simpa using hc
          have hcb2 : (CC != 0) = false := by simpa using hc
          clear hc hc2 hv hpts hl hway hR
          unfold Cell.v at qg
          generalize growL sl ny [p] p way = us at *
          go_wp2_with fail
          refine qg.out.mono ?_
          rintro e w20 ⟨g20, c20, rfl, hO, hb20⟩
          have HO := Lib.hid (hO.more HB13.out.size)
          have HB20 := Lib.hid (ext_trans HB13.out hb20)
          clear hO hb20
          go_wp2_with fail
          go_ret2
          rw [hE.out]
          exact RetC2.mk rfl HO.out HB20.out
        · have hE := Lib.hid (hR.out.trans (if_neg (fun h0 => hc (hCC.out.trans h0))))
          have hcb : (CC == 0) = false := by simpa using hc
          have hcb2 : (CC != 0) = true := by simpa using hc
          clear hc hR
          go_wp2_with fail
          go_ret2
          rw [hE.out]
          exact RetC2.mk hCC.out (Own.empty (α := Cell) (c := Cell.c) (sz := 2) (E := 36) w13 W.heap.size _ (by simp) HB13.out.size) (ext_alloc HB13.out _)
      · go_simp
        (go_at_call 72; with_reducible refine (qw.out _).mono ?_; rintro e w3 ⟨rfl, rfl⟩)
        try go_wp2_with fail
        refine hK.out _ _ ?r28_131_hS (fun hHeld => ?r28_131_r)
        case r28_131_hS => (try dsimp only); first | assumption | exact GcS.keep hlt1 (by assumption) ((Below.refl _ _).drew) | exact GcS.keep hlt1 (by assumption) (by assumption) | exact GcS.keep hlt1 (by assumption) ((Below.refl _ _).alloc (Nat.le_refl _) _) | exact GcS.keepG hlt1 (by assumption) hG13 (by first | omega | (simp; done) | (have h9 := hb8.size; simp at h9 ⊢; omega))
        clear hK K
        try simp only [Act.put, List.setIfInBounds_toArray, List.set_cons_zero, List.set_cons_succ]
        refine wpAnyH_take (i := 4) (v := ?r28_132_vv) (by (simp only [List.getElem?_toArray, List.getElem?_cons_succ, List.getElem?_cons_zero]; rfl)) (by kernel_rfl) (by kernel_rfl) (by kernel_rfl) (by exact fun _ _ _ h => h) (Or.inl ⟨by rfl, ?r28_132_hy⟩) (by assumption) ?r28_132_rest
        case r28_132_hy => intro w hSw; (try dsimp only at hSw); (go_simp <;> (with_reducible rfl))
        try simp only [Act.put, List.setIfInBounds_toArray, List.set_cons_zero, List.set_cons_succ]
        refine wpAnyH_take (i := 5) (v := ?r28_133_vv) (by (simp only [List.getElem?_toArray, List.getElem?_cons_succ, List.getElem?_cons_zero]; rfl)) (by kernel_rfl) (by kernel_rfl) (by kernel_rfl) (by exact fun _ _ _ h => h) (Or.inl ⟨by rfl, ?r28_133_hy⟩) (by assumption) ?r28_133_rest
        case r28_133_hy => intro w hSw; (try dsimp only at hSw); (go_simp <;> (with_reducible rfl))
        try simp only [Act.put, List.setIfInBounds_toArray, List.set_cons_zero, List.set_cons_succ]
        refine wpAnyH_ready (rs := [1, 6]) (by kernel_rfl) (by simp) ?_
        refine (AllReadyH.cons (by (simp only [List.getElem?_toArray, List.getElem?_cons_succ, List.getElem?_cons_zero]; rfl)) (fun K hK => ?_) (AllReadyH.cons (by (simp only [List.getElem?_toArray, List.getElem?_cons_succ, List.getElem?_cons_zero]; rfl)) (fun K hK => ?_) AllReadyH.nil))
        · go_simp
          refine hK.out _ _ ?r28_134_hS (fun hHeld => ?r28_134_r)
          case r28_134_hS => (try dsimp only); first | assumption | exact GcS.keep hlt1 (by assumption) ((Below.refl _ _).drew) | exact GcS.keep hlt1 (by assumption) (by assumption) | exact GcS.keep hlt1 (by assumption) ((Below.refl _ _).alloc (Nat.le_refl _) _) | exact GcS.keepG hlt1 (by assumption) hG13 (by first | omega | (simp; done) | (have h9 := hb8.size; simp at h9 ⊢; omega))
          clear hK K
          try simp only [Act.put, List.setIfInBounds_toArray, List.set_cons_zero, List.set_cons_succ]
          refine wpAnyH_ready (rs := [6]) (by kernel_rfl) (by simp) ?_
          refine (AllReadyH.cons (by (simp only [List.getElem?_toArray, List.getElem?_cons_succ, List.getElem?_cons_zero]; rfl)) (fun K hK => ?_) AllReadyH.nil)
          go_simp
          (go_at_call 73; with_reducible refine (qy.out _).mono ?_; rintro e w6 ⟨rfl, rfl⟩)
          try go_wp2_with fail
          refine hK.out _ _ ?r28_135_hS (fun hHeld => ?r28_135_r)
          case r28_135_hS => (try dsimp only); first | assumption | exact GcS.keep hlt1 (by assumption) ((Below.refl _ _).drew) | exact GcS.keep hlt1 (by assumption) (by assumption) | exact GcS.keep hlt1 (by assumption) ((Below.refl _ _).alloc (Nat.le_refl _) _) | exact GcS.keepG hlt1 (by assumption) hG13 (by first | omega | (simp; done) | (have h9 := hb8.size; simp at h9 ⊢; omega))
          clear hK K
          try simp only [Act.put, List.setIfInBounds_toArray, List.set_cons_zero, List.set_cons_succ]
          refine wpAnyH_take (i := 7) (v := ?r28_136_vv) (by (simp only [List.getElem?_toArray, List.getElem?_cons_succ, List.getElem?_cons_zero]; rfl)) (by kernel_rfl) (by kernel_rfl) (by kernel_rfl) (by exact fun _ _ _ h => h) (Or.inl ⟨by rfl, ?r28_136_hy⟩) (by assumption) ?r28_136_rest
          case r28_136_hy => intro w hSw; (try dsimp only at hSw); (go_simp <;> (with_reducible rfl))
          try simp only [Act.put, List.setIfInBounds_toArray, List.set_cons_zero, List.set_cons_succ]
          refine wpAnyH_ready (rs := [8]) (by kernel_rfl) (by simp) ?_
          refine (AllReadyH.cons (by (simp only [List.getElem?_toArray, List.getElem?_cons_succ, List.getElem?_cons_zero]; rfl)) (fun K hK => ?_) AllReadyH.nil)
          go_simp
          (go_at_call 58; refine (qt.out _ _ (by assumption) (by repeat (first | with_reducible exact sl1c _ p _ (by simp) _ | refine Sl.alloc ?_ _ | refine Sl.ext ?_ ((Below.refl _ _).drew)))).mono ?_; rintro e w8 ⟨g, rfl, hgl, hgr, hb8⟩)
          try go_wp2_with fail
          refine hK.out _ _ ?r28_137_hS (fun hHeld => ?r28_137_r)
          case r28_137_hS => (try dsimp only); first | assumption | exact GcS.keep hlt1 (by assumption) ((Below.refl _ _).drew) | exact GcS.keep hlt1 (by assumption) (by assumption) | exact GcS.keep hlt1 (by assumption) ((Below.refl _ _).alloc (Nat.le_refl _) _) | exact GcS.keepG hlt1 (by assumption) hG13 (by first | omega | (simp; done) | (have h9 := hb8.size; simp at h9 ⊢; omega))
          clear hK K
          try simp only [Act.put, List.setIfInBounds_toArray, List.set_cons_zero, List.set_cons_succ]
          refine wpAnyH_take (i := 9) (v := ?r28_138_vv) (by (simp only [List.getElem?_toArray, List.getElem?_cons_succ, List.getElem?_cons_zero]; rfl)) (by kernel_rfl) (by kernel_rfl) (by kernel_rfl) (by exact fun _ _ _ h => h) (Or.inl ⟨by rfl, ?r28_138_hy⟩) (by assumption) ?r28_138_rest
          case r28_138_hy => intro w hSw; (try dsimp only at hSw); (go_simp <;> (with_reducible rfl))
          try simp only [Act.put, List.setIfInBounds_toArray, List.set_cons_zero, List.set_cons_succ]
          refine wpAnyH_take (i := 10) (v := ?r28_139_vv) (by (simp only [List.getElem?_toArray, List.getElem?_cons_succ, List.getElem?_cons_zero]; rfl)) (by kernel_rfl) (by kernel_rfl) (by kernel_rfl) (by exact fun _ _ _ h => h) (Or.inl ⟨by rfl, ?r28_139_hy⟩) (by assumption) ?r28_139_rest
          case r28_139_hy => intro w hSw; (try dsimp only at hSw); (go_simp <;> (with_reducible rfl))
          try simp only [Act.put, List.setIfInBounds_toArray, List.set_cons_zero, List.set_cons_succ]
          refine wpAnyH_take (i := 11) (v := ?r28_140_vv) (by (simp only [List.getElem?_toArray, List.getElem?_cons_succ, List.getElem?_cons_zero]; rfl)) (by kernel_rfl) (by kernel_rfl) (by kernel_rfl) (by exact fun _ _ _ h => h) (Or.inl ⟨by rfl, ?r28_140_hy⟩) (by assumption) ?r28_140_rest
          case r28_140_hy => intro w hSw; (try dsimp only at hSw); (go_simp <;> (with_reducible rfl))
          try simp only [Act.put, List.setIfInBounds_toArray, List.set_cons_zero, List.set_cons_succ]
          refine wpAnyH_ready (rs := [13]) (by kernel_rfl) (by simp) ?_
          refine (AllReadyH.cons (by (simp only [List.getElem?_toArray, List.getElem?_cons_succ, List.getElem?_cons_zero]; rfl)) (fun K hK => ?_) AllReadyH.nil)
          (refine step_store_bk rfl 85 (.tmp 10) (.tmp 22) rfl _ (gcells g) rfl rfl 85 Try.zeroCells85 (by repeat (first | exact Bk.new _ 85 Try.zeroCells85 _ (by simp) | refine Bk.ext ?_ hb8 | refine Bk.alloc ?_ _ | refine Bk.ext ?_ ((Below.refl _ _).drew))) (by rw [zsize, gcells_size, hgl]) (ginfo _ hgl) (gcells_one _) ?_; intro w13 k13 G13; have hG13 := G13)
          refine hK.out _ _ ?r28_141_hS (fun hHeld => ?r28_141_r)
          case r28_141_hS => (try dsimp only); first | assumption | exact GcS.keep hlt1 (by assumption) ((Below.refl _ _).drew) | exact GcS.keep hlt1 (by assumption) (by assumption) | exact GcS.keep hlt1 (by assumption) ((Below.refl _ _).alloc (Nat.le_refl _) _) | exact GcS.keepG hlt1 (by assumption) hG13 (by first | omega | (simp; done) | (have h9 := hb8.size; simp at h9 ⊢; omega))
          clear hK K
          try simp only [Act.put, List.setIfInBounds_toArray, List.set_cons_zero, List.set_cons_succ]
          refine wpAnyH_take (i := 14) (v := ?r28_142_vv) (by (simp only [List.getElem?_toArray, List.getElem?_cons_succ, List.getElem?_cons_zero]; rfl)) (by kernel_rfl) (by kernel_rfl) (by kernel_rfl) (by exact fun _ _ _ h => h) (Or.inl ⟨by rfl, ?r28_142_hy⟩) (by assumption) ?r28_142_rest
          case r28_142_hy => intro w hSw; (try dsimp only at hSw); (go_simp <;> (with_reducible rfl))
          try simp only [Act.put, List.setIfInBounds_toArray, List.set_cons_zero, List.set_cons_succ]
          refine wpAnyH_done (by kernel_rfl) ?_ _
          have hS13 : GcS W1 (W.heap.size + 1) p w13 := by assumption
          obtain ⟨hB13, p0', p1'⟩ := hS13
          have HB13 := Lib.hid (show Below W.heap.size W w13 from HB.out.trans (hB13.mono HB.out.size))
          have K13 := Lib.hid k13
          have HGR := Lib.hid hgr
          clear hB13
          clear k13
          clear hgr
          clear hb8
          repeat clear hHeld
          by_cases hc : CC = 0
          · have hE := Lib.hid (hR.out.trans (if_pos (hCC.out.symm.trans hc)))
            obtain ⟨hc2, ⟨y0, y1⟩, hway⟩ := growC_ok (hCC.out.symm.trans hc)
            obtain ⟨hv, hpts⟩ := cornC_ok hc2
            obtain ⟨⟨w0, w1'⟩, ⟨h0, h1⟩, hl⟩ := sqOk_edges hv
            obtain ⟨⟨x0, x1⟩, z0, z1⟩ := hpts p (by simp)
            obtain ⟨ny, hny⟩ : ∃ ny : Nat, years = (ny : Int) := ⟨years.toNat, (Int.toNat_of_nonneg y0).symm⟩
            subst hny
            have hgg := HGR.out hc
            subst hgg
            have qg := Lib.hid (sGrow_calls w h sl hl ⟨w1', h1⟩ p ⟨x0, x1⟩ ⟨z0, z1⟩ way (hway way (by simp)) ny (by omega) _ w13 K13.out)
            rw [show ((ny : Int)).toNat = ny from Int.toNat_natCast ny] at hE
            have hcb : (CC == 0) = true := by simpa using hc
            have hcb2 : (CC != 0) = false := by simpa using hc
            clear hc hc2 hv hpts hl hway hR
            unfold Cell.v at qg
            generalize growL sl ny [p] p way = us at *
            go_wp2_with fail
            refine qg.out.mono ?_
            rintro e w20 ⟨g20, c20, rfl, hO, hb20⟩
            have HO := Lib.hid (hO.more HB13.out.size)
            have HB20 := Lib.hid (ext_trans HB13.out hb20)
            clear hO hb20
            go_wp2_with fail
            go_ret2
            rw [hE.out]
            exact RetC2.mk rfl HO.out HB20.out
          · have hE := Lib.hid (hR.out.trans (if_neg (fun h0 => hc (hCC.out.trans h0))))
            have hcb : (CC == 0) = false := by simpa using hc
            have hcb2 : (CC != 0) = true := by simpa using hc
            clear hc hR
            go_wp2_with fail
            go_ret2
            rw [hE.out]
            exact RetC2.mk hCC.out (Own.empty (α := Cell) (c := Cell.c) (sz := 2) (E := 36) w13 W.heap.size _ (by simp) HB13.out.size) (ext_alloc HB13.out _)
        · go_simp
          (go_at_call 73; with_reducible refine (qy.out _).mono ?_; rintro e w6 ⟨rfl, rfl⟩)
          try go_wp2_with fail
          refine hK.out _ _ ?r28_143_hS (fun hHeld => ?r28_143_r)
          case r28_143_hS => (try dsimp only); first | assumption | exact GcS.keep hlt1 (by assumption) ((Below.refl _ _).drew) | exact GcS.keep hlt1 (by assumption) (by assumption) | exact GcS.keep hlt1 (by assumption) ((Below.refl _ _).alloc (Nat.le_refl _) _) | exact GcS.keepG hlt1 (by assumption) hG13 (by first | omega | (simp; done) | (have h9 := hb8.size; simp at h9 ⊢; omega))
          clear hK K
          try simp only [Act.put, List.setIfInBounds_toArray, List.set_cons_zero, List.set_cons_succ]
          refine wpAnyH_take (i := 7) (v := ?r28_144_vv) (by (simp only [List.getElem?_toArray, List.getElem?_cons_succ, List.getElem?_cons_zero]; rfl)) (by kernel_rfl) (by kernel_rfl) (by kernel_rfl) (by exact fun _ _ _ h => h) (Or.inl ⟨by rfl, ?r28_144_hy⟩) (by assumption) ?r28_144_rest
          case r28_144_hy => intro w hSw; (try dsimp only at hSw); (go_simp <;> (with_reducible rfl))
          try simp only [Act.put, List.setIfInBounds_toArray, List.set_cons_zero, List.set_cons_succ]
          refine wpAnyH_ready (rs := [1]) (by kernel_rfl) (by simp) ?_
          refine (AllReadyH.cons (by (simp only [List.getElem?_toArray, List.getElem?_cons_succ, List.getElem?_cons_zero]; rfl)) (fun K hK => ?_) AllReadyH.nil)
          go_simp
          refine hK.out _ _ ?r28_145_hS (fun hHeld => ?r28_145_r)
          case r28_145_hS => (try dsimp only); first | assumption | exact GcS.keep hlt1 (by assumption) ((Below.refl _ _).drew) | exact GcS.keep hlt1 (by assumption) (by assumption) | exact GcS.keep hlt1 (by assumption) ((Below.refl _ _).alloc (Nat.le_refl _) _) | exact GcS.keepG hlt1 (by assumption) hG13 (by first | omega | (simp; done) | (have h9 := hb8.size; simp at h9 ⊢; omega))
          clear hK K
          try simp only [Act.put, List.setIfInBounds_toArray, List.set_cons_zero, List.set_cons_succ]
          refine wpAnyH_ready (rs := [8]) (by kernel_rfl) (by simp) ?_
          refine (AllReadyH.cons (by (simp only [List.getElem?_toArray, List.getElem?_cons_succ, List.getElem?_cons_zero]; rfl)) (fun K hK => ?_) AllReadyH.nil)
          go_simp
          (go_at_call 58; refine (qt.out _ _ (by assumption) (by repeat (first | with_reducible exact sl1c _ p _ (by simp) _ | refine Sl.alloc ?_ _ | refine Sl.ext ?_ ((Below.refl _ _).drew)))).mono ?_; rintro e w8 ⟨g, rfl, hgl, hgr, hb8⟩)
          try go_wp2_with fail
          refine hK.out _ _ ?r28_146_hS (fun hHeld => ?r28_146_r)
          case r28_146_hS => (try dsimp only); first | assumption | exact GcS.keep hlt1 (by assumption) ((Below.refl _ _).drew) | exact GcS.keep hlt1 (by assumption) (by assumption) | exact GcS.keep hlt1 (by assumption) ((Below.refl _ _).alloc (Nat.le_refl _) _) | exact GcS.keepG hlt1 (by assumption) hG13 (by first | omega | (simp; done) | (have h9 := hb8.size; simp at h9 ⊢; omega))
          clear hK K
          try simp only [Act.put, List.setIfInBounds_toArray, List.set_cons_zero, List.set_cons_succ]
          refine wpAnyH_take (i := 9) (v := ?r28_147_vv) (by (simp only [List.getElem?_toArray, List.getElem?_cons_succ, List.getElem?_cons_zero]; rfl)) (by kernel_rfl) (by kernel_rfl) (by kernel_rfl) (by exact fun _ _ _ h => h) (Or.inl ⟨by rfl, ?r28_147_hy⟩) (by assumption) ?r28_147_rest
          case r28_147_hy => intro w hSw; (try dsimp only at hSw); (go_simp <;> (with_reducible rfl))
          try simp only [Act.put, List.setIfInBounds_toArray, List.set_cons_zero, List.set_cons_succ]
          refine wpAnyH_take (i := 10) (v := ?r28_148_vv) (by (simp only [List.getElem?_toArray, List.getElem?_cons_succ, List.getElem?_cons_zero]; rfl)) (by kernel_rfl) (by kernel_rfl) (by kernel_rfl) (by exact fun _ _ _ h => h) (Or.inl ⟨by rfl, ?r28_148_hy⟩) (by assumption) ?r28_148_rest
          case r28_148_hy => intro w hSw; (try dsimp only at hSw); (go_simp <;> (with_reducible rfl))
          try simp only [Act.put, List.setIfInBounds_toArray, List.set_cons_zero, List.set_cons_succ]
          refine wpAnyH_take (i := 11) (v := ?r28_149_vv) (by (simp only [List.getElem?_toArray, List.getElem?_cons_succ, List.getElem?_cons_zero]; rfl)) (by kernel_rfl) (by kernel_rfl) (by kernel_rfl) (by exact fun _ _ _ h => h) (Or.inl ⟨by rfl, ?r28_149_hy⟩) (by assumption) ?r28_149_rest
          case r28_149_hy => intro w hSw; (try dsimp only at hSw); (go_simp <;> (with_reducible rfl))
          try simp only [Act.put, List.setIfInBounds_toArray, List.set_cons_zero, List.set_cons_succ]
          refine wpAnyH_ready (rs := [13]) (by kernel_rfl) (by simp) ?_
          refine (AllReadyH.cons (by (simp only [List.getElem?_toArray, List.getElem?_cons_succ, List.getElem?_cons_zero]; rfl)) (fun K hK => ?_) AllReadyH.nil)
          (refine step_store_bk rfl 85 (.tmp 10) (.tmp 22) rfl _ (gcells g) rfl rfl 85 Try.zeroCells85 (by repeat (first | exact Bk.new _ 85 Try.zeroCells85 _ (by simp) | refine Bk.ext ?_ hb8 | refine Bk.alloc ?_ _ | refine Bk.ext ?_ ((Below.refl _ _).drew))) (by rw [zsize, gcells_size, hgl]) (ginfo _ hgl) (gcells_one _) ?_; intro w13 k13 G13; have hG13 := G13)
          refine hK.out _ _ ?r28_150_hS (fun hHeld => ?r28_150_r)
          case r28_150_hS => (try dsimp only); first | assumption | exact GcS.keep hlt1 (by assumption) ((Below.refl _ _).drew) | exact GcS.keep hlt1 (by assumption) (by assumption) | exact GcS.keep hlt1 (by assumption) ((Below.refl _ _).alloc (Nat.le_refl _) _) | exact GcS.keepG hlt1 (by assumption) hG13 (by first | omega | (simp; done) | (have h9 := hb8.size; simp at h9 ⊢; omega))
          clear hK K
          try simp only [Act.put, List.setIfInBounds_toArray, List.set_cons_zero, List.set_cons_succ]
          refine wpAnyH_take (i := 14) (v := ?r28_151_vv) (by (simp only [List.getElem?_toArray, List.getElem?_cons_succ, List.getElem?_cons_zero]; rfl)) (by kernel_rfl) (by kernel_rfl) (by kernel_rfl) (by exact fun _ _ _ h => h) (Or.inl ⟨by rfl, ?r28_151_hy⟩) (by assumption) ?r28_151_rest
          case r28_151_hy => intro w hSw; (try dsimp only at hSw); (go_simp <;> (with_reducible rfl))
          try simp only [Act.put, List.setIfInBounds_toArray, List.set_cons_zero, List.set_cons_succ]
          refine wpAnyH_done (by kernel_rfl) ?_ _
          have hS13 : GcS W1 (W.heap.size + 1) p w13 := by assumption
          obtain ⟨hB13, p0', p1'⟩ := hS13
          have HB13 := Lib.hid (show Below W.heap.size W w13 from HB.out.trans (hB13.mono HB.out.size))
          have K13 := Lib.hid k13
          have HGR := Lib.hid hgr
          clear hB13
          clear k13
          clear hgr
          clear hb8
          repeat clear hHeld
          by_cases hc : CC = 0
          · have hE := Lib.hid (hR.out.trans (if_pos (hCC.out.symm.trans hc)))
            obtain ⟨hc2, ⟨y0, y1⟩, hway⟩ := growC_ok (hCC.out.symm.trans hc)
            obtain ⟨hv, hpts⟩ := cornC_ok hc2
            obtain ⟨⟨w0, w1'⟩, ⟨h0, h1⟩, hl⟩ := sqOk_edges hv
            obtain ⟨⟨x0, x1⟩, z0, z1⟩ := hpts p (by simp)
            obtain ⟨ny, hny⟩ : ∃ ny : Nat, years = (ny : Int) := ⟨years.toNat, (Int.toNat_of_nonneg y0).symm⟩
            subst hny
            have hgg := HGR.out hc
            subst hgg
            have qg := Lib.hid (sGrow_calls w h sl hl ⟨w1', h1⟩ p ⟨x0, x1⟩ ⟨z0, z1⟩ way (hway way (by simp)) ny (by omega) _ w13 K13.out)
            rw [show ((ny : Int)).toNat = ny from Int.toNat_natCast ny] at hE
            have hcb : (CC == 0) = true := by simpa using hc
            have hcb2 : (CC != 0) = false := by simpa using hc
            clear hc hc2 hv hpts hl hway hR
            unfold Cell.v at qg
            generalize growL sl ny [p] p way = us at *
            go_wp2_with fail
            refine qg.out.mono ?_
            rintro e w20 ⟨g20, c20, rfl, hO, hb20⟩
            have HO := Lib.hid (hO.more HB13.out.size)
            have HB20 := Lib.hid (ext_trans HB13.out hb20)
            clear hO hb20
            go_wp2_with fail
            go_ret2
            rw [hE.out]
            exact RetC2.mk rfl HO.out HB20.out
          · have hE := Lib.hid (hR.out.trans (if_neg (fun h0 => hc (hCC.out.trans h0))))
            have hcb : (CC == 0) = false := by simpa using hc
            have hcb2 : (CC != 0) = true := by simpa using hc
            clear hc hR
            go_wp2_with fail
            go_ret2
            rw [hE.out]
            exact RetC2.mk hCC.out (Own.empty (α := Cell) (c := Cell.c) (sz := 2) (E := 36) w13 W.heap.size _ (by simp) HB13.out.size) (ext_alloc HB13.out _)
end Go.Proofs.Ytbmkhhhlnollmaa
