/-
Cells beside cells, slabs that are come to: of the program. Conditions: numbers are of their kinds; slices can be read.
-/
import Derived.Test.YteflpdfajfljfaaFLS
import Derived.Test.YteflpdfajfljfaaMPC
import Derived.Test.YteflpdfajfljfaaDFC
import Derived.Test.YteflpdfajfljfaaSQ10
set_option linter.unusedVariables false
set_option linter.unusedSimpArgs false
set_option maxRecDepth 100000
namespace Go.Proofs.Yteflpdfajfljfaa
open Go.RowKit
theorem gp_in (w h : Int) (p : Cell) : gpB w h p = (inB p.x 0 (w - 1) && inB p.y 0 (h - 1)) :=
  Bool.eq_iff_iff.2 (by simp only [gpB, inB, Bool.and_eq_true, decide_eq_true_eq]; omega)
theorem isCell_calls (w h : Int) (z : Value) (sl : List Slab) (p : Cell) (hp : p.ok) (W : World) (hq : SqIn W w h z sl) :
    Calls Try.prog 144 #[sqv w h z, p.v] W fun e w' => e = .returned (.bool (gpB w h p)) ∧ Below W.heap.size W w' := by
  rw [gp_in]
  obtain ⟨A, cap, hz, -, -, -⟩ := hq.sl.slab
  subst hz
  obtain ⟨x0, x1, y0, y1⟩ := hp
  obtain ⟨w0, w1, h0, h1, -, -⟩ := hq
  have hb := Lib.hid (ext_alloc ((Below.refl W.heap.size W).alloc (Nat.le_refl _) (.cells #[.int .i8 w, .int .i8 h, .slice A sl.length cap] 34)) (.cells #[.int .i8 p.x, .int .i8 p.y] 36))
  unfold sqv Cell.v
  cases hx : inB p.x 0 (w - 1)
  · have HX := Lib.hid hx
    clear hx
    go_enter Try.func144, Try.ntmps144
    go_wp2_with fail
    refine (within_calls _ _ _ _).mono ?_
    rintro e w1 ⟨rfl, rfl⟩
    rw [HX.out]
    go_wp2_with fail
    go_ret
    exact ⟨rfl, hb.out⟩
  · have HX := Lib.hid hx
    clear hx
    go_enter Try.func144, Try.ntmps144
    go_wp2_with fail
    refine (within_calls _ _ _ _).mono ?_
    rintro e w1 ⟨rfl, rfl⟩
    rw [HX.out]
    go_wp2_with fail
    refine (within_calls _ _ _ _).mono ?_
    rintro e w1 ⟨rfl, rfl⟩
    go_wp2_with fail
    go_ret
    exact ⟨by simp, hb.out⟩
theorem cover_calls (w h : Int) (z : Value) (sl : List Slab) (p : Cell) (hp : p.ok) (W : World) (hq : SqIn W w h z sl) :
    Calls Try.prog 84 #[sqv w h z, p.v] W fun e w' => e = .returned (.int .i64 (cvS sl p)) ∧ Below W.heap.size W w' := by
  have hE := Lib.hid (show cvS sl p = atI sl p.x p.y from rfl)
  obtain ⟨A, cap, hz, -, -, -⟩ := hq.sl.slab
  subst hz
  obtain ⟨x0, x1, y0, y1⟩ := hp
  have hb := ext_alloc ((Below.refl W.heap.size W).alloc (Nat.le_refl _) (.cells #[.int .i8 w, .int .i8 h, .slice A sl.length cap] 34)) (.cells #[.int .i8 p.x, .int .i8 p.y] 36)
  have HB := Lib.hid hb
  have qa := Lib.hid (at_calls w h _ sl p.x p.y _ (hq.ext hb))
  have bd := atI_bounds sl p.x p.y
  clear hb hq
  generalize atI sl p.x p.y = n at *
  unfold sqv Cell.v at *
  go_enter Try.func84, Try.ntmps84
  go_wp2_with fail
  refine qa.out.mono ?_
  rintro e w1 ⟨rfl, hb1⟩
  go_wp2_with fail
  go_ret
  exact ⟨ret_int hE.out.symm, ext_trans HB.out hb1⟩
theorem nextS1_calls (w h : Int) (z : Value) (sl : List Slab) (g : Nat) (p : Cell) (hp : p.ok) (W : World) (hq : SqIn W w h z sl) (hg : Sq.at_ W g 0 w h z) :
    Calls Try.prog 153 #[p.v, .pointer (some ⟨g, 0, none⟩)] W fun e w' => e = .returned (.bool (!gpB w h p)) ∧ Below W.heap.size W w' := by
  obtain ⟨A, cap, hz, -, -, -⟩ := hq.sl.slab
  subst hz
  have hB := (Below.refl W.heap.size W).alloc (Nat.le_refl _) (.cells #[.int .i8 p.x, .int .i8 p.y] 36)
  have HB := Lib.hid hB
  obtain ⟨c0, c1, c2, hl⟩ := hg.ext hB
  have qp := Lib.hid (isCell_calls w h _ sl p hp _ (hq.ext hB))
  clear hB hq hg
  generalize gpB w h p = q at *
  unfold sqv Cell.v at *
  go_enter Try.func153, Try.ntmps153
  go_wp2_with fail
  refine qp.out.mono ?_
  rintro e w1 ⟨rfl, hb1⟩
  go_wp2_with fail
  go_ret
  exact ⟨rfl, ext_trans HB.out hb1⟩
theorem four_okS {p : Cell} (x0 : 0 ≤ p.x) (x1 : p.x ≤ 20) (y0 : 0 ≤ p.y) (y1 : p.y ≤ 20) : ∀ q ∈ four p, q.ok := by
  intro q hq
  simp only [four, List.mem_cons, List.not_mem_nil, or_false] at hq
  rcases hq with rfl | rfl | rfl | rfl
  all_goals (constructor <;> (try dsimp only) <;> omega)
theorem around_eqS (w h : Int) (p : Cell) : ((four p).filter fun x => !(!gpB w h x)) = aroundL w h p := by
  unfold aroundL
  congr 1
  funext x
  simp
theorem around_lenS (w h : Int) (c : Cell) : (aroundL w h c).length ≤ 4 := Nat.le_trans (List.length_filter_le _ _) (Nat.le_refl 4)
theorem Sq.at_.grown {w w' : World} {g g' : Nat} {ww h : Int} {z : Value} (q : Bk w g 34 #[.int .i8 ww, .int .i8 h, z]) (hG : w.grownBy w' (some g')) (hne : g ≠ g') : Sq.at_ w' g 0 ww h z :=
  have k := q.grown hG hne
  ⟨k.cell 0 _ rfl, k.cell 1 _ rfl, k.cell 2 _ rfl, k.lt⟩
theorem SqIn.grown {W W' : World} {w h : Int} {z : Value} {sl : List Slab} {g : Nat} {W0 : World} (q0 : SqIn W0 w h z sl) (hb : Below W0.heap.size W0 W) (hG : W.grownBy W' (some g)) (hg : W0.heap.size ≤ g) : SqIn W' w h z sl :=
  q0.ext (hb.grown hG hb.size (fun j hj => by injection hj with hj; omega))
theorem nextS_calls (w h : Int) (z : Value) (sl : List Slab) (p : Cell) (x0 : 0 ≤ p.x) (x1 : p.x ≤ 20) (y0 : 0 ≤ p.y) (y1 : p.y ≤ 20) (W : World) (hq : SqIn W w h z sl) :
    Calls Try.prog 86 #[sqv w h z, p.v] W (RetRowC W 36 Cell.c 2 (aroundL w h p)) := by
  obtain ⟨A, cap, hz, -, -, -⟩ := hq.sl.slab
  subst hz
  have hB1 := ext_alloc ((Below.refl W.heap.size W).alloc (Nat.le_refl _) (.cells #[.int .i8 w, .int .i8 h, .slice A sl.length cap] 34)) (.cells #[.int .i8 p.x, .int .i8 p.y] 36)
  have hB := Lib.hid (ext_alloc hB1 (.cells #[.int .i8 p.x, .int .i8 (p.y - 1), .int .i8 (p.x - 1), .int .i8 p.y, .int .i8 (p.x + 1), .int .i8 p.y, .int .i8 p.x, .int .i8 (p.y + 1)] 36))
  have K := Lib.hid (((Bk.new W 34 #[.int .i8 w, .int .i8 h, .slice A sl.length cap] W.heap.size rfl).alloc (.cells #[.int .i8 p.x, .int .i8 p.y] 36)).alloc (.cells #[.int .i8 p.x, .int .i8 (p.y - 1), .int .i8 (p.x - 1), .int .i8 p.y, .int .i8 (p.x + 1), .int .i8 p.y, .int .i8 p.x, .int .i8 (p.y + 1)] 36))
  have hO := Lib.hid (show Own (((W.alloc (.cells #[.int .i8 w, .int .i8 h, .slice A sl.length cap] 34)).alloc (.cells #[.int .i8 p.x, .int .i8 p.y] 36)).alloc (.cells #[.int .i8 p.x, .int .i8 (p.y - 1), .int .i8 (p.x - 1), .int .i8 p.y, .int .i8 (p.x + 1), .int .i8 p.y, .int .i8 p.x, .int .i8 (p.y + 1)] 36)) (W.heap.size + 1 + 1) 36 Cell.c 2 (.slice (some ⟨W.heap.size + 1 + 1, 0, none⟩) (four p).length 4) (four p) from by
    have := World.ownsRow_lit (base := W.heap.size + 1 + 1) (e := 36) (size := 2) ((W.alloc (.cells #[.int .i8 w, .int .i8 h, .slice A sl.length cap] 34)).alloc (.cells #[.int .i8 p.x, .int .i8 p.y] 36)) #[.int .i8 p.x, .int .i8 (p.y - 1), .int .i8 (p.x - 1), .int .i8 p.y, .int .i8 (p.x + 1), .int .i8 p.y, .int .i8 p.x, .int .i8 (p.y + 1)] 4 (by simp) (by simp [maxLen]) (by simp)
    refine ⟨?_⟩
    simpa [four, Cell.c] using this)
  have m1 : IntKind.i8.wrap (p.y - 1) = p.y - 1 := wrap8In' _ (by omega) (by omega)
  have m2 : IntKind.i8.wrap (p.x - 1) = p.x - 1 := wrap8In' _ (by omega) (by omega)
  have m3 : IntKind.i8.wrap (p.x + 1) = p.x + 1 := wrap8In' _ (by omega) (by omega)
  have m4 : IntKind.i8.wrap (p.y + 1) = p.y + 1 := wrap8In' _ (by omega) (by omega)
  have hfo := four_okS x0 x1 y0 y1
  have eg := enters_of Try.func153 (by kernel_rfl) rfl
  have qd := Lib.hid (deleteFuncCell (four p) (W.heap.size + 1 + 1) 4 (W.heap.size + 1 + 1) _ hO.out (by simp) 153 #[.pointer (some ⟨W.heap.size, 0, none⟩)] (fun x => !gpB w h x) eg (fun x hx W' hG => nextS1_calls w h _ sl W.heap.size x (hfo x hx) W' (SqIn.grown hq hB.out hG (by omega)) (Sq.at_.grown K.out hG (by omega))))
  have hE := Lib.hid (around_eqS w h p)
  clear hfo hB1 hq
  unfold sqv Cell.v at *
  go_enter Try.func86, Try.ntmps86
  go_wp2_with fail
  refine qd.out.mono ?_
  rintro e w1 ⟨rfl, hO1, hG1⟩
  rw [hE.out] at hO1
  have HO1 := Lib.hid hO1
  have HB1 := Lib.hid (hB.out.grown hG1 hB.out.size (fun j hj => by injection hj with hj; omega))
  clear hO1 hG1
  rw [hE.out]
  go_wp2_with fail
  go_ret
  exact ⟨_, rfl, HO1.out.more (by omega), HB1.out⟩
set_option maxHeartbeats 2000000 in
theorem entered_calls (w h : Int) (z : Value) (sl : List Slab) (a b : Cell) (ha : a.ok) (hb : b.ok) (W : World) (hq : SqIn W w h z sl) :
    Calls Try.prog 147 #[sqv w h z, a.v, b.v] W fun e w' => e = .returned (.int .i64 (entI (cvS sl) a b)) ∧ Below W.heap.size W w' := by
  obtain ⟨A, cap, hz, -, -, -⟩ := hq.sl.slab
  subst hz
  have hB := ext_alloc (ext_alloc ((Below.refl W.heap.size W).alloc (Nat.le_refl _) (.cells #[.int .i8 w, .int .i8 h, .slice A sl.length cap] 34)) (.cells #[.int .i8 a.x, .int .i8 a.y] 36)) (.cells #[.int .i8 b.x, .int .i8 b.y] 36)
  have K0 := Lib.hid (((Bk.new W 34 #[.int .i8 w, .int .i8 h, .slice A sl.length cap] W.heap.size rfl).alloc (.cells #[.int .i8 a.x, .int .i8 a.y] 36)).alloc (.cells #[.int .i8 b.x, .int .i8 b.y] 36))
  have K1 := Lib.hid ((Bk.new (W.alloc (.cells #[.int .i8 w, .int .i8 h, .slice A sl.length cap] 34)) 36 #[.int .i8 a.x, .int .i8 a.y] (W.heap.size + 1) (by simp)).alloc (.cells #[.int .i8 b.x, .int .i8 b.y] 36))
  have HB := Lib.hid hB
  have HQ := Lib.hid (hq.ext hB)
  have q1 := Lib.hid (cover_calls w h _ sl b hb _ HQ.out)
  have q2 := Lib.hid (fun W' hq' => cover_calls w h (.slice A sl.length cap) sl a ha W' hq')
  have hR := Lib.hid (show entI (cvS sl) a b = if 0 ≤ cvS sl b ∧ cvS sl b ≠ cvS sl a then 1 else 0 from rfl)
  have bB := cvS_ge sl b
  clear hB hq
  generalize cvS sl b = s at *
  generalize cvS sl a = t at *
  unfold sqv Cell.v at *
  go_enter Try.func147, Try.ntmps147
  go_wp2_with fail
  refine q1.out.mono ?_
  rintro e w1 ⟨rfl, hb1⟩
  have HB1 := Lib.hid (ext_trans HB.out hb1)
  have HQ1 := Lib.hid (HQ.out.ext hb1)
  have k0 := K0.out.ext hb1
  have k1 := K1.out.ext hb1
  have s0 := k0.cell 0 _ rfl
  have s1 := k0.cell 1 _ rfl
  have s2 := k0.cell 2 _ rfl
  have t0 := k1.cell 0 _ rfl
  have t1 := k1.cell 1 _ rfl
  clear k0 k1 hb1 K0 K1 q1
  by_cases h0 : 0 ≤ s
  · have hd : decide (0 ≤ s) = true := decide_eq_true h0
    have hR2 := Lib.hid (show entI (cvS sl) a b = if (s != t) = true then 1 else 0 from by rw [hR.out]; simp [h0, bne_iff_ne])
    clear hR h0
    cases hne : (s != t)
    all_goals
      rw [hne] at hR2
      go_wp2_with fail
      refine (q2.out _ HQ1.out).mono ?_
      rintro e w2 ⟨rfl, hb2⟩
      go_wp2_with fail
      refine (bit_calls _ _).mono ?_
      rintro e w3 ⟨rfl, rfl⟩
      go_wp2_with fail
      go_ret
      exact ⟨ret_int hR2.out.symm, ext_trans HB1.out hb2⟩
  · have hd : decide (0 ≤ s) = false := decide_eq_false h0
    have hR2 := Lib.hid (show entI (cvS sl) a b = 0 from by rw [hR.out]; simp [h0])
    clear hR h0
    go_wp2_with fail
    refine (bit_calls _ _).mono ?_
    rintro e w3 ⟨rfl, rfl⟩
    go_wp2_with fail
    go_ret
    exact ⟨ret_int hR2.out.symm, HB1.out⟩
theorem zeroI64S_run (w : World) : (zeroValue 2).run Try.prog w = .ok (.int .i64 0) w := by kernel_rfl
def lessM (M : Cell → Option Int) (c : Cell) (n : Int) : Bool := match M c with | some m => decide (m ≤ n) | none => false
theorem hasLess_calls (g : Nat) (M : Cell → Option Int) (c : Cell) (hc : c.ok) (n : Int) (W : World) (hM : MapC W g M) :
    Calls Try.prog 190 #[.map (some g), c.v, .int .i64 n] W fun e w' => e = .returned (.bool (lessM M c n)) ∧ Below W.heap.size W w' := by
  have HB := Lib.hid ((Below.refl W.heap.size W).alloc (Nat.le_refl _) (.cells #[.int .i8 c.x, .int .i8 c.y] 36))
  have lk := (hM.ext ((Below.refl W.heap.size W).alloc (Nat.le_refl _) (.cells #[.int .i8 c.x, .int .i8 c.y] 36))).look2 Try.underlying164 (zeroI64S_run _) c hc
  clear hM
  cases hm : M c with
  | none =>
    have hR := Lib.hid (show lessM M c n = false from by rw [lessM, hm])
    rw [hm] at lk
    clear hm
    simp only [Option.getD_none, Option.isSome_none, Cell.v] at lk ⊢
    go_enter Try.func190, Try.ntmps190
    go_wp2_with fail
    go_ret
    exact ⟨ret_bool hR.out.symm, HB.out⟩
  | some m =>
    have hR := Lib.hid (show lessM M c n = decide (m ≤ n) from by rw [lessM, hm])
    rw [hm] at lk
    clear hm
    simp only [Option.getD_some, Option.isSome_some, Cell.v] at lk ⊢
    go_enter Try.func190, Try.ntmps190
    go_wp2_with fail
    go_ret
    exact ⟨ret_bool (by first | exact hR.out.symm | (rw [hR.out]; simp)), HB.out⟩
theorem cellFn (w h : Int) (z : Value) (sl : List Slab) (b : Nat) (W : World) (hq : SqIn W w h z sl) (hb : Sq.at_ W b 0 w h z) (p : Cell) (hp : p.ok) :
    Tells Try.prog 143 #[.pointer (some ⟨b, 0, none⟩)] Cell.v (fun p => !gpB w h p) W p := by
  intro W' hW
  obtain ⟨A, cap, hz, -, -, -⟩ := hq.sl.slab
  subst hz
  obtain ⟨c0, c1, c2, hl⟩ := hb.ext hW
  have HQ := Lib.hid ((hq.ext hW).ext ((Below.refl _ _).alloc (Nat.le_refl _) (.cells #[.int .i8 p.x, .int .i8 p.y] 36)))
  have qp := Lib.hid (isCell_calls w h _ sl p hp _ HQ.out)
  obtain ⟨E, hE0⟩ : ∃ E, E = gpB w h p := ⟨_, rfl⟩
  rw [← hE0] at qp
  have hE := Lib.hid hE0
  clear hE0
  unfold sqv Cell.v at *
  go_enter Try.func143, Try.ntmps143
  go_wp2_with fail
  refine qp.out.mono ?_
  rintro e w1 ⟨rfl, hb1⟩
  go_wp2_with fail
  go_ret
  exact ⟨ret_bool (by show (!E) = !gpB w h p; rw [hE.out]), ext_of_alloc hb1⟩
set_option maxHeartbeats 1000000 in
theorem cellCode_calls (w h : Int) (z : Value) (sl : List Slab) (pts : List Cell) (hp : ∀ x ∈ pts, x.ok) (v : Value) (W : World) (hq : SqIn W w h z sl) (hs : Sl W W.heap.size Cell.c 2 v pts) :
    Calls Try.prog 78 #[sqv w h z, v] W fun e w' => e = .returned (.int .i64 (cellC w h sl pts)) ∧ Below W.heap.size W w' := by
  obtain ⟨A, cap, hz, -, -, -⟩ := hq.sl.slab
  subst hz
  have eg := Lib.hid (enters_of Try.func143 (by kernel_rfl) rfl)
  have hB := (Below.refl W.heap.size W).alloc (Nat.le_refl _) (.cells #[.int .i8 w, .int .i8 h, .slice A sl.length cap] 34)
  have HB := Lib.hid hB
  have HQ := Lib.hid (hq.ext hB)
  have HS := Lib.hid (hs.ext hB)
  have K0 := Lib.hid (Bk.new W 34 #[.int .i8 w, .int .i8 h, .slice A sl.length cap] W.heap.size rfl)
  have qv := Lib.hid (validSquare_calls w h hq.w0 hq.w1 hq.h0 hq.h1 sl hq.ok _ _ HQ.out.sl)
  clear hB hq hs
  cases hv : sqOk w h sl
  · have hR := Lib.hid (show cellC w h sl pts = 1 from by rw [cellC, hv]; rfl)
    rw [hv] at qv
    clear hv
    unfold sqv at *
    go_enter Try.func78, Try.ntmps78
    go_wp2_with fail
    refine qv.out.mono ?_
    rintro e w1 ⟨rfl, hb1⟩
    go_wp2_with fail
    go_ret
    exact ⟨ret_int hR.out.symm, ext_trans HB.out hb1⟩
  · have hR := Lib.hid (show cellC w h sl pts = (if pts.all (gpB w h) = true then 0 else 2) from by rw [cellC, hv]; rfl)
    have hA := Lib.hid (any_not (gpB w h) pts)
    rw [hv] at qv
    clear hv
    unfold sqv at *
    go_enter Try.func78, Try.ntmps78
    go_wp2_with fail
    refine qv.out.mono ?_
    rintro e w1 ⟨rfl, hb1⟩
    have HB1 := Lib.hid (ext_trans HB.out hb1)
    have HQ1 := Lib.hid (HQ.out.ext hb1)
    have HS1 := Lib.hid (HS.out.ext hb1)
    have k0 := Lib.hid (K0.out.ext hb1)
    clear hb1
    go_wp2_with fail
    refine (containsFuncCell pts v _ HS1.out _ _ _ eg.out (fun x hx => cellFn w h _ sl _ _ HQ1.out ⟨k0.out.cell 0 _ rfl, k0.out.cell 1 _ rfl, k0.out.cell 2 _ rfl, k0.out.lt⟩ x (hp x hx))).mono ?_
    rintro e w2 ⟨rfl, hb2⟩
    have HB2 := Lib.hid (ext_trans HB1.out hb2)
    clear hb2
    go_wp2_with fail
    refine (unless_calls _ _ _).mono ?_
    rintro e w3 ⟨rfl, rfl⟩
    rw [hA.out]
    generalize pts.all (gpB w h) = q at *
    cases q
    all_goals
      go_wp2_with fail
      go_ret
      exact ⟨ret_int hR.out.symm, HB2.out⟩
end Go.Proofs.Yteflpdfajfljfaa
