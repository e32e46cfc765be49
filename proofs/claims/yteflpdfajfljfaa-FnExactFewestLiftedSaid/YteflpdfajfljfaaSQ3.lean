/-
ValidSquare of the program. Conditions: numbers are of their kinds; slices can be read.
-/
import Derived.Test.YteflpdfajfljfaaSQ2
set_option linter.unusedVariables false
set_option linter.unusedSimpArgs false
set_option maxRecDepth 100000
namespace Go.Proofs.Yteflpdfajfljfaa
open Go.RowKit
def Slab.at_ (w : World) (b o : Nat) (q : Slab) : Prop := w.cell? ⟨b, o, none⟩ = some (.int .i8 q.x) ∧ w.cell? ⟨b, o + 1, none⟩ = some (.int .i8 q.y) ∧ w.cell? ⟨b, o + 2, none⟩ = some (.int .i8 q.w) ∧ w.cell? ⟨b, o + 3, none⟩ = some (.int .i8 q.h)
theorem Slab.at_ext {w w' : World} {b o : Nat} {q : Slab} (h : Slab.at_ w b o q) (hb : Below w.heap.size w w') (hl : b < w.heap.size) : Slab.at_ w' b o q :=
  ⟨(hb.cell (p := ⟨b, _, none⟩) hl).trans h.1, (hb.cell (p := ⟨b, _, none⟩) hl).trans h.2.1, (hb.cell (p := ⟨b, _, none⟩) hl).trans h.2.2.1, (hb.cell (p := ⟨b, _, none⟩) hl).trans h.2.2.2⟩
theorem slabOk_parts (w h : Int) (sl : List Slab) (k : Nat) : slabOk w h sl k = (liesB w h (sl.getD k s0) && !(sl.take k).any (fun t => meetsB (sl.getD k s0) t) && (decide (k = 0) || beforeB (sl.getD (k - 1) s0) (sl.getD k s0))) := by
  unfold slabOk
  cases liesB w h (sl.getD k s0) <;> cases (sl.take k).any (fun t => meetsB (sl.getD k s0) t) <;> cases (decide (k = 0) || beforeB (sl.getD (k - 1) s0) (sl.getD k s0)) <;> rfl
/-- Behind slabs that lie rightly: one that meets none of them comes behind the last one just where it does not come before it. -/
theorem before_not {w h : Int} {sl : List Slab} {k : Nat} (hk : k < sl.length) (h0 : 0 < k) (hok : slabsOk w h sl k = true) (hl : liesB w h (sl.getD k s0) = true) (hm : (sl.take k).any (fun t => meetsB (sl.getD k s0) t) = false) :
    beforeB (sl.getD (k - 1) s0) (sl.getD k s0) = !beforeB (sl.getD k s0) (sl.getD (k - 1) s0) := by
  have h1 := slabOk_lies (slabsOk_at hok (show k - 1 < k by omega))
  have h2 : meetsB (sl.getD k s0) (sl.getD (k - 1) s0) = false := by
    rw [List.any_eq_false] at hm
    have := hm (sl.getD (k - 1) s0) (by
      have e : sl.getD (k - 1) s0 = sl[k - 1] := by simp [List.getD_eq_getElem?_getD, show k - 1 < sl.length by omega]
      rw [e, List.mem_take_iff_getElem]
      exact ⟨k - 1, by omega, rfl⟩)
    simpa using this
  generalize sl.getD k s0 = a at *
  generalize sl.getD (k - 1) s0 = b at *
  simp only [liesB, meetsB, decide_eq_true_eq, decide_eq_false_iff_not] at hl h1 h2
  unfold beforeB
  rw [Bool.eq_iff_iff]
  simp only [decide_eq_true_eq, Bool.not_eq_true', decide_eq_false_iff_not]
  omega
theorem wrapIn (x : Int) (h0 : -9223372036854775808 ≤ x) (h1 : x ≤ 9223372036854775807) : IntKind.i64.wrap x = x := by rw [IntKind.wrap_i64]; omega
abbrev VsS (W0 : World) (b0 c : Nat) (w h : Int) (z : Value) (s : Slab) (w' : World) : Prop :=
  Below W0.heap.size W0 w' ∧ w'.cell? ⟨b0, 0, none⟩ = some (.int .i8 w) ∧ w'.cell? ⟨b0, 1, none⟩ = some (.int .i8 h) ∧ w'.cell? ⟨b0, 2, none⟩ = some z ∧ w'.cell? ⟨c, 0, none⟩ = some (.int .i8 s.x) ∧ w'.cell? ⟨c, 1, none⟩ = some (.int .i8 s.y) ∧ w'.cell? ⟨c, 2, none⟩ = some (.int .i8 s.w) ∧ w'.cell? ⟨c, 3, none⟩ = some (.int .i8 s.h)
theorem VsS.keep {W0 w1 w2 : World} {b0 c : Nat} {w h : Int} {z : Value} {s : Slab} (hb0 : b0 < W0.heap.size) (hc : c < W0.heap.size) (hS : VsS W0 b0 c w h z s w1) (k : Below w1.heap.size w1 w2) : VsS W0 b0 c w h z s w2 := by
  obtain ⟨h0, h1, h2, h3, h4, h5, h6, h7⟩ := hS
  have hl : b0 < w1.heap.size := Nat.lt_of_lt_of_le hb0 h0.size
  have hl2 : c < w1.heap.size := Nat.lt_of_lt_of_le hc h0.size
  have q : ∀ o, w2.cell? ⟨b0, o, none⟩ = w1.cell? ⟨b0, o, none⟩ := fun o => k.cell (p := ⟨b0, o, none⟩) hl
  have r : ∀ o, w2.cell? ⟨c, o, none⟩ = w1.cell? ⟨c, o, none⟩ := fun o => k.cell (p := ⟨c, o, none⟩) hl2
  exact ⟨ext_trans h0 k, (q _).trans h1, (q _).trans h2, (q _).trans h3, (r _).trans h4, (r _).trans h5, (r _).trans h6, (r _).trans h7⟩
abbrev VsS2 (W0 : World) (b0 c : Nat) (w h : Int) (z : Value) (s : Slab) (b o : Nat) (t : Slab) (w' : World) : Prop :=
  VsS W0 b0 c w h z s w' ∧ w'.cell? ⟨b, o, none⟩ = some (.int .i8 t.x) ∧ w'.cell? ⟨b, o + 1, none⟩ = some (.int .i8 t.y) ∧ w'.cell? ⟨b, o + 2, none⟩ = some (.int .i8 t.w) ∧ w'.cell? ⟨b, o + 3, none⟩ = some (.int .i8 t.h)
theorem VsS2.keep {W0 w1 w2 : World} {b0 c b o : Nat} {w h : Int} {z : Value} {s t : Slab} (hb0 : b0 < W0.heap.size) (hc : c < W0.heap.size) (hb : b < W0.heap.size) (hS : VsS2 W0 b0 c w h z s b o t w1) (k : Below w1.heap.size w1 w2) : VsS2 W0 b0 c w h z s b o t w2 := by
  obtain ⟨h0, h1, h2, h3, h4⟩ := hS
  have hl : b < w1.heap.size := Nat.lt_of_lt_of_le hb h0.1.size
  have q : ∀ o, w2.cell? ⟨b, o, none⟩ = w1.cell? ⟨b, o, none⟩ := fun o => k.cell (p := ⟨b, o, none⟩) hl
  exact ⟨h0.keep hb0 hc k, (q _).trans h1, (q _).trans h2, (q _).trans h3, (q _).trans h4⟩
theorem sizeSlab_run (W : World) : (sizeOf (Try.prog.elem 32)).run Try.prog W = .ok 4 W := by kernel_rfl
theorem cutSlab_run (A : Option Addr) (n cap k : Nat) (hk : k ≤ cap) (W : World) : (Instr.sliceAt 32 (.slice A n cap) none (some (.int .i64 (k : Int))) none).run Try.prog W = .ok (.slice A k cap) W := by
  rw [run_sliceAt_slice (P := Try.prog) W 32 _ _ _ _ (by kernel_rfl), run_slice_h (P := Try.prog) W 32 A n cap (by kernel_rfl) .i64 (k : Int) (by omega) (by omega), sizeSlab_run]
  cases A <;> simp [Result.andThen, sliced, Addr.add]
theorem Sl.cutHi' {α : Type} {w : World} {B sz cap : Nat} {c : α → List Value} {A : Option Addr} {xs : List α} (h : Sl w B c sz (.slice A xs.length cap) xs) (k : Nat) (hk : k ≤ xs.length) : Sl w B c sz (.slice A k cap) (xs.take k) := by
  obtain ⟨A', cap', hv, hl, hm, hc⟩ := h.out
  obtain ⟨rfl, _, rfl⟩ : A = A' ∧ xs.length = xs.length ∧ cap = cap' := by
    injection hv with e1 e2 e3
    exact ⟨e1, e2, e3⟩
  have hlen : (xs.take k).length = k := by rw [List.length_take]; omega
  refine ⟨A, cap, by rw [hlen], by omega, hm, fun hp => ?_⟩
  obtain ⟨b, o, hA, hb, hcell⟩ := hc (by omega)
  refine ⟨b, o, hA, hb, fun i x hx j u hu => hcell i x ?_ j u hu⟩
  rw [List.getElem?_take] at hx
  split at hx
  · exact hx
  · cases hx
set_option maxHeartbeats 4000000 in
theorem validSquare_calls (w h : Int) (w0 : -128 ≤ w) (w1 : w ≤ 127) (h0 : -128 ≤ h) (h1 : h ≤ 127) (sl : List Slab) (hsl : ∀ x ∈ sl, x.ok) (z : Value) (W : World) (hz : Sl W W.heap.size Slab.c 4 z sl) :
    Calls Try.prog 92 #[.agg #[.int .i8 w, .int .i8 h, z]] W fun e w' => e = .returned (.bool (sqOk w h sl)) ∧ Below W.heap.size W w' := by
  have eM := Lib.hid (enters_of Try.func160 (by kernel_rfl) rfl)
  obtain ⟨A, cap, rfl, hl, hm, hcell⟩ := hz.slab
  have hb0 := (Below.refl W.heap.size W).alloc (Nat.le_refl _) (.cells #[.int .i8 w, .int .i8 h, .slice A sl.length cap] 34)
  have HZ := Lib.hid (hz.ext hb0)
  have HB0 := Lib.hid hb0
  have hsq := Lib.hid (show sqOk w h sl = (edgeB w && edgeB h && decide (sl.length ≤ 60) && slabsOk w h sl sl.length) from rfl)
  have HSL := Lib.hid hsl
  clear hz hb0 hsl
  cases e1 : edgeB w
  · have hR := Lib.hid (show sqOk w h sl = false from by rw [hsq.out, e1]; rfl)
    have hE := Lib.hid e1
    clear e1 hsq
    go_enter Try.func92, Try.ntmps92
    go_wp2_with fail
    refine (edge_calls _ _).mono ?_
    rintro e w1 ⟨rfl, rfl⟩
    rw [hE.out]
    go_wp2_with fail
    go_ret
    exact ⟨ret_bool hR.out.symm, HB0.out⟩
  cases e2 : edgeB h
  · have hR := Lib.hid (show sqOk w h sl = false from by rw [hsq.out, e1, e2]; rfl)
    have hE := Lib.hid e1
    have hE2 := Lib.hid e2
    clear e1 e2 hsq
    go_enter Try.func92, Try.ntmps92
    go_wp2_with fail
    refine (edge_calls _ _).mono ?_
    rintro e w1 ⟨rfl, rfl⟩
    rw [hE.out]
    go_wp2_with fail
    refine (edge_calls _ _).mono ?_
    rintro e w1 ⟨rfl, rfl⟩
    rw [hE2.out]
    go_wp2_with fail
    go_ret
    exact ⟨ret_bool hR.out.symm, HB0.out⟩
  by_cases e3 : sl.length ≤ 60
  case neg =>
    have hR := Lib.hid (show sqOk w h sl = false from by rw [hsq.out, e1, e2]; simp [e3])
    have hE := Lib.hid e1
    have hE2 := Lib.hid e2
    have hd : decide ((60 : Int) < sl.length) = true := by rw [decide_eq_true_eq]; omega
    clear e1 e2 hsq
    go_enter Try.func92, Try.ntmps92
    go_wp2_with fail
    refine (edge_calls _ _).mono ?_
    rintro e w1 ⟨rfl, rfl⟩
    rw [hE.out]
    go_wp2_with fail
    refine (edge_calls _ _).mono ?_
    rintro e w1 ⟨rfl, rfl⟩
    rw [hE2.out]
    go_wp2_with fail
    go_ret
    exact ⟨ret_bool hR.out.symm, HB0.out⟩
  have hE := Lib.hid e1
  have hE2 := Lib.hid e2
  have hR0 := Lib.hid (show sqOk w h sl = slabsOk w h sl sl.length from by rw [hsq.out, e1, e2]; simp [e3])
  have hd : decide ((60 : Int) < sl.length) = false := by rw [decide_eq_false_iff_not]; omega
  clear e1 e2 hsq
  go_enter Try.func92, Try.ntmps92
  go_wp2_with fail
  refine (edge_calls _ _).mono ?_
  rintro e w1 ⟨rfl, rfl⟩
  rw [hE.out]
  go_wp2_with fail
  refine (edge_calls _ _).mono ?_
  rintro e w1 ⟨rfl, rfl⟩
  rw [hE2.out]
  go_wp2_with fail
  have hK0 := Lib.hid (Bk.new W 34 #[.int .i8 w, .int .i8 h, .slice A sl.length cap] W.heap.size rfl)
  have hsz := Lib.hid (show W.heap.size < (W.alloc (.cells #[.int .i8 w, .int .i8 h, .slice A sl.length cap] 34)).heap.size from by simp)
  generalize hW1 : W.alloc (.cells #[.int .i8 w, .int .i8 h, .slice A sl.length cap] 34) = W1 at *
  go_loopw [26] (fun i wr => ∃ k : Nat, k ≤ sl.length ∧ i = .int .i64 k ∧ slabsOk w h sl k = true ∧ Below W1.heap.size W1 wr) (fun i _ => sl.length - (intOf i).toNat)
  case atStart => exact ⟨0, by omega, rfl, rfl, Below.refl _ _⟩
  case round =>
    obtain ⟨k, hk, rfl, hok, hb⟩ := hrel
    obtain ⟨wo, rfl⟩ : ∃ wo : World, wo = wr := ⟨_, rfl⟩
    have HOK := Lib.hid hok
    have HB := Lib.hid hb
    clear hok
    by_cases hlt : k < sl.length
    · obtain ⟨b, o, rfl, hbb, g0, g1, g2, g3⟩ := hcell k hlt
      have hgd : sl.getD k s0 = sl[k] := by simp [List.getD_eq_getElem?_getD, hlt]
      have hat := Slab.at_ext (show Slab.at_ W b (o + k * 4) sl[k] from ⟨g0, g1, g2, g3⟩) (HB0.out.trans (hb.mono HB0.out.size)) hbb
      clear g0 g1 g2 g3
      obtain ⟨g0, g1, g2, g3⟩ := hat
      have hbk := hK0.out.ext hb
      have k2 := hbk.cell 2 _ rfl
      have k1 := hbk.cell 1 _ rfl
      have k0 := hbk.cell 0 _ rfl
      have hlw := hbk.lt
      have hsk := Lib.hid (HSL.out sl[k] (List.getElem_mem hlt))
      have hZ2 := Lib.hid (HZ.out.ext (ext_alloc hb (.cells #[.int .i8 sl[k].x, .int .i8 sl[k].y, .int .i8 sl[k].w, .int .i8 sl[k].h] 127)))
      have hp1 : 0 < k → ∃ s', s'.ok ∧ sl.getD (k - 1) s0 = s' ∧ Slab.at_ wo b (o + (k - 1) * 4) s' := fun h0 => by
        obtain ⟨b', o', he, hbb', f0, f1, f2, f3⟩ := hcell (k - 1) (by omega)
        obtain ⟨rfl, rfl⟩ : b = b' ∧ o = o' := by
          injection he with he
          injection he with e1 e2
          exact ⟨e1, e2⟩
        refine ⟨sl[k - 1], HSL.out _ (List.getElem_mem _), by simp [List.getD_eq_getElem?_getD, show k - 1 < sl.length by omega], ?_⟩
        exact Slab.at_ext (show Slab.at_ W b (o + (k - 1) * 4) sl[k - 1] from ⟨f0, f1, f2, f3⟩) (HB0.out.trans (hb.mono HB0.out.size)) hbb
      have HP1 := Lib.hid hp1
      have hbo := Lib.hid (Nat.lt_of_lt_of_le (Nat.lt_of_lt_of_le hbb HB0.out.size) hb.size)
      clear hcell hp1
      have hst := Lib.hid (show slabsOk w h sl (k + 1) = (slabsOk w h sl k && slabOk w h sl k) from rfl)
      have hpt := Lib.hid (slabOk_parts w h sl k)
      rw [hgd] at hpt
      have hbn := Lib.hid (fun h0 hl hm => before_not (w := w) (h := h) hlt h0 HOK.out hl hm)
      rw [hgd] at hbn
      generalize sl[k] = s at *
      clear hgd
      have hcut := fun W' => cutSlab_run (some ⟨b, o, none⟩) sl.length cap k (by omega) W'
      have hk8 : (0 : Int) ≤ (k : Int) := by omega
      have hk9 : (k : Int) < (sl.length : Int) := by omega
      have hlw2 : W.heap.size < (wo.alloc (.cells #[.int .i8 s.x, .int .i8 s.y, .int .i8 s.w, .int .i8 s.h] 127)).heap.size := by simp; omega
      have hcw : wo.heap.size < (wo.alloc (.cells #[.int .i8 s.x, .int .i8 s.y, .int .i8 s.w, .int .i8 s.h] 127)).heap.size := by simp
      have hbd : Below wo.heap.size wo (wo.alloc (.cells #[.int .i8 s.x, .int .i8 s.y, .int .i8 s.w, .int .i8 s.h] 127)) := (Below.refl _ _).alloc (Nat.le_refl _) _
      have hS : VsS (wo.alloc (.cells #[.int .i8 s.x, .int .i8 s.y, .int .i8 s.w, .int .i8 s.h] 127)) W.heap.size wo.heap.size w h (.slice (some ⟨b, o, none⟩) sl.length cap) s (wo.alloc (.cells #[.int .i8 s.x, .int .i8 s.y, .int .i8 s.w, .int .i8 s.h] 127)) :=
        ⟨Below.refl _ _, (hbd.cell (p := ⟨W.heap.size, _, none⟩) hlw).trans k0, (hbd.cell (p := ⟨W.heap.size, _, none⟩) hlw).trans k1, (hbd.cell (p := ⟨W.heap.size, _, none⟩) hlw).trans k2, by simp, by simp, by simp, by simp⟩
      have hbe := Lib.hid (HB0.out.trans ((ext_trans hb hbd).mono HB0.out.size))
      have hbl := Lib.hid (ext_trans hb hbd)
      have hq1 := Lib.hid hbd
      go_wp2_with fail
      generalize wo.alloc (.cells #[.int .i8 s.x, .int .i8 s.y, .int .i8 s.w, .int .i8 s.h] 127) = W2 at *
      have qi := Lib.hid (show ∀ W', Calls Try.prog 158 #[.agg #[.int .i8 s.x, .int .i8 s.y, .int .i8 s.w, .int .i8 s.h], .agg #[.int .i8 w, .int .i8 h, .slice (some ⟨b, o, none⟩) sl.length cap]] W' (fun e w' => e = .returned (.bool (liesB w h s)) ∧ Below W'.heap.size W' w') from fun W' => isIn_calls s hsk.out w h w0 w1 h0 h1 _ ⟨_, _, _, rfl⟩ W')
      have qc := Lib.hid (show ∀ W', Below W2.heap.size W2 W' → Calls Try.prog 159 #[.slice (some ⟨b, o, none⟩) k cap, .func (.func 160) #[.agg #[.int .i8 s.x, .int .i8 s.y, .int .i8 s.w, .int .i8 s.h]] #[]] W' (fun e w' => e = .returned (.bool ((sl.take k).any (fun t => meetsB s t))) ∧ Below W'.heap.size W' w') from
        fun W' h => containsFuncSlabM (sl.take k) _ W' ((hZ2.out.cutHi' k (by omega)).ext h) _ _ (fun t => meetsB s t) eM.out (fun x hx W'' _ => meets_calls s x hsk.out (HSL.out x (List.mem_of_mem_take hx)) W''))
      clear k0 k1 k2 g0 g1 g2 g3 hbk hlw hbd
      generalize liesB w h s = L at *
      generalize (sl.take k).any (fun t => meetsB s t) = M at *
      cases L
      · have hR := Lib.hid (show sqOk w h sl = false from hR0.out.trans (slabsOk_no hlt (hpt.out.trans (by simp))))
        clear hpt hbn hst
        refine wp_region_held_drew (S := (VsS W2 W.heap.size wo.heap.size w h (.slice (some ⟨b, o, none⟩) sl.length cap) s)) (by kernel_rfl) ?r1_hS0 (fun hHeld => ?r1_rest)
        case r1_hS0 => (try dsimp only); first | assumption | exact VsS.keep hlw2 hcw (by assumption) ((Below.refl _ _).drew) | exact VsS.keep hlw2 hcw (by assumption) (by assumption)
        refine wpAnyH_take (i := 0) (v := ?r1_vv0) (by (simp only [List.getElem?_toArray, List.getElem?_cons_succ, List.getElem?_cons_zero]; rfl)) (by kernel_rfl) (by kernel_rfl) (by kernel_rfl) (by exact fun _ _ _ h => h) (Or.inl ⟨by rfl, ?r1_hy0⟩) (by assumption) ?r1_rest0
        case r1_hy0 => intro w hSw; (try dsimp only at hSw); (go_simp <;> (with_reducible rfl))
        try simp only [Act.put, List.setIfInBounds_toArray, List.set_cons_zero, List.set_cons_succ]
        refine wpAnyH_take (i := 1) (v := ?r1_vv1) (by (simp only [List.getElem?_toArray, List.getElem?_cons_succ, List.getElem?_cons_zero]; rfl)) (by kernel_rfl) (by kernel_rfl) (by kernel_rfl) (by exact fun _ _ _ h => h) (Or.inl ⟨by rfl, ?r1_hy1⟩) (by assumption) ?r1_rest1
        case r1_hy1 => intro w hSw; (try dsimp only at hSw); (go_simp <;> (with_reducible rfl))
        try simp only [Act.put, List.setIfInBounds_toArray, List.set_cons_zero, List.set_cons_succ]
        refine wpAnyH_ready (rs := [2]) (by kernel_rfl) (by simp) ?_
        refine AllReadyH.cons (by (simp only [List.getElem?_toArray, List.getElem?_cons_succ, List.getElem?_cons_zero]; rfl)) (fun K hK => ?_) AllReadyH.nil
        go_simp
        (go_at_call 158; with_reducible refine (qi.out _).mono ?_; rintro e w9 ⟨rfl, hb9⟩)
        try go_wp2_with fail
        refine hK.out _ _ ?r1_hS2 (fun hHeld => ?r1_r2)
        case r1_hS2 => (try dsimp only); first | assumption | exact VsS.keep hlw2 hcw (by assumption) ((Below.refl _ _).drew) | exact VsS.keep hlw2 hcw (by assumption) (by assumption)
        clear hK K
        try simp only [Act.put, List.setIfInBounds_toArray, List.set_cons_zero, List.set_cons_succ]
        refine wpAnyH_take (i := 3) (v := ?r1_vv3) (by (simp only [List.getElem?_toArray, List.getElem?_cons_succ, List.getElem?_cons_zero]; rfl)) (by kernel_rfl) (by kernel_rfl) (by kernel_rfl) (by exact fun _ _ _ h => h) (Or.inl ⟨by rfl, ?r1_hy3⟩) (by assumption) ?r1_rest3
        case r1_hy3 => intro w hSw; (try dsimp only at hSw); (go_simp <;> (with_reducible rfl))
        try simp only [Act.put, List.setIfInBounds_toArray, List.set_cons_zero, List.set_cons_succ]
        refine wpAnyH_take (i := 4) (v := ?r1_vv4) (by (simp only [List.getElem?_toArray, List.getElem?_cons_succ, List.getElem?_cons_zero]; rfl)) (by kernel_rfl) (by kernel_rfl) (by kernel_rfl) (by exact fun _ _ _ h => h) (Or.inl ⟨by rfl, ?r1_hy4⟩) (by assumption) ?r1_rest4
        case r1_hy4 => intro w hSw; (try dsimp only at hSw); (go_simp <;> (with_reducible rfl))
        try simp only [Act.put, List.setIfInBounds_toArray, List.set_cons_zero, List.set_cons_succ]
        refine wpAnyH_take (i := 5) (v := undef) (by (simp only [List.getElem?_toArray, List.getElem?_cons_succ, List.getElem?_cons_zero]; rfl)) (by kernel_rfl) (by kernel_rfl) (by kernel_rfl) (by exact fun _ _ _ h => h) (Or.inr ⟨by rfl, rfl⟩) (by assumption) ?_
        try simp only [Act.put, List.setIfInBounds_toArray, List.set_cons_zero, List.set_cons_succ]
        refine wpAnyH_take (i := 6) (v := undef) (by (simp only [List.getElem?_toArray, List.getElem?_cons_succ, List.getElem?_cons_zero]; rfl)) (by kernel_rfl) (by kernel_rfl) (by kernel_rfl) (by exact fun _ _ _ h => h) (Or.inr ⟨by rfl, rfl⟩) (by assumption) ?_
        try simp only [Act.put, List.setIfInBounds_toArray, List.set_cons_zero, List.set_cons_succ]
        refine wpAnyH_take (i := 7) (v := undef) (by (simp only [List.getElem?_toArray, List.getElem?_cons_succ, List.getElem?_cons_zero]; rfl)) (by kernel_rfl) (by kernel_rfl) (by kernel_rfl) (by exact fun _ _ _ h => h) (Or.inr ⟨by rfl, rfl⟩) (by assumption) ?_
        try simp only [Act.put, List.setIfInBounds_toArray, List.set_cons_zero, List.set_cons_succ]
        refine wpAnyH_take (i := 8) (v := undef) (by (simp only [List.getElem?_toArray, List.getElem?_cons_succ, List.getElem?_cons_zero]; rfl)) (by kernel_rfl) (by kernel_rfl) (by kernel_rfl) (by exact fun _ _ _ h => h) (Or.inr ⟨by rfl, rfl⟩) (by assumption) ?_
        try simp only [Act.put, List.setIfInBounds_toArray, List.set_cons_zero, List.set_cons_succ]
        refine wpAnyH_take (i := 9) (v := undef) (by (simp only [List.getElem?_toArray, List.getElem?_cons_succ, List.getElem?_cons_zero]; rfl)) (by kernel_rfl) (by kernel_rfl) (by kernel_rfl) (by exact fun _ _ _ h => h) (Or.inr ⟨by rfl, rfl⟩) (by assumption) ?_
        try simp only [Act.put, List.setIfInBounds_toArray, List.set_cons_zero, List.set_cons_succ]
        refine wpAnyH_take (i := 10) (v := undef) (by (simp only [List.getElem?_toArray, List.getElem?_cons_succ, List.getElem?_cons_zero]; rfl)) (by kernel_rfl) (by kernel_rfl) (by kernel_rfl) (by exact fun _ _ _ h => h) (Or.inr ⟨by rfl, rfl⟩) (by assumption) ?_
        try simp only [Act.put, List.setIfInBounds_toArray, List.set_cons_zero, List.set_cons_succ]
        refine wpAnyH_take (i := 11) (v := undef) (by (simp only [List.getElem?_toArray, List.getElem?_cons_succ, List.getElem?_cons_zero]; rfl)) (by kernel_rfl) (by kernel_rfl) (by kernel_rfl) (by exact fun _ _ _ h => h) (Or.inr ⟨by rfl, rfl⟩) (by assumption) ?_
        try simp only [Act.put, List.setIfInBounds_toArray, List.set_cons_zero, List.set_cons_succ]
        refine wpAnyH_take (i := 12) (v := ?r1_vv12) (by (simp only [List.getElem?_toArray, List.getElem?_cons_succ, List.getElem?_cons_zero]; rfl)) (by kernel_rfl) (by kernel_rfl) (by kernel_rfl) (by exact fun _ _ _ h => h) (Or.inl ⟨by rfl, ?r1_hy12⟩) (by assumption) ?r1_rest12
        case r1_hy12 => intro w hSw; (try dsimp only at hSw); (go_simp <;> (with_reducible rfl))
        try simp only [Act.put, List.setIfInBounds_toArray, List.set_cons_zero, List.set_cons_succ]
        refine wpAnyH_take (i := 13) (v := ?r1_vv13) (by (simp only [List.getElem?_toArray, List.getElem?_cons_succ, List.getElem?_cons_zero]; rfl)) (by kernel_rfl) (by kernel_rfl) (by kernel_rfl) (by exact fun _ _ _ h => h) (Or.inl ⟨by rfl, ?r1_hy13⟩) (by assumption) ?r1_rest13
        case r1_hy13 => intro w hSw; (try dsimp only at hSw); (go_simp <;> (with_reducible rfl))
        try simp only [Act.put, List.setIfInBounds_toArray, List.set_cons_zero, List.set_cons_succ]
        refine wpAnyH_take (i := 14) (v := undef) (by (simp only [List.getElem?_toArray, List.getElem?_cons_succ, List.getElem?_cons_zero]; rfl)) (by kernel_rfl) (by kernel_rfl) (by kernel_rfl) (by exact fun _ _ _ h => h) (Or.inr ⟨by rfl, rfl⟩) (by assumption) ?_
        try simp only [Act.put, List.setIfInBounds_toArray, List.set_cons_zero, List.set_cons_succ]
        refine wpAnyH_take (i := 15) (v := undef) (by (simp only [List.getElem?_toArray, List.getElem?_cons_succ, List.getElem?_cons_zero]; rfl)) (by kernel_rfl) (by kernel_rfl) (by kernel_rfl) (by exact fun _ _ _ h => h) (Or.inr ⟨by rfl, rfl⟩) (by assumption) ?_
        try simp only [Act.put, List.setIfInBounds_toArray, List.set_cons_zero, List.set_cons_succ]
        refine wpAnyH_take (i := 16) (v := undef) (by (simp only [List.getElem?_toArray, List.getElem?_cons_succ, List.getElem?_cons_zero]; rfl)) (by kernel_rfl) (by kernel_rfl) (by kernel_rfl) (by exact fun _ _ _ h => h) (Or.inr ⟨by rfl, rfl⟩) (by assumption) ?_
        try simp only [Act.put, List.setIfInBounds_toArray, List.set_cons_zero, List.set_cons_succ]
        refine wpAnyH_take (i := 17) (v := undef) (by (simp only [List.getElem?_toArray, List.getElem?_cons_succ, List.getElem?_cons_zero]; rfl)) (by kernel_rfl) (by kernel_rfl) (by kernel_rfl) (by exact fun _ _ _ h => h) (Or.inr ⟨by rfl, rfl⟩) (by assumption) ?_
        try simp only [Act.put, List.setIfInBounds_toArray, List.set_cons_zero, List.set_cons_succ]
        refine wpAnyH_take (i := 18) (v := undef) (by (simp only [List.getElem?_toArray, List.getElem?_cons_succ, List.getElem?_cons_zero]; rfl)) (by kernel_rfl) (by kernel_rfl) (by kernel_rfl) (by exact fun _ _ _ h => h) (Or.inr ⟨by rfl, rfl⟩) (by assumption) ?_
        try simp only [Act.put, List.setIfInBounds_toArray, List.set_cons_zero, List.set_cons_succ]
        refine wpAnyH_take (i := 19) (v := undef) (by (simp only [List.getElem?_toArray, List.getElem?_cons_succ, List.getElem?_cons_zero]; rfl)) (by kernel_rfl) (by kernel_rfl) (by kernel_rfl) (by exact fun _ _ _ h => h) (Or.inr ⟨by rfl, rfl⟩) (by assumption) ?_
        try simp only [Act.put, List.setIfInBounds_toArray, List.set_cons_zero, List.set_cons_succ]
        refine wpAnyH_take (i := 20) (v := undef) (by (simp only [List.getElem?_toArray, List.getElem?_cons_succ, List.getElem?_cons_zero]; rfl)) (by kernel_rfl) (by kernel_rfl) (by kernel_rfl) (by exact fun _ _ _ h => h) (Or.inr ⟨by rfl, rfl⟩) (by assumption) ?_
        try simp only [Act.put, List.setIfInBounds_toArray, List.set_cons_zero, List.set_cons_succ]
        refine wpAnyH_take (i := 21) (v := undef) (by (simp only [List.getElem?_toArray, List.getElem?_cons_succ, List.getElem?_cons_zero]; rfl)) (by kernel_rfl) (by kernel_rfl) (by kernel_rfl) (by exact fun _ _ _ h => h) (Or.inr ⟨by rfl, rfl⟩) (by assumption) ?_
        try simp only [Act.put, List.setIfInBounds_toArray, List.set_cons_zero, List.set_cons_succ]
        refine wpAnyH_take (i := 22) (v := undef) (by (simp only [List.getElem?_toArray, List.getElem?_cons_succ, List.getElem?_cons_zero]; rfl)) (by kernel_rfl) (by kernel_rfl) (by kernel_rfl) (by exact fun _ _ _ h => h) (Or.inr ⟨by rfl, rfl⟩) (by assumption) ?_
        try simp only [Act.put, List.setIfInBounds_toArray, List.set_cons_zero, List.set_cons_succ]
        refine wpAnyH_take (i := 23) (v := undef) (by (simp only [List.getElem?_toArray, List.getElem?_cons_succ, List.getElem?_cons_zero]; rfl)) (by kernel_rfl) (by kernel_rfl) (by kernel_rfl) (by exact fun _ _ _ h => h) (Or.inr ⟨by rfl, rfl⟩) (by assumption) ?_
        try simp only [Act.put, List.setIfInBounds_toArray, List.set_cons_zero, List.set_cons_succ]
        refine wpAnyH_take (i := 24) (v := undef) (by (simp only [List.getElem?_toArray, List.getElem?_cons_succ, List.getElem?_cons_zero]; rfl)) (by kernel_rfl) (by kernel_rfl) (by kernel_rfl) (by exact fun _ _ _ h => h) (Or.inr ⟨by rfl, rfl⟩) (by assumption) ?_
        try simp only [Act.put, List.setIfInBounds_toArray, List.set_cons_zero, List.set_cons_succ]
        refine wpAnyH_take (i := 25) (v := undef) (by (simp only [List.getElem?_toArray, List.getElem?_cons_succ, List.getElem?_cons_zero]; rfl)) (by kernel_rfl) (by kernel_rfl) (by kernel_rfl) (by exact fun _ _ _ h => h) (Or.inr ⟨by rfl, rfl⟩) (by assumption) ?_
        try simp only [Act.put, List.setIfInBounds_toArray, List.set_cons_zero, List.set_cons_succ]
        refine wpAnyH_take (i := 26) (v := undef) (by (simp only [List.getElem?_toArray, List.getElem?_cons_succ, List.getElem?_cons_zero]; rfl)) (by kernel_rfl) (by kernel_rfl) (by kernel_rfl) (by exact fun _ _ _ h => h) (Or.inr ⟨by rfl, rfl⟩) (by assumption) ?_
        try simp only [Act.put, List.setIfInBounds_toArray, List.set_cons_zero, List.set_cons_succ]
        refine wpAnyH_take (i := 27) (v := ?r1_vv27) (by (simp only [List.getElem?_toArray, List.getElem?_cons_succ, List.getElem?_cons_zero]; rfl)) (by kernel_rfl) (by kernel_rfl) (by kernel_rfl) (by exact fun _ _ _ h => h) (Or.inl ⟨by rfl, ?r1_hy27⟩) (by assumption) ?r1_rest27
        case r1_hy27 => intro w hSw; (try dsimp only at hSw); (go_simp <;> (with_reducible rfl))
        try simp only [Act.put, List.setIfInBounds_toArray, List.set_cons_zero, List.set_cons_succ]
        refine wpAnyH_done (by kernel_rfl) ?_ _
        have HB9 := Lib.hid (show Below W2.heap.size W2 _ from And.left (b := _) (by assumption))
        go_wp2_with fail
        go_ret
        exact ⟨ret_bool hR.out.symm, hbe.out.trans (HB9.out.mono hbe.out.size)⟩
      cases M
      case true =>
        have hR := Lib.hid (show sqOk w h sl = false from hR0.out.trans (slabsOk_no hlt (hpt.out.trans (by simp))))
        clear hpt hbn hst
        refine wp_region_held_drew (S := (VsS W2 W.heap.size wo.heap.size w h (.slice (some ⟨b, o, none⟩) sl.length cap) s)) (by kernel_rfl) ?r2_hS0 (fun hHeld => ?r2_rest)
        case r2_hS0 => (try dsimp only); first | assumption | exact VsS.keep hlw2 hcw (by assumption) ((Below.refl _ _).drew) | exact VsS.keep hlw2 hcw (by assumption) (by assumption)
        refine wpAnyH_take (i := 0) (v := ?r2_vv0) (by (simp only [List.getElem?_toArray, List.getElem?_cons_succ, List.getElem?_cons_zero]; rfl)) (by kernel_rfl) (by kernel_rfl) (by kernel_rfl) (by exact fun _ _ _ h => h) (Or.inl ⟨by rfl, ?r2_hy0⟩) (by assumption) ?r2_rest0
        case r2_hy0 => intro w hSw; (try dsimp only at hSw); (go_simp <;> (with_reducible rfl))
        try simp only [Act.put, List.setIfInBounds_toArray, List.set_cons_zero, List.set_cons_succ]
        refine wpAnyH_take (i := 1) (v := ?r2_vv1) (by (simp only [List.getElem?_toArray, List.getElem?_cons_succ, List.getElem?_cons_zero]; rfl)) (by kernel_rfl) (by kernel_rfl) (by kernel_rfl) (by exact fun _ _ _ h => h) (Or.inl ⟨by rfl, ?r2_hy1⟩) (by assumption) ?r2_rest1
        case r2_hy1 => intro w hSw; (try dsimp only at hSw); (go_simp <;> (with_reducible rfl))
        try simp only [Act.put, List.setIfInBounds_toArray, List.set_cons_zero, List.set_cons_succ]
        refine wpAnyH_ready (rs := [2]) (by kernel_rfl) (by simp) ?_
        refine AllReadyH.cons (by (simp only [List.getElem?_toArray, List.getElem?_cons_succ, List.getElem?_cons_zero]; rfl)) (fun K hK => ?_) AllReadyH.nil
        go_simp
        (go_at_call 158; with_reducible refine (qi.out _).mono ?_; rintro e w9 ⟨rfl, hb9⟩)
        try go_wp2_with fail
        refine hK.out _ _ ?r2_hS2 (fun hHeld => ?r2_r2)
        case r2_hS2 => (try dsimp only); first | assumption | exact VsS.keep hlw2 hcw (by assumption) ((Below.refl _ _).drew) | exact VsS.keep hlw2 hcw (by assumption) (by assumption)
        clear hK K
        try simp only [Act.put, List.setIfInBounds_toArray, List.set_cons_zero, List.set_cons_succ]
        refine wpAnyH_take (i := 3) (v := ?r2_vv3) (by (simp only [List.getElem?_toArray, List.getElem?_cons_succ, List.getElem?_cons_zero]; rfl)) (by kernel_rfl) (by kernel_rfl) (by kernel_rfl) (by exact fun _ _ _ h => h) (Or.inl ⟨by rfl, ?r2_hy3⟩) (by assumption) ?r2_rest3
        case r2_hy3 => intro w hSw; (try dsimp only at hSw); (go_simp <;> (with_reducible rfl))
        try simp only [Act.put, List.setIfInBounds_toArray, List.set_cons_zero, List.set_cons_succ]
        refine wpAnyH_take (i := 4) (v := ?r2_vv4) (by (simp only [List.getElem?_toArray, List.getElem?_cons_succ, List.getElem?_cons_zero]; rfl)) (by kernel_rfl) (by kernel_rfl) (by kernel_rfl) (by exact fun _ _ _ h => h) (Or.inl ⟨by rfl, ?r2_hy4⟩) (by assumption) ?r2_rest4
        case r2_hy4 => intro w hSw; (try dsimp only at hSw); (go_simp <;> (with_reducible rfl))
        try simp only [Act.put, List.setIfInBounds_toArray, List.set_cons_zero, List.set_cons_succ]
        refine wpAnyH_take (i := 5) (v := ?r2_vv5) (by (simp only [List.getElem?_toArray, List.getElem?_cons_succ, List.getElem?_cons_zero]; rfl)) (by kernel_rfl) (by kernel_rfl) (by kernel_rfl) (by exact fun _ _ _ h => h) (Or.inl ⟨by rfl, ?r2_hy5⟩) (by assumption) ?r2_rest5
        case r2_hy5 => intro w hSw; (try dsimp only at hSw); (go_simp <;> (with_reducible rfl))
        try simp only [Act.put, List.setIfInBounds_toArray, List.set_cons_zero, List.set_cons_succ]
        refine wpAnyH_take (i := 6) (v := ?r2_vv6) (by (simp only [List.getElem?_toArray, List.getElem?_cons_succ, List.getElem?_cons_zero]; rfl)) (by kernel_rfl) (by kernel_rfl) (by kernel_rfl) (by exact fun _ _ _ h => h) (Or.inl ⟨by rfl, ?r2_hy6⟩) (by assumption) ?r2_rest6
        case r2_hy6 => intro w hSw; (try dsimp only at hSw); (go_simp <;> (with_reducible rfl))
        try simp only [Act.put, List.setIfInBounds_toArray, List.set_cons_zero, List.set_cons_succ]
        refine wpAnyH_take (i := 7) (v := ?r2_vv7) (by (simp only [List.getElem?_toArray, List.getElem?_cons_succ, List.getElem?_cons_zero]; rfl)) (by kernel_rfl) (by kernel_rfl) (by kernel_rfl) (by exact fun _ _ _ h => h) (Or.inl ⟨by rfl, ?r2_hy7⟩) (by assumption) ?r2_rest7
        case r2_hy7 => intro w hSw; (try dsimp only at hSw); (go_simp <;> (with_reducible rfl))
        try simp only [Act.put, List.setIfInBounds_toArray, List.set_cons_zero, List.set_cons_succ]
        refine wpAnyH_take (i := 8) (v := ?r2_vv8) (by (simp only [List.getElem?_toArray, List.getElem?_cons_succ, List.getElem?_cons_zero]; rfl)) (by kernel_rfl) (by kernel_rfl) (by kernel_rfl) (by exact fun _ _ _ h => h) (Or.inl ⟨by rfl, ?r2_hy8⟩) (by assumption) ?r2_rest8
        case r2_hy8 => intro w hSw; (try dsimp only at hSw); (go_simp <;> (with_reducible rfl))
        try simp only [Act.put, List.setIfInBounds_toArray, List.set_cons_zero, List.set_cons_succ]
        refine wpAnyH_take (i := 9) (v := ?r2_vv9) (by (simp only [List.getElem?_toArray, List.getElem?_cons_succ, List.getElem?_cons_zero]; rfl)) (by kernel_rfl) (by kernel_rfl) (by kernel_rfl) (by exact fun _ _ _ h => h) (Or.inl ⟨by rfl, ?r2_hy9⟩) (by assumption) ?r2_rest9
        case r2_hy9 => intro w hSw; (try dsimp only at hSw); (go_simp <;> (with_reducible rfl))
        try simp only [Act.put, List.setIfInBounds_toArray, List.set_cons_zero, List.set_cons_succ]
        refine wpAnyH_take (i := 10) (v := ?r2_vv10) (by (simp only [List.getElem?_toArray, List.getElem?_cons_succ, List.getElem?_cons_zero]; rfl)) (by kernel_rfl) (by kernel_rfl) (by kernel_rfl) (by exact fun _ _ _ h => h) (Or.inl ⟨by rfl, ?r2_hy10⟩) (by assumption) ?r2_rest10
        case r2_hy10 => intro w hSw; (try dsimp only at hSw); (go_simp <;> (with_reducible rfl))
        try simp only [Act.put, List.setIfInBounds_toArray, List.set_cons_zero, List.set_cons_succ]
        refine wpAnyH_ready (rs := [11]) (by kernel_rfl) (by simp) ?_
        refine AllReadyH.cons (by (simp only [List.getElem?_toArray, List.getElem?_cons_succ, List.getElem?_cons_zero]; rfl)) (fun K hK => ?_) AllReadyH.nil
        go_simp
        (go_at_call 159; with_reducible refine (qc.out _ (And.left (b := _) (by assumption))).mono ?_; rintro e w10 ⟨rfl, hb10⟩)
        try go_wp2_with fail
        refine hK.out _ _ ?r2_hS11 (fun hHeld => ?r2_r11)
        case r2_hS11 => (try dsimp only); first | assumption | exact VsS.keep hlw2 hcw (by assumption) ((Below.refl _ _).drew) | exact VsS.keep hlw2 hcw (by assumption) (by assumption)
        clear hK K
        try simp only [Act.put, List.setIfInBounds_toArray, List.set_cons_zero, List.set_cons_succ]
        refine wpAnyH_take (i := 12) (v := ?r2_vv12) (by (simp only [List.getElem?_toArray, List.getElem?_cons_succ, List.getElem?_cons_zero]; rfl)) (by kernel_rfl) (by kernel_rfl) (by kernel_rfl) (by exact fun _ _ _ h => h) (Or.inl ⟨by rfl, ?r2_hy12⟩) (by assumption) ?r2_rest12
        case r2_hy12 => intro w hSw; (try dsimp only at hSw); (go_simp <;> (with_reducible rfl))
        try simp only [Act.put, List.setIfInBounds_toArray, List.set_cons_zero, List.set_cons_succ]
        refine wpAnyH_take (i := 13) (v := ?r2_vv13) (by (simp only [List.getElem?_toArray, List.getElem?_cons_succ, List.getElem?_cons_zero]; rfl)) (by kernel_rfl) (by kernel_rfl) (by kernel_rfl) (by exact fun _ _ _ h => h) (Or.inl ⟨by rfl, ?r2_hy13⟩) (by assumption) ?r2_rest13
        case r2_hy13 => intro w hSw; (try dsimp only at hSw); (go_simp <;> (with_reducible rfl))
        try simp only [Act.put, List.setIfInBounds_toArray, List.set_cons_zero, List.set_cons_succ]
        refine wpAnyH_take (i := 14) (v := undef) (by (simp only [List.getElem?_toArray, List.getElem?_cons_succ, List.getElem?_cons_zero]; rfl)) (by kernel_rfl) (by kernel_rfl) (by kernel_rfl) (by exact fun _ _ _ h => h) (Or.inr ⟨by rfl, rfl⟩) (by assumption) ?_
        try simp only [Act.put, List.setIfInBounds_toArray, List.set_cons_zero, List.set_cons_succ]
        refine wpAnyH_take (i := 15) (v := undef) (by (simp only [List.getElem?_toArray, List.getElem?_cons_succ, List.getElem?_cons_zero]; rfl)) (by kernel_rfl) (by kernel_rfl) (by kernel_rfl) (by exact fun _ _ _ h => h) (Or.inr ⟨by rfl, rfl⟩) (by assumption) ?_
        try simp only [Act.put, List.setIfInBounds_toArray, List.set_cons_zero, List.set_cons_succ]
        refine wpAnyH_take (i := 16) (v := undef) (by (simp only [List.getElem?_toArray, List.getElem?_cons_succ, List.getElem?_cons_zero]; rfl)) (by kernel_rfl) (by kernel_rfl) (by kernel_rfl) (by exact fun _ _ _ h => h) (Or.inr ⟨by rfl, rfl⟩) (by assumption) ?_
        try simp only [Act.put, List.setIfInBounds_toArray, List.set_cons_zero, List.set_cons_succ]
        refine wpAnyH_take (i := 17) (v := undef) (by (simp only [List.getElem?_toArray, List.getElem?_cons_succ, List.getElem?_cons_zero]; rfl)) (by kernel_rfl) (by kernel_rfl) (by kernel_rfl) (by exact fun _ _ _ h => h) (Or.inr ⟨by rfl, rfl⟩) (by assumption) ?_
        try simp only [Act.put, List.setIfInBounds_toArray, List.set_cons_zero, List.set_cons_succ]
        refine wpAnyH_take (i := 18) (v := undef) (by (simp only [List.getElem?_toArray, List.getElem?_cons_succ, List.getElem?_cons_zero]; rfl)) (by kernel_rfl) (by kernel_rfl) (by kernel_rfl) (by exact fun _ _ _ h => h) (Or.inr ⟨by rfl, rfl⟩) (by assumption) ?_
        try simp only [Act.put, List.setIfInBounds_toArray, List.set_cons_zero, List.set_cons_succ]
        refine wpAnyH_take (i := 19) (v := undef) (by (simp only [List.getElem?_toArray, List.getElem?_cons_succ, List.getElem?_cons_zero]; rfl)) (by kernel_rfl) (by kernel_rfl) (by kernel_rfl) (by exact fun _ _ _ h => h) (Or.inr ⟨by rfl, rfl⟩) (by assumption) ?_
        try simp only [Act.put, List.setIfInBounds_toArray, List.set_cons_zero, List.set_cons_succ]
        refine wpAnyH_take (i := 20) (v := undef) (by (simp only [List.getElem?_toArray, List.getElem?_cons_succ, List.getElem?_cons_zero]; rfl)) (by kernel_rfl) (by kernel_rfl) (by kernel_rfl) (by exact fun _ _ _ h => h) (Or.inr ⟨by rfl, rfl⟩) (by assumption) ?_
        try simp only [Act.put, List.setIfInBounds_toArray, List.set_cons_zero, List.set_cons_succ]
        refine wpAnyH_take (i := 21) (v := undef) (by (simp only [List.getElem?_toArray, List.getElem?_cons_succ, List.getElem?_cons_zero]; rfl)) (by kernel_rfl) (by kernel_rfl) (by kernel_rfl) (by exact fun _ _ _ h => h) (Or.inr ⟨by rfl, rfl⟩) (by assumption) ?_
        try simp only [Act.put, List.setIfInBounds_toArray, List.set_cons_zero, List.set_cons_succ]
        refine wpAnyH_take (i := 22) (v := undef) (by (simp only [List.getElem?_toArray, List.getElem?_cons_succ, List.getElem?_cons_zero]; rfl)) (by kernel_rfl) (by kernel_rfl) (by kernel_rfl) (by exact fun _ _ _ h => h) (Or.inr ⟨by rfl, rfl⟩) (by assumption) ?_
        try simp only [Act.put, List.setIfInBounds_toArray, List.set_cons_zero, List.set_cons_succ]
        refine wpAnyH_take (i := 23) (v := undef) (by (simp only [List.getElem?_toArray, List.getElem?_cons_succ, List.getElem?_cons_zero]; rfl)) (by kernel_rfl) (by kernel_rfl) (by kernel_rfl) (by exact fun _ _ _ h => h) (Or.inr ⟨by rfl, rfl⟩) (by assumption) ?_
        try simp only [Act.put, List.setIfInBounds_toArray, List.set_cons_zero, List.set_cons_succ]
        refine wpAnyH_take (i := 24) (v := undef) (by (simp only [List.getElem?_toArray, List.getElem?_cons_succ, List.getElem?_cons_zero]; rfl)) (by kernel_rfl) (by kernel_rfl) (by kernel_rfl) (by exact fun _ _ _ h => h) (Or.inr ⟨by rfl, rfl⟩) (by assumption) ?_
        try simp only [Act.put, List.setIfInBounds_toArray, List.set_cons_zero, List.set_cons_succ]
        refine wpAnyH_take (i := 25) (v := undef) (by (simp only [List.getElem?_toArray, List.getElem?_cons_succ, List.getElem?_cons_zero]; rfl)) (by kernel_rfl) (by kernel_rfl) (by kernel_rfl) (by exact fun _ _ _ h => h) (Or.inr ⟨by rfl, rfl⟩) (by assumption) ?_
        try simp only [Act.put, List.setIfInBounds_toArray, List.set_cons_zero, List.set_cons_succ]
        refine wpAnyH_take (i := 26) (v := undef) (by (simp only [List.getElem?_toArray, List.getElem?_cons_succ, List.getElem?_cons_zero]; rfl)) (by kernel_rfl) (by kernel_rfl) (by kernel_rfl) (by exact fun _ _ _ h => h) (Or.inr ⟨by rfl, rfl⟩) (by assumption) ?_
        try simp only [Act.put, List.setIfInBounds_toArray, List.set_cons_zero, List.set_cons_succ]
        refine wpAnyH_take (i := 27) (v := ?r2_vv27) (by (simp only [List.getElem?_toArray, List.getElem?_cons_succ, List.getElem?_cons_zero]; rfl)) (by kernel_rfl) (by kernel_rfl) (by kernel_rfl) (by exact fun _ _ _ h => h) (Or.inl ⟨by rfl, ?r2_hy27⟩) (by assumption) ?r2_rest27
        case r2_hy27 => intro w hSw; (try dsimp only at hSw); (go_simp <;> (with_reducible rfl))
        try simp only [Act.put, List.setIfInBounds_toArray, List.set_cons_zero, List.set_cons_succ]
        refine wpAnyH_done (by kernel_rfl) ?_ _
        have HB9 := Lib.hid (show Below W2.heap.size W2 _ from And.left (b := _) (by assumption))
        go_wp2_with fail
        go_ret
        exact ⟨ret_bool hR.out.symm, hbe.out.trans (HB9.out.mono hbe.out.size)⟩
      rcases Nat.eq_zero_or_pos k with rfl | hk0
      · have hR := Lib.hid (show slabsOk w h sl (0 + 1) = true from by rw [hst.out, HOK.out, hpt.out]; simp)
        have hd0 : decide ((0 : Int) < ((0 : Nat) : Int)) = false := by decide
        clear hpt hbn hst
        refine wp_region_held_drew (S := (VsS W2 W.heap.size wo.heap.size w h (.slice (some ⟨b, o, none⟩) sl.length cap) s)) (by kernel_rfl) ?r3_hS0 (fun hHeld => ?r3_rest)
        case r3_hS0 => (try dsimp only); first | assumption | exact VsS.keep hlw2 hcw (by assumption) ((Below.refl _ _).drew) | exact VsS.keep hlw2 hcw (by assumption) (by assumption)
        refine wpAnyH_take (i := 0) (v := ?r3_vv0) (by (simp only [List.getElem?_toArray, List.getElem?_cons_succ, List.getElem?_cons_zero]; rfl)) (by kernel_rfl) (by kernel_rfl) (by kernel_rfl) (by exact fun _ _ _ h => h) (Or.inl ⟨by rfl, ?r3_hy0⟩) (by assumption) ?r3_rest0
        case r3_hy0 => intro w hSw; (try dsimp only at hSw); (go_simp <;> (with_reducible rfl))
        try simp only [Act.put, List.setIfInBounds_toArray, List.set_cons_zero, List.set_cons_succ]
        refine wpAnyH_take (i := 1) (v := ?r3_vv1) (by (simp only [List.getElem?_toArray, List.getElem?_cons_succ, List.getElem?_cons_zero]; rfl)) (by kernel_rfl) (by kernel_rfl) (by kernel_rfl) (by exact fun _ _ _ h => h) (Or.inl ⟨by rfl, ?r3_hy1⟩) (by assumption) ?r3_rest1
        case r3_hy1 => intro w hSw; (try dsimp only at hSw); (go_simp <;> (with_reducible rfl))
        try simp only [Act.put, List.setIfInBounds_toArray, List.set_cons_zero, List.set_cons_succ]
        refine wpAnyH_ready (rs := [2]) (by kernel_rfl) (by simp) ?_
        refine AllReadyH.cons (by (simp only [List.getElem?_toArray, List.getElem?_cons_succ, List.getElem?_cons_zero]; rfl)) (fun K hK => ?_) AllReadyH.nil
        go_simp
        (go_at_call 158; with_reducible refine (qi.out _).mono ?_; rintro e w9 ⟨rfl, hb9⟩)
        try go_wp2_with fail
        refine hK.out _ _ ?r3_hS2 (fun hHeld => ?r3_r2)
        case r3_hS2 => (try dsimp only); first | assumption | exact VsS.keep hlw2 hcw (by assumption) ((Below.refl _ _).drew) | exact VsS.keep hlw2 hcw (by assumption) (by assumption)
        clear hK K
        try simp only [Act.put, List.setIfInBounds_toArray, List.set_cons_zero, List.set_cons_succ]
        refine wpAnyH_take (i := 3) (v := ?r3_vv3) (by (simp only [List.getElem?_toArray, List.getElem?_cons_succ, List.getElem?_cons_zero]; rfl)) (by kernel_rfl) (by kernel_rfl) (by kernel_rfl) (by exact fun _ _ _ h => h) (Or.inl ⟨by rfl, ?r3_hy3⟩) (by assumption) ?r3_rest3
        case r3_hy3 => intro w hSw; (try dsimp only at hSw); (go_simp <;> (with_reducible rfl))
        try simp only [Act.put, List.setIfInBounds_toArray, List.set_cons_zero, List.set_cons_succ]
        refine wpAnyH_take (i := 4) (v := ?r3_vv4) (by (simp only [List.getElem?_toArray, List.getElem?_cons_succ, List.getElem?_cons_zero]; rfl)) (by kernel_rfl) (by kernel_rfl) (by kernel_rfl) (by exact fun _ _ _ h => h) (Or.inl ⟨by rfl, ?r3_hy4⟩) (by assumption) ?r3_rest4
        case r3_hy4 => intro w hSw; (try dsimp only at hSw); (go_simp <;> (with_reducible rfl))
        try simp only [Act.put, List.setIfInBounds_toArray, List.set_cons_zero, List.set_cons_succ]
        refine wpAnyH_take (i := 5) (v := ?r3_vv5) (by (simp only [List.getElem?_toArray, List.getElem?_cons_succ, List.getElem?_cons_zero]; rfl)) (by kernel_rfl) (by kernel_rfl) (by kernel_rfl) (by exact fun _ _ _ h => h) (Or.inl ⟨by rfl, ?r3_hy5⟩) (by assumption) ?r3_rest5
        case r3_hy5 => intro w hSw; (try dsimp only at hSw); (go_simp <;> (with_reducible rfl))
        try simp only [Act.put, List.setIfInBounds_toArray, List.set_cons_zero, List.set_cons_succ]
        refine wpAnyH_take (i := 6) (v := ?r3_vv6) (by (simp only [List.getElem?_toArray, List.getElem?_cons_succ, List.getElem?_cons_zero]; rfl)) (by kernel_rfl) (by kernel_rfl) (by kernel_rfl) (by exact fun _ _ _ h => h) (Or.inl ⟨by rfl, ?r3_hy6⟩) (by assumption) ?r3_rest6
        case r3_hy6 => intro w hSw; (try dsimp only at hSw); (go_simp <;> (with_reducible rfl))
        try simp only [Act.put, List.setIfInBounds_toArray, List.set_cons_zero, List.set_cons_succ]
        refine wpAnyH_take (i := 7) (v := ?r3_vv7) (by (simp only [List.getElem?_toArray, List.getElem?_cons_succ, List.getElem?_cons_zero]; rfl)) (by kernel_rfl) (by kernel_rfl) (by kernel_rfl) (by exact fun _ _ _ h => h) (Or.inl ⟨by rfl, ?r3_hy7⟩) (by assumption) ?r3_rest7
        case r3_hy7 => intro w hSw; (try dsimp only at hSw); (go_simp <;> (with_reducible rfl))
        try simp only [Act.put, List.setIfInBounds_toArray, List.set_cons_zero, List.set_cons_succ]
        refine wpAnyH_take (i := 8) (v := ?r3_vv8) (by (simp only [List.getElem?_toArray, List.getElem?_cons_succ, List.getElem?_cons_zero]; rfl)) (by kernel_rfl) (by kernel_rfl) (by kernel_rfl) (by exact fun _ _ _ h => h) (Or.inl ⟨by rfl, ?r3_hy8⟩) (by assumption) ?r3_rest8
        case r3_hy8 => intro w hSw; (try dsimp only at hSw); (go_simp <;> (with_reducible rfl))
        try simp only [Act.put, List.setIfInBounds_toArray, List.set_cons_zero, List.set_cons_succ]
        refine wpAnyH_take (i := 9) (v := ?r3_vv9) (by (simp only [List.getElem?_toArray, List.getElem?_cons_succ, List.getElem?_cons_zero]; rfl)) (by kernel_rfl) (by kernel_rfl) (by kernel_rfl) (by exact fun _ _ _ h => h) (Or.inl ⟨by rfl, ?r3_hy9⟩) (by assumption) ?r3_rest9
        case r3_hy9 => intro w hSw; (try dsimp only at hSw); (go_simp <;> (with_reducible rfl))
        try simp only [Act.put, List.setIfInBounds_toArray, List.set_cons_zero, List.set_cons_succ]
        refine wpAnyH_take (i := 10) (v := ?r3_vv10) (by (simp only [List.getElem?_toArray, List.getElem?_cons_succ, List.getElem?_cons_zero]; rfl)) (by kernel_rfl) (by kernel_rfl) (by kernel_rfl) (by exact fun _ _ _ h => h) (Or.inl ⟨by rfl, ?r3_hy10⟩) (by assumption) ?r3_rest10
        case r3_hy10 => intro w hSw; (try dsimp only at hSw); (go_simp <;> (with_reducible rfl))
        try simp only [Act.put, List.setIfInBounds_toArray, List.set_cons_zero, List.set_cons_succ]
        refine wpAnyH_ready (rs := [11]) (by kernel_rfl) (by simp) ?_
        refine AllReadyH.cons (by (simp only [List.getElem?_toArray, List.getElem?_cons_succ, List.getElem?_cons_zero]; rfl)) (fun K hK => ?_) AllReadyH.nil
        go_simp
        (go_at_call 159; with_reducible refine (qc.out _ (And.left (b := _) (by assumption))).mono ?_; rintro e w10 ⟨rfl, hb10⟩)
        try go_wp2_with fail
        refine hK.out _ _ ?r3_hS11 (fun hHeld => ?r3_r11)
        case r3_hS11 => (try dsimp only); first | assumption | exact VsS.keep hlw2 hcw (by assumption) ((Below.refl _ _).drew) | exact VsS.keep hlw2 hcw (by assumption) (by assumption)
        clear hK K
        try simp only [Act.put, List.setIfInBounds_toArray, List.set_cons_zero, List.set_cons_succ]
        refine wpAnyH_take (i := 12) (v := ?r3_vv12) (by (simp only [List.getElem?_toArray, List.getElem?_cons_succ, List.getElem?_cons_zero]; rfl)) (by kernel_rfl) (by kernel_rfl) (by kernel_rfl) (by exact fun _ _ _ h => h) (Or.inl ⟨by rfl, ?r3_hy12⟩) (by assumption) ?r3_rest12
        case r3_hy12 => intro w hSw; (try dsimp only at hSw); (go_simp <;> (with_reducible rfl))
        try simp only [Act.put, List.setIfInBounds_toArray, List.set_cons_zero, List.set_cons_succ]
        refine wpAnyH_take (i := 13) (v := ?r3_vv13) (by (simp only [List.getElem?_toArray, List.getElem?_cons_succ, List.getElem?_cons_zero]; rfl)) (by kernel_rfl) (by kernel_rfl) (by kernel_rfl) (by exact fun _ _ _ h => h) (Or.inl ⟨by rfl, ?r3_hy13⟩) (by assumption) ?r3_rest13
        case r3_hy13 => intro w hSw; (try dsimp only at hSw); (go_simp <;> (with_reducible rfl))
        try simp only [Act.put, List.setIfInBounds_toArray, List.set_cons_zero, List.set_cons_succ]
        refine wpAnyH_take (i := 14) (v := ?r3_vv14) (by (simp only [List.getElem?_toArray, List.getElem?_cons_succ, List.getElem?_cons_zero]; rfl)) (by kernel_rfl) (by kernel_rfl) (by kernel_rfl) (by exact fun _ _ _ h => h) (Or.inl ⟨by rfl, ?r3_hy14⟩) (by assumption) ?r3_rest14
        case r3_hy14 => intro w hSw; (try dsimp only at hSw); (go_simp <;> (with_reducible rfl))
        try simp only [Act.put, List.setIfInBounds_toArray, List.set_cons_zero, List.set_cons_succ]
        refine wpAnyH_take (i := 15) (v := ?r3_vv15) (by (simp only [List.getElem?_toArray, List.getElem?_cons_succ, List.getElem?_cons_zero]; rfl)) (by kernel_rfl) (by kernel_rfl) (by kernel_rfl) (by exact fun _ _ _ h => h) (Or.inl ⟨by rfl, ?r3_hy15⟩) (by assumption) ?r3_rest15
        case r3_hy15 => intro w hSw; (try dsimp only at hSw); (go_simp <;> (with_reducible rfl))
        try simp only [Act.put, List.setIfInBounds_toArray, List.set_cons_zero, List.set_cons_succ]
        refine wpAnyH_take (i := 16) (v := ?r3_vv16) (by (simp only [List.getElem?_toArray, List.getElem?_cons_succ, List.getElem?_cons_zero]; rfl)) (by kernel_rfl) (by kernel_rfl) (by kernel_rfl) (by exact fun _ _ _ h => h) (Or.inl ⟨by rfl, ?r3_hy16⟩) (by assumption) ?r3_rest16
        case r3_hy16 => intro w hSw; (try dsimp only at hSw); (go_simp <;> (with_reducible rfl))
        try simp only [Act.put, List.setIfInBounds_toArray, List.set_cons_zero, List.set_cons_succ]
        refine wpAnyH_take (i := 17) (v := undef) (by (simp only [List.getElem?_toArray, List.getElem?_cons_succ, List.getElem?_cons_zero]; rfl)) (by kernel_rfl) (by kernel_rfl) (by kernel_rfl) (by exact fun _ _ _ h => h) (Or.inr ⟨by rfl, rfl⟩) (by assumption) ?_
        try simp only [Act.put, List.setIfInBounds_toArray, List.set_cons_zero, List.set_cons_succ]
        refine wpAnyH_take (i := 18) (v := undef) (by (simp only [List.getElem?_toArray, List.getElem?_cons_succ, List.getElem?_cons_zero]; rfl)) (by kernel_rfl) (by kernel_rfl) (by kernel_rfl) (by exact fun _ _ _ h => h) (Or.inr ⟨by rfl, rfl⟩) (by assumption) ?_
        try simp only [Act.put, List.setIfInBounds_toArray, List.set_cons_zero, List.set_cons_succ]
        refine wpAnyH_take (i := 19) (v := undef) (by (simp only [List.getElem?_toArray, List.getElem?_cons_succ, List.getElem?_cons_zero]; rfl)) (by kernel_rfl) (by kernel_rfl) (by kernel_rfl) (by exact fun _ _ _ h => h) (Or.inr ⟨by rfl, rfl⟩) (by assumption) ?_
        try simp only [Act.put, List.setIfInBounds_toArray, List.set_cons_zero, List.set_cons_succ]
        refine wpAnyH_take (i := 20) (v := undef) (by (simp only [List.getElem?_toArray, List.getElem?_cons_succ, List.getElem?_cons_zero]; rfl)) (by kernel_rfl) (by kernel_rfl) (by kernel_rfl) (by exact fun _ _ _ h => h) (Or.inr ⟨by rfl, rfl⟩) (by assumption) ?_
        try simp only [Act.put, List.setIfInBounds_toArray, List.set_cons_zero, List.set_cons_succ]
        refine wpAnyH_take (i := 21) (v := undef) (by (simp only [List.getElem?_toArray, List.getElem?_cons_succ, List.getElem?_cons_zero]; rfl)) (by kernel_rfl) (by kernel_rfl) (by kernel_rfl) (by exact fun _ _ _ h => h) (Or.inr ⟨by rfl, rfl⟩) (by assumption) ?_
        try simp only [Act.put, List.setIfInBounds_toArray, List.set_cons_zero, List.set_cons_succ]
        refine wpAnyH_take (i := 22) (v := undef) (by (simp only [List.getElem?_toArray, List.getElem?_cons_succ, List.getElem?_cons_zero]; rfl)) (by kernel_rfl) (by kernel_rfl) (by kernel_rfl) (by exact fun _ _ _ h => h) (Or.inr ⟨by rfl, rfl⟩) (by assumption) ?_
        try simp only [Act.put, List.setIfInBounds_toArray, List.set_cons_zero, List.set_cons_succ]
        refine wpAnyH_take (i := 23) (v := undef) (by (simp only [List.getElem?_toArray, List.getElem?_cons_succ, List.getElem?_cons_zero]; rfl)) (by kernel_rfl) (by kernel_rfl) (by kernel_rfl) (by exact fun _ _ _ h => h) (Or.inr ⟨by rfl, rfl⟩) (by assumption) ?_
        try simp only [Act.put, List.setIfInBounds_toArray, List.set_cons_zero, List.set_cons_succ]
        refine wpAnyH_take (i := 24) (v := undef) (by (simp only [List.getElem?_toArray, List.getElem?_cons_succ, List.getElem?_cons_zero]; rfl)) (by kernel_rfl) (by kernel_rfl) (by kernel_rfl) (by exact fun _ _ _ h => h) (Or.inr ⟨by rfl, rfl⟩) (by assumption) ?_
        try simp only [Act.put, List.setIfInBounds_toArray, List.set_cons_zero, List.set_cons_succ]
        refine wpAnyH_take (i := 25) (v := undef) (by (simp only [List.getElem?_toArray, List.getElem?_cons_succ, List.getElem?_cons_zero]; rfl)) (by kernel_rfl) (by kernel_rfl) (by kernel_rfl) (by exact fun _ _ _ h => h) (Or.inr ⟨by rfl, rfl⟩) (by assumption) ?_
        try simp only [Act.put, List.setIfInBounds_toArray, List.set_cons_zero, List.set_cons_succ]
        refine wpAnyH_take (i := 26) (v := ?r3_vv26) (by (simp only [List.getElem?_toArray, List.getElem?_cons_succ, List.getElem?_cons_zero]; rfl)) (by kernel_rfl) (by kernel_rfl) (by kernel_rfl) (by exact fun _ _ _ h => h) (Or.inl ⟨by rfl, ?r3_hy26⟩) (by assumption) ?r3_rest26
        case r3_hy26 => intro w hSw; (try dsimp only at hSw); (go_simp <;> (with_reducible rfl))
        try simp only [Act.put, List.setIfInBounds_toArray, List.set_cons_zero, List.set_cons_succ]
        refine wpAnyH_take (i := 27) (v := ?r3_vv27) (by (simp only [List.getElem?_toArray, List.getElem?_cons_succ, List.getElem?_cons_zero]; rfl)) (by kernel_rfl) (by kernel_rfl) (by kernel_rfl) (by exact fun _ _ _ h => h) (Or.inl ⟨by rfl, ?r3_hy27⟩) (by assumption) ?r3_rest27
        case r3_hy27 => intro w hSw; (try dsimp only at hSw); (go_simp <;> (with_reducible rfl))
        try simp only [Act.put, List.setIfInBounds_toArray, List.set_cons_zero, List.set_cons_succ]
        refine wpAnyH_done (by kernel_rfl) ?_ _
        have HB9 := Lib.hid (show Below W2.heap.size W2 _ from And.left (b := _) (by assumption))
        go_wp2_with fail
        go_roundw
        case rel => exact ⟨0 + 1, by omega, by go_num, hR.out, hbl.out.trans (HB9.out.mono hbl.out.size)⟩
        case measure => first | (simp [intOf]; done) | (simp [intOf]; omega)
      obtain ⟨m, rfl⟩ : ∃ m, k = m + 1 := ⟨k - 1, by omega⟩
      obtain ⟨s', hs'ok, hs'd, hs'at⟩ := HP1.out hk0
      simp only [Nat.add_sub_cancel] at hs'd hs'at hpt hbn
      have hbm := Lib.hid (hbn.out (by omega) (by first | rfl | trivial) (by first | rfl | trivial))
      rw [hs'd] at hpt hbm
      have hs'2 := Slab.at_ext hs'at hq1.out hbo.out
      have hpos := Lib.hid (cmpS_pos s' s)
      have qp := Lib.hid (show ∀ W', Calls Try.prog 161 #[.agg #[.int .i8 s'.x, .int .i8 s'.y, .int .i8 s'.w, .int .i8 s'.h], .agg #[.int .i8 s.x, .int .i8 s.y, .int .i8 s.w, .int .i8 s.h]] W' (fun e w' => e = .returned (.int .i64 (cmpS s' s)) ∧ Below W'.heap.size W' w') from fun W' => cmpSlabs_calls s' s W')
      have hb2w : b < W2.heap.size := Nat.lt_of_lt_of_le hbo.out hq1.out.size
      have hS2 : VsS2 W2 W.heap.size wo.heap.size w h (.slice (some ⟨b, o, none⟩) sl.length cap) s b (o + m * 4) s' W2 := ⟨hS, hs'2⟩
      have hd0 : decide ((0 : Int) < ((m + 1 : Nat) : Int)) = true := by rw [decide_eq_true_eq]; omega
      have hm8 : (0 : Int) ≤ (m : Int) := by omega
      have hwm : IntKind.i64.wrap (m : Int) = (m : Int) := by
        exact wrapIn _ (by omega) (by omega)
      have hm10 : (0 : Int) ≤ (m : Int) + 1 := by omega
      have hm11 : (m : Int) + 1 ≤ (cap : Int) := by omega
      have hm9 : (m : Int) < (sl.length : Int) := by omega
      clear hs'd hs'at hbn hS hs'2
      generalize cmpS s' s = C at *
      cases hCC : decide ((0 : Int) < C)
      · have hR := Lib.hid (show slabsOk w h sl (m + 1 + 1) = true from by rw [hst.out, HOK.out, hpt.out, hbm.out, ← hpos.out, hCC]; simp)
        clear hpt hbm hst hpos
        refine wp_region_held_drew (S := (VsS2 W2 W.heap.size wo.heap.size w h (.slice (some ⟨b, o, none⟩) sl.length cap) s b (o + m * 4) s')) (by kernel_rfl) ?r4_hS0 (fun hHeld => ?r4_rest)
        case r4_hS0 => (try dsimp only); first | assumption | exact VsS2.keep hlw2 hcw hb2w (by assumption) ((Below.refl _ _).drew) | exact VsS2.keep hlw2 hcw hb2w (by assumption) (by assumption)
        refine wpAnyH_take (i := 0) (v := ?r4_vv0) (by (simp only [List.getElem?_toArray, List.getElem?_cons_succ, List.getElem?_cons_zero]; rfl)) (by kernel_rfl) (by kernel_rfl) (by kernel_rfl) (by exact fun _ _ _ h => h) (Or.inl ⟨by rfl, ?r4_hy0⟩) (by assumption) ?r4_rest0
        case r4_hy0 => intro w hSw; (try dsimp only at hSw); (go_simp <;> (with_reducible rfl))
        try simp only [Act.put, List.setIfInBounds_toArray, List.set_cons_zero, List.set_cons_succ]
        refine wpAnyH_take (i := 1) (v := ?r4_vv1) (by (simp only [List.getElem?_toArray, List.getElem?_cons_succ, List.getElem?_cons_zero]; rfl)) (by kernel_rfl) (by kernel_rfl) (by kernel_rfl) (by exact fun _ _ _ h => h) (Or.inl ⟨by rfl, ?r4_hy1⟩) (by assumption) ?r4_rest1
        case r4_hy1 => intro w hSw; (try dsimp only at hSw); (go_simp <;> (with_reducible rfl))
        try simp only [Act.put, List.setIfInBounds_toArray, List.set_cons_zero, List.set_cons_succ]
        refine wpAnyH_ready (rs := [2]) (by kernel_rfl) (by simp) ?_
        refine AllReadyH.cons (by (simp only [List.getElem?_toArray, List.getElem?_cons_succ, List.getElem?_cons_zero]; rfl)) (fun K hK => ?_) AllReadyH.nil
        go_simp
        (go_at_call 158; with_reducible refine (qi.out _).mono ?_; rintro e w9 ⟨rfl, hb9⟩)
        try go_wp2_with fail
        refine hK.out _ _ ?r4_hS2 (fun hHeld => ?r4_r2)
        case r4_hS2 => (try dsimp only); first | assumption | exact VsS2.keep hlw2 hcw hb2w (by assumption) ((Below.refl _ _).drew) | exact VsS2.keep hlw2 hcw hb2w (by assumption) (by assumption)
        clear hK K
        try simp only [Act.put, List.setIfInBounds_toArray, List.set_cons_zero, List.set_cons_succ]
        refine wpAnyH_take (i := 3) (v := ?r4_vv3) (by (simp only [List.getElem?_toArray, List.getElem?_cons_succ, List.getElem?_cons_zero]; rfl)) (by kernel_rfl) (by kernel_rfl) (by kernel_rfl) (by exact fun _ _ _ h => h) (Or.inl ⟨by rfl, ?r4_hy3⟩) (by assumption) ?r4_rest3
        case r4_hy3 => intro w hSw; (try dsimp only at hSw); (go_simp <;> (with_reducible rfl))
        try simp only [Act.put, List.setIfInBounds_toArray, List.set_cons_zero, List.set_cons_succ]
        refine wpAnyH_take (i := 4) (v := ?r4_vv4) (by (simp only [List.getElem?_toArray, List.getElem?_cons_succ, List.getElem?_cons_zero]; rfl)) (by kernel_rfl) (by kernel_rfl) (by kernel_rfl) (by exact fun _ _ _ h => h) (Or.inl ⟨by rfl, ?r4_hy4⟩) (by assumption) ?r4_rest4
        case r4_hy4 => intro w hSw; (try dsimp only at hSw); (go_simp <;> (with_reducible rfl))
        try simp only [Act.put, List.setIfInBounds_toArray, List.set_cons_zero, List.set_cons_succ]
        refine wpAnyH_take (i := 5) (v := ?r4_vv5) (by (simp only [List.getElem?_toArray, List.getElem?_cons_succ, List.getElem?_cons_zero]; rfl)) (by kernel_rfl) (by kernel_rfl) (by kernel_rfl) (by exact fun _ _ _ h => h) (Or.inl ⟨by rfl, ?r4_hy5⟩) (by assumption) ?r4_rest5
        case r4_hy5 => intro w hSw; (try dsimp only at hSw); (go_simp <;> (with_reducible rfl))
        try simp only [Act.put, List.setIfInBounds_toArray, List.set_cons_zero, List.set_cons_succ]
        refine wpAnyH_take (i := 6) (v := ?r4_vv6) (by (simp only [List.getElem?_toArray, List.getElem?_cons_succ, List.getElem?_cons_zero]; rfl)) (by kernel_rfl) (by kernel_rfl) (by kernel_rfl) (by exact fun _ _ _ h => h) (Or.inl ⟨by rfl, ?r4_hy6⟩) (by assumption) ?r4_rest6
        case r4_hy6 => intro w hSw; (try dsimp only at hSw); (go_simp <;> (with_reducible rfl))
        try simp only [Act.put, List.setIfInBounds_toArray, List.set_cons_zero, List.set_cons_succ]
        refine wpAnyH_take (i := 7) (v := ?r4_vv7) (by (simp only [List.getElem?_toArray, List.getElem?_cons_succ, List.getElem?_cons_zero]; rfl)) (by kernel_rfl) (by kernel_rfl) (by kernel_rfl) (by exact fun _ _ _ h => h) (Or.inl ⟨by rfl, ?r4_hy7⟩) (by assumption) ?r4_rest7
        case r4_hy7 => intro w hSw; (try dsimp only at hSw); (go_simp <;> (with_reducible rfl))
        try simp only [Act.put, List.setIfInBounds_toArray, List.set_cons_zero, List.set_cons_succ]
        refine wpAnyH_take (i := 8) (v := ?r4_vv8) (by (simp only [List.getElem?_toArray, List.getElem?_cons_succ, List.getElem?_cons_zero]; rfl)) (by kernel_rfl) (by kernel_rfl) (by kernel_rfl) (by exact fun _ _ _ h => h) (Or.inl ⟨by rfl, ?r4_hy8⟩) (by assumption) ?r4_rest8
        case r4_hy8 => intro w hSw; (try dsimp only at hSw); (go_simp <;> (with_reducible rfl))
        try simp only [Act.put, List.setIfInBounds_toArray, List.set_cons_zero, List.set_cons_succ]
        refine wpAnyH_take (i := 9) (v := ?r4_vv9) (by (simp only [List.getElem?_toArray, List.getElem?_cons_succ, List.getElem?_cons_zero]; rfl)) (by kernel_rfl) (by kernel_rfl) (by kernel_rfl) (by exact fun _ _ _ h => h) (Or.inl ⟨by rfl, ?r4_hy9⟩) (by assumption) ?r4_rest9
        case r4_hy9 => intro w hSw; (try dsimp only at hSw); (go_simp <;> (with_reducible rfl))
        try simp only [Act.put, List.setIfInBounds_toArray, List.set_cons_zero, List.set_cons_succ]
        refine wpAnyH_take (i := 10) (v := ?r4_vv10) (by (simp only [List.getElem?_toArray, List.getElem?_cons_succ, List.getElem?_cons_zero]; rfl)) (by kernel_rfl) (by kernel_rfl) (by kernel_rfl) (by exact fun _ _ _ h => h) (Or.inl ⟨by rfl, ?r4_hy10⟩) (by assumption) ?r4_rest10
        case r4_hy10 => intro w hSw; (try dsimp only at hSw); (go_simp <;> (with_reducible rfl))
        try simp only [Act.put, List.setIfInBounds_toArray, List.set_cons_zero, List.set_cons_succ]
        refine wpAnyH_ready (rs := [11]) (by kernel_rfl) (by simp) ?_
        refine AllReadyH.cons (by (simp only [List.getElem?_toArray, List.getElem?_cons_succ, List.getElem?_cons_zero]; rfl)) (fun K hK => ?_) AllReadyH.nil
        go_simp
        (go_at_call 159; with_reducible refine (qc.out _ (And.left (b := _) (And.left (b := _) (by assumption)))).mono ?_; rintro e w10 ⟨rfl, hb10⟩)
        try go_wp2_with fail
        refine hK.out _ _ ?r4_hS11 (fun hHeld => ?r4_r11)
        case r4_hS11 => (try dsimp only); first | assumption | exact VsS2.keep hlw2 hcw hb2w (by assumption) ((Below.refl _ _).drew) | exact VsS2.keep hlw2 hcw hb2w (by assumption) (by assumption)
        clear hK K
        try simp only [Act.put, List.setIfInBounds_toArray, List.set_cons_zero, List.set_cons_succ]
        refine wpAnyH_take (i := 12) (v := ?r4_vv12) (by (simp only [List.getElem?_toArray, List.getElem?_cons_succ, List.getElem?_cons_zero]; rfl)) (by kernel_rfl) (by kernel_rfl) (by kernel_rfl) (by exact fun _ _ _ h => h) (Or.inl ⟨by rfl, ?r4_hy12⟩) (by assumption) ?r4_rest12
        case r4_hy12 => intro w hSw; (try dsimp only at hSw); (go_simp <;> (with_reducible rfl))
        try simp only [Act.put, List.setIfInBounds_toArray, List.set_cons_zero, List.set_cons_succ]
        refine wpAnyH_take (i := 13) (v := ?r4_vv13) (by (simp only [List.getElem?_toArray, List.getElem?_cons_succ, List.getElem?_cons_zero]; rfl)) (by kernel_rfl) (by kernel_rfl) (by kernel_rfl) (by exact fun _ _ _ h => h) (Or.inl ⟨by rfl, ?r4_hy13⟩) (by assumption) ?r4_rest13
        case r4_hy13 => intro w hSw; (try dsimp only at hSw); (go_simp <;> (with_reducible rfl))
        try simp only [Act.put, List.setIfInBounds_toArray, List.set_cons_zero, List.set_cons_succ]
        refine wpAnyH_take (i := 14) (v := ?r4_vv14) (by (simp only [List.getElem?_toArray, List.getElem?_cons_succ, List.getElem?_cons_zero]; rfl)) (by kernel_rfl) (by kernel_rfl) (by kernel_rfl) (by exact fun _ _ _ h => h) (Or.inl ⟨by rfl, ?r4_hy14⟩) (by assumption) ?r4_rest14
        case r4_hy14 => intro w hSw; (try dsimp only at hSw); (go_simp <;> (with_reducible rfl))
        try simp only [Act.put, List.setIfInBounds_toArray, List.set_cons_zero, List.set_cons_succ]
        refine wpAnyH_take (i := 15) (v := ?r4_vv15) (by (simp only [List.getElem?_toArray, List.getElem?_cons_succ, List.getElem?_cons_zero]; rfl)) (by kernel_rfl) (by kernel_rfl) (by kernel_rfl) (by exact fun _ _ _ h => h) (Or.inl ⟨by rfl, ?r4_hy15⟩) (by assumption) ?r4_rest15
        case r4_hy15 => intro w hSw; (try dsimp only at hSw); (go_simp <;> (with_reducible rfl))
        try simp only [Act.put, List.setIfInBounds_toArray, List.set_cons_zero, List.set_cons_succ]
        refine wpAnyH_take (i := 16) (v := ?r4_vv16) (by (simp only [List.getElem?_toArray, List.getElem?_cons_succ, List.getElem?_cons_zero]; rfl)) (by kernel_rfl) (by kernel_rfl) (by kernel_rfl) (by exact fun _ _ _ h => h) (Or.inl ⟨by rfl, ?r4_hy16⟩) (by assumption) ?r4_rest16
        case r4_hy16 => intro w hSw; (try dsimp only at hSw); (go_simp <;> (with_reducible rfl))
        try simp only [Act.put, List.setIfInBounds_toArray, List.set_cons_zero, List.set_cons_succ]
        refine wpAnyH_take (i := 17) (v := ?r4_vv17) (by (simp only [List.getElem?_toArray, List.getElem?_cons_succ, List.getElem?_cons_zero]; rfl)) (by kernel_rfl) (by kernel_rfl) (by kernel_rfl) (by exact fun _ _ _ h => h) (Or.inl ⟨by rfl, ?r4_hy17⟩) (by assumption) ?r4_rest17
        case r4_hy17 => intro w hSw; (try dsimp only at hSw); (go_simp <;> (with_reducible rfl))
        try simp only [Act.put, List.setIfInBounds_toArray, List.set_cons_zero, List.set_cons_succ]
        refine wpAnyH_take (i := 18) (v := ?r4_vv18) (by (simp only [List.getElem?_toArray, List.getElem?_cons_succ, List.getElem?_cons_zero]; rfl)) (by kernel_rfl) (by kernel_rfl) (by kernel_rfl) (by exact fun _ _ _ h => h) (Or.inl ⟨by rfl, ?r4_hy18⟩) (by assumption) ?r4_rest18
        case r4_hy18 => intro w hSw; (try dsimp only at hSw); (go_simp <;> (with_reducible rfl))
        try simp only [Act.put, List.setIfInBounds_toArray, List.set_cons_zero, List.set_cons_succ]
        refine wpAnyH_take (i := 19) (v := ?r4_vv19) (by (simp only [List.getElem?_toArray, List.getElem?_cons_succ, List.getElem?_cons_zero]; rfl)) (by kernel_rfl) (by kernel_rfl) (by kernel_rfl) (by exact fun _ _ _ h => h) (Or.inl ⟨by rfl, ?r4_hy19⟩) (by assumption) ?r4_rest19
        case r4_hy19 => intro w hSw; (try dsimp only at hSw); (go_simp <;> (with_reducible rfl))
        try simp only [Act.put, List.setIfInBounds_toArray, List.set_cons_zero, List.set_cons_succ]
        refine wpAnyH_take (i := 20) (v := ?r4_vv20) (by (simp only [List.getElem?_toArray, List.getElem?_cons_succ, List.getElem?_cons_zero]; rfl)) (by kernel_rfl) (by kernel_rfl) (by kernel_rfl) (by exact fun _ _ _ h => h) (Or.inl ⟨by rfl, ?r4_hy20⟩) (by assumption) ?r4_rest20
        case r4_hy20 => intro w hSw; (try dsimp only at hSw); (go_simp <;> (with_reducible rfl))
        try simp only [Act.put, List.setIfInBounds_toArray, List.set_cons_zero, List.set_cons_succ]
        refine wpAnyH_take (i := 21) (v := ?r4_vv21) (by (simp only [List.getElem?_toArray, List.getElem?_cons_succ, List.getElem?_cons_zero]; rfl)) (by kernel_rfl) (by kernel_rfl) (by kernel_rfl) (by exact fun _ _ _ h => h) (Or.inl ⟨by rfl, ?r4_hy21⟩) (by assumption) ?r4_rest21
        case r4_hy21 => intro w hSw; (try dsimp only at hSw); (go_simp <;> (with_reducible rfl))
        try simp only [Act.put, List.setIfInBounds_toArray, List.set_cons_zero, List.set_cons_succ]
        refine wpAnyH_take (i := 22) (v := ?r4_vv22) (by (simp only [List.getElem?_toArray, List.getElem?_cons_succ, List.getElem?_cons_zero]; rfl)) (by kernel_rfl) (by kernel_rfl) (by kernel_rfl) (by exact fun _ _ _ h => h) (Or.inl ⟨by rfl, ?r4_hy22⟩) (by assumption) ?r4_rest22
        case r4_hy22 => intro w hSw; (try dsimp only at hSw); (go_simp <;> (with_reducible rfl))
        try simp only [Act.put, List.setIfInBounds_toArray, List.set_cons_zero, List.set_cons_succ]
        refine wpAnyH_take (i := 23) (v := ?r4_vv23) (by (simp only [List.getElem?_toArray, List.getElem?_cons_succ, List.getElem?_cons_zero]; rfl)) (by kernel_rfl) (by kernel_rfl) (by kernel_rfl) (by exact fun _ _ _ h => h) (Or.inl ⟨by rfl, ?r4_hy23⟩) (by assumption) ?r4_rest23
        case r4_hy23 => intro w hSw; (try dsimp only at hSw); (go_simp <;> (with_reducible rfl))
        try simp only [Act.put, List.setIfInBounds_toArray, List.set_cons_zero, List.set_cons_succ]
        refine wpAnyH_ready (rs := [24]) (by kernel_rfl) (by simp) ?_
        refine AllReadyH.cons (by (simp only [List.getElem?_toArray, List.getElem?_cons_succ, List.getElem?_cons_zero]; rfl)) (fun K hK => ?_) AllReadyH.nil
        go_simp
        (go_at_call 161; with_reducible refine (qp.out _).mono ?_; rintro e w11 ⟨rfl, hb11⟩)
        try go_wp2_with fail
        refine hK.out _ _ ?r4_hS24 (fun hHeld => ?r4_r24)
        case r4_hS24 => (try dsimp only); first | assumption | exact VsS2.keep hlw2 hcw hb2w (by assumption) ((Below.refl _ _).drew) | exact VsS2.keep hlw2 hcw hb2w (by assumption) (by assumption)
        clear hK K
        try simp only [Act.put, List.setIfInBounds_toArray, List.set_cons_zero, List.set_cons_succ]
        refine wpAnyH_take (i := 25) (v := ?r4_vv25) (by (simp only [List.getElem?_toArray, List.getElem?_cons_succ, List.getElem?_cons_zero]; rfl)) (by kernel_rfl) (by kernel_rfl) (by kernel_rfl) (by exact fun _ _ _ h => h) (Or.inl ⟨by rfl, ?r4_hy25⟩) (by assumption) ?r4_rest25
        case r4_hy25 => intro w hSw; (try dsimp only at hSw); (go_simp <;> (with_reducible rfl))
        try simp only [Act.put, List.setIfInBounds_toArray, List.set_cons_zero, List.set_cons_succ]
        refine wpAnyH_take (i := 26) (v := ?r4_vv26) (by (simp only [List.getElem?_toArray, List.getElem?_cons_succ, List.getElem?_cons_zero]; rfl)) (by kernel_rfl) (by kernel_rfl) (by kernel_rfl) (by exact fun _ _ _ h => h) (Or.inl ⟨by rfl, ?r4_hy26⟩) (by assumption) ?r4_rest26
        case r4_hy26 => intro w hSw; (try dsimp only at hSw); (go_simp <;> (with_reducible rfl))
        try simp only [Act.put, List.setIfInBounds_toArray, List.set_cons_zero, List.set_cons_succ]
        refine wpAnyH_take (i := 27) (v := ?r4_vv27) (by (simp only [List.getElem?_toArray, List.getElem?_cons_succ, List.getElem?_cons_zero]; rfl)) (by kernel_rfl) (by kernel_rfl) (by kernel_rfl) (by exact fun _ _ _ h => h) (Or.inl ⟨by rfl, ?r4_hy27⟩) (by assumption) ?r4_rest27
        case r4_hy27 => intro w hSw; (try dsimp only at hSw); (go_simp <;> (with_reducible rfl))
        try simp only [Act.put, List.setIfInBounds_toArray, List.set_cons_zero, List.set_cons_succ]
        refine wpAnyH_done (by kernel_rfl) ?_ _
        have HB9 := Lib.hid (show Below W2.heap.size W2 _ from And.left (b := _) (And.left (b := _) (by assumption)))
        go_wp2_with fail
        go_roundw
        case rel => exact ⟨m + 1 + 1, by omega, by go_num, hR.out, hbl.out.trans (HB9.out.mono hbl.out.size)⟩
        case measure => first | (simp [intOf]; done) | (simp [intOf]; omega)
      · have hR := Lib.hid (show sqOk w h sl = false from hR0.out.trans (slabsOk_no hlt (hpt.out.trans (by rw [hbm.out, ← hpos.out, hCC]; simp))))
        clear hpt hbm hst hpos
        refine wp_region_held_drew (S := (VsS2 W2 W.heap.size wo.heap.size w h (.slice (some ⟨b, o, none⟩) sl.length cap) s b (o + m * 4) s')) (by kernel_rfl) ?r5_hS0 (fun hHeld => ?r5_rest)
        case r5_hS0 => (try dsimp only); first | assumption | exact VsS2.keep hlw2 hcw hb2w (by assumption) ((Below.refl _ _).drew) | exact VsS2.keep hlw2 hcw hb2w (by assumption) (by assumption)
        refine wpAnyH_take (i := 0) (v := ?r5_vv0) (by (simp only [List.getElem?_toArray, List.getElem?_cons_succ, List.getElem?_cons_zero]; rfl)) (by kernel_rfl) (by kernel_rfl) (by kernel_rfl) (by exact fun _ _ _ h => h) (Or.inl ⟨by rfl, ?r5_hy0⟩) (by assumption) ?r5_rest0
        case r5_hy0 => intro w hSw; (try dsimp only at hSw); (go_simp <;> (with_reducible rfl))
        try simp only [Act.put, List.setIfInBounds_toArray, List.set_cons_zero, List.set_cons_succ]
        refine wpAnyH_take (i := 1) (v := ?r5_vv1) (by (simp only [List.getElem?_toArray, List.getElem?_cons_succ, List.getElem?_cons_zero]; rfl)) (by kernel_rfl) (by kernel_rfl) (by kernel_rfl) (by exact fun _ _ _ h => h) (Or.inl ⟨by rfl, ?r5_hy1⟩) (by assumption) ?r5_rest1
        case r5_hy1 => intro w hSw; (try dsimp only at hSw); (go_simp <;> (with_reducible rfl))
        try simp only [Act.put, List.setIfInBounds_toArray, List.set_cons_zero, List.set_cons_succ]
        refine wpAnyH_ready (rs := [2]) (by kernel_rfl) (by simp) ?_
        refine AllReadyH.cons (by (simp only [List.getElem?_toArray, List.getElem?_cons_succ, List.getElem?_cons_zero]; rfl)) (fun K hK => ?_) AllReadyH.nil
        go_simp
        (go_at_call 158; with_reducible refine (qi.out _).mono ?_; rintro e w9 ⟨rfl, hb9⟩)
        try go_wp2_with fail
        refine hK.out _ _ ?r5_hS2 (fun hHeld => ?r5_r2)
        case r5_hS2 => (try dsimp only); first | assumption | exact VsS2.keep hlw2 hcw hb2w (by assumption) ((Below.refl _ _).drew) | exact VsS2.keep hlw2 hcw hb2w (by assumption) (by assumption)
        clear hK K
        try simp only [Act.put, List.setIfInBounds_toArray, List.set_cons_zero, List.set_cons_succ]
        refine wpAnyH_take (i := 3) (v := ?r5_vv3) (by (simp only [List.getElem?_toArray, List.getElem?_cons_succ, List.getElem?_cons_zero]; rfl)) (by kernel_rfl) (by kernel_rfl) (by kernel_rfl) (by exact fun _ _ _ h => h) (Or.inl ⟨by rfl, ?r5_hy3⟩) (by assumption) ?r5_rest3
        case r5_hy3 => intro w hSw; (try dsimp only at hSw); (go_simp <;> (with_reducible rfl))
        try simp only [Act.put, List.setIfInBounds_toArray, List.set_cons_zero, List.set_cons_succ]
        refine wpAnyH_take (i := 4) (v := ?r5_vv4) (by (simp only [List.getElem?_toArray, List.getElem?_cons_succ, List.getElem?_cons_zero]; rfl)) (by kernel_rfl) (by kernel_rfl) (by kernel_rfl) (by exact fun _ _ _ h => h) (Or.inl ⟨by rfl, ?r5_hy4⟩) (by assumption) ?r5_rest4
        case r5_hy4 => intro w hSw; (try dsimp only at hSw); (go_simp <;> (with_reducible rfl))
        try simp only [Act.put, List.setIfInBounds_toArray, List.set_cons_zero, List.set_cons_succ]
        refine wpAnyH_take (i := 5) (v := ?r5_vv5) (by (simp only [List.getElem?_toArray, List.getElem?_cons_succ, List.getElem?_cons_zero]; rfl)) (by kernel_rfl) (by kernel_rfl) (by kernel_rfl) (by exact fun _ _ _ h => h) (Or.inl ⟨by rfl, ?r5_hy5⟩) (by assumption) ?r5_rest5
        case r5_hy5 => intro w hSw; (try dsimp only at hSw); (go_simp <;> (with_reducible rfl))
        try simp only [Act.put, List.setIfInBounds_toArray, List.set_cons_zero, List.set_cons_succ]
        refine wpAnyH_take (i := 6) (v := ?r5_vv6) (by (simp only [List.getElem?_toArray, List.getElem?_cons_succ, List.getElem?_cons_zero]; rfl)) (by kernel_rfl) (by kernel_rfl) (by kernel_rfl) (by exact fun _ _ _ h => h) (Or.inl ⟨by rfl, ?r5_hy6⟩) (by assumption) ?r5_rest6
        case r5_hy6 => intro w hSw; (try dsimp only at hSw); (go_simp <;> (with_reducible rfl))
        try simp only [Act.put, List.setIfInBounds_toArray, List.set_cons_zero, List.set_cons_succ]
        refine wpAnyH_take (i := 7) (v := ?r5_vv7) (by (simp only [List.getElem?_toArray, List.getElem?_cons_succ, List.getElem?_cons_zero]; rfl)) (by kernel_rfl) (by kernel_rfl) (by kernel_rfl) (by exact fun _ _ _ h => h) (Or.inl ⟨by rfl, ?r5_hy7⟩) (by assumption) ?r5_rest7
        case r5_hy7 => intro w hSw; (try dsimp only at hSw); (go_simp <;> (with_reducible rfl))
        try simp only [Act.put, List.setIfInBounds_toArray, List.set_cons_zero, List.set_cons_succ]
        refine wpAnyH_take (i := 8) (v := ?r5_vv8) (by (simp only [List.getElem?_toArray, List.getElem?_cons_succ, List.getElem?_cons_zero]; rfl)) (by kernel_rfl) (by kernel_rfl) (by kernel_rfl) (by exact fun _ _ _ h => h) (Or.inl ⟨by rfl, ?r5_hy8⟩) (by assumption) ?r5_rest8
        case r5_hy8 => intro w hSw; (try dsimp only at hSw); (go_simp <;> (with_reducible rfl))
        try simp only [Act.put, List.setIfInBounds_toArray, List.set_cons_zero, List.set_cons_succ]
        refine wpAnyH_take (i := 9) (v := ?r5_vv9) (by (simp only [List.getElem?_toArray, List.getElem?_cons_succ, List.getElem?_cons_zero]; rfl)) (by kernel_rfl) (by kernel_rfl) (by kernel_rfl) (by exact fun _ _ _ h => h) (Or.inl ⟨by rfl, ?r5_hy9⟩) (by assumption) ?r5_rest9
        case r5_hy9 => intro w hSw; (try dsimp only at hSw); (go_simp <;> (with_reducible rfl))
        try simp only [Act.put, List.setIfInBounds_toArray, List.set_cons_zero, List.set_cons_succ]
        refine wpAnyH_take (i := 10) (v := ?r5_vv10) (by (simp only [List.getElem?_toArray, List.getElem?_cons_succ, List.getElem?_cons_zero]; rfl)) (by kernel_rfl) (by kernel_rfl) (by kernel_rfl) (by exact fun _ _ _ h => h) (Or.inl ⟨by rfl, ?r5_hy10⟩) (by assumption) ?r5_rest10
        case r5_hy10 => intro w hSw; (try dsimp only at hSw); (go_simp <;> (with_reducible rfl))
        try simp only [Act.put, List.setIfInBounds_toArray, List.set_cons_zero, List.set_cons_succ]
        refine wpAnyH_ready (rs := [11]) (by kernel_rfl) (by simp) ?_
        refine AllReadyH.cons (by (simp only [List.getElem?_toArray, List.getElem?_cons_succ, List.getElem?_cons_zero]; rfl)) (fun K hK => ?_) AllReadyH.nil
        go_simp
        (go_at_call 159; with_reducible refine (qc.out _ (And.left (b := _) (And.left (b := _) (by assumption)))).mono ?_; rintro e w10 ⟨rfl, hb10⟩)
        try go_wp2_with fail
        refine hK.out _ _ ?r5_hS11 (fun hHeld => ?r5_r11)
        case r5_hS11 => (try dsimp only); first | assumption | exact VsS2.keep hlw2 hcw hb2w (by assumption) ((Below.refl _ _).drew) | exact VsS2.keep hlw2 hcw hb2w (by assumption) (by assumption)
        clear hK K
        try simp only [Act.put, List.setIfInBounds_toArray, List.set_cons_zero, List.set_cons_succ]
        refine wpAnyH_take (i := 12) (v := ?r5_vv12) (by (simp only [List.getElem?_toArray, List.getElem?_cons_succ, List.getElem?_cons_zero]; rfl)) (by kernel_rfl) (by kernel_rfl) (by kernel_rfl) (by exact fun _ _ _ h => h) (Or.inl ⟨by rfl, ?r5_hy12⟩) (by assumption) ?r5_rest12
        case r5_hy12 => intro w hSw; (try dsimp only at hSw); (go_simp <;> (with_reducible rfl))
        try simp only [Act.put, List.setIfInBounds_toArray, List.set_cons_zero, List.set_cons_succ]
        refine wpAnyH_take (i := 13) (v := ?r5_vv13) (by (simp only [List.getElem?_toArray, List.getElem?_cons_succ, List.getElem?_cons_zero]; rfl)) (by kernel_rfl) (by kernel_rfl) (by kernel_rfl) (by exact fun _ _ _ h => h) (Or.inl ⟨by rfl, ?r5_hy13⟩) (by assumption) ?r5_rest13
        case r5_hy13 => intro w hSw; (try dsimp only at hSw); (go_simp <;> (with_reducible rfl))
        try simp only [Act.put, List.setIfInBounds_toArray, List.set_cons_zero, List.set_cons_succ]
        refine wpAnyH_take (i := 14) (v := ?r5_vv14) (by (simp only [List.getElem?_toArray, List.getElem?_cons_succ, List.getElem?_cons_zero]; rfl)) (by kernel_rfl) (by kernel_rfl) (by kernel_rfl) (by exact fun _ _ _ h => h) (Or.inl ⟨by rfl, ?r5_hy14⟩) (by assumption) ?r5_rest14
        case r5_hy14 => intro w hSw; (try dsimp only at hSw); (go_simp <;> (with_reducible rfl))
        try simp only [Act.put, List.setIfInBounds_toArray, List.set_cons_zero, List.set_cons_succ]
        refine wpAnyH_take (i := 15) (v := ?r5_vv15) (by (simp only [List.getElem?_toArray, List.getElem?_cons_succ, List.getElem?_cons_zero]; rfl)) (by kernel_rfl) (by kernel_rfl) (by kernel_rfl) (by exact fun _ _ _ h => h) (Or.inl ⟨by rfl, ?r5_hy15⟩) (by assumption) ?r5_rest15
        case r5_hy15 => intro w hSw; (try dsimp only at hSw); (go_simp <;> (with_reducible rfl))
        try simp only [Act.put, List.setIfInBounds_toArray, List.set_cons_zero, List.set_cons_succ]
        refine wpAnyH_take (i := 16) (v := ?r5_vv16) (by (simp only [List.getElem?_toArray, List.getElem?_cons_succ, List.getElem?_cons_zero]; rfl)) (by kernel_rfl) (by kernel_rfl) (by kernel_rfl) (by exact fun _ _ _ h => h) (Or.inl ⟨by rfl, ?r5_hy16⟩) (by assumption) ?r5_rest16
        case r5_hy16 => intro w hSw; (try dsimp only at hSw); (go_simp <;> (with_reducible rfl))
        try simp only [Act.put, List.setIfInBounds_toArray, List.set_cons_zero, List.set_cons_succ]
        refine wpAnyH_take (i := 17) (v := ?r5_vv17) (by (simp only [List.getElem?_toArray, List.getElem?_cons_succ, List.getElem?_cons_zero]; rfl)) (by kernel_rfl) (by kernel_rfl) (by kernel_rfl) (by exact fun _ _ _ h => h) (Or.inl ⟨by rfl, ?r5_hy17⟩) (by assumption) ?r5_rest17
        case r5_hy17 => intro w hSw; (try dsimp only at hSw); (go_simp <;> (with_reducible rfl))
        try simp only [Act.put, List.setIfInBounds_toArray, List.set_cons_zero, List.set_cons_succ]
        refine wpAnyH_take (i := 18) (v := ?r5_vv18) (by (simp only [List.getElem?_toArray, List.getElem?_cons_succ, List.getElem?_cons_zero]; rfl)) (by kernel_rfl) (by kernel_rfl) (by kernel_rfl) (by exact fun _ _ _ h => h) (Or.inl ⟨by rfl, ?r5_hy18⟩) (by assumption) ?r5_rest18
        case r5_hy18 => intro w hSw; (try dsimp only at hSw); (go_simp <;> (with_reducible rfl))
        try simp only [Act.put, List.setIfInBounds_toArray, List.set_cons_zero, List.set_cons_succ]
        refine wpAnyH_take (i := 19) (v := ?r5_vv19) (by (simp only [List.getElem?_toArray, List.getElem?_cons_succ, List.getElem?_cons_zero]; rfl)) (by kernel_rfl) (by kernel_rfl) (by kernel_rfl) (by exact fun _ _ _ h => h) (Or.inl ⟨by rfl, ?r5_hy19⟩) (by assumption) ?r5_rest19
        case r5_hy19 => intro w hSw; (try dsimp only at hSw); (go_simp <;> (with_reducible rfl))
        try simp only [Act.put, List.setIfInBounds_toArray, List.set_cons_zero, List.set_cons_succ]
        refine wpAnyH_take (i := 20) (v := ?r5_vv20) (by (simp only [List.getElem?_toArray, List.getElem?_cons_succ, List.getElem?_cons_zero]; rfl)) (by kernel_rfl) (by kernel_rfl) (by kernel_rfl) (by exact fun _ _ _ h => h) (Or.inl ⟨by rfl, ?r5_hy20⟩) (by assumption) ?r5_rest20
        case r5_hy20 => intro w hSw; (try dsimp only at hSw); (go_simp <;> (with_reducible rfl))
        try simp only [Act.put, List.setIfInBounds_toArray, List.set_cons_zero, List.set_cons_succ]
        refine wpAnyH_take (i := 21) (v := ?r5_vv21) (by (simp only [List.getElem?_toArray, List.getElem?_cons_succ, List.getElem?_cons_zero]; rfl)) (by kernel_rfl) (by kernel_rfl) (by kernel_rfl) (by exact fun _ _ _ h => h) (Or.inl ⟨by rfl, ?r5_hy21⟩) (by assumption) ?r5_rest21
        case r5_hy21 => intro w hSw; (try dsimp only at hSw); (go_simp <;> (with_reducible rfl))
        try simp only [Act.put, List.setIfInBounds_toArray, List.set_cons_zero, List.set_cons_succ]
        refine wpAnyH_take (i := 22) (v := ?r5_vv22) (by (simp only [List.getElem?_toArray, List.getElem?_cons_succ, List.getElem?_cons_zero]; rfl)) (by kernel_rfl) (by kernel_rfl) (by kernel_rfl) (by exact fun _ _ _ h => h) (Or.inl ⟨by rfl, ?r5_hy22⟩) (by assumption) ?r5_rest22
        case r5_hy22 => intro w hSw; (try dsimp only at hSw); (go_simp <;> (with_reducible rfl))
        try simp only [Act.put, List.setIfInBounds_toArray, List.set_cons_zero, List.set_cons_succ]
        refine wpAnyH_take (i := 23) (v := ?r5_vv23) (by (simp only [List.getElem?_toArray, List.getElem?_cons_succ, List.getElem?_cons_zero]; rfl)) (by kernel_rfl) (by kernel_rfl) (by kernel_rfl) (by exact fun _ _ _ h => h) (Or.inl ⟨by rfl, ?r5_hy23⟩) (by assumption) ?r5_rest23
        case r5_hy23 => intro w hSw; (try dsimp only at hSw); (go_simp <;> (with_reducible rfl))
        try simp only [Act.put, List.setIfInBounds_toArray, List.set_cons_zero, List.set_cons_succ]
        refine wpAnyH_ready (rs := [24]) (by kernel_rfl) (by simp) ?_
        refine AllReadyH.cons (by (simp only [List.getElem?_toArray, List.getElem?_cons_succ, List.getElem?_cons_zero]; rfl)) (fun K hK => ?_) AllReadyH.nil
        go_simp
        (go_at_call 161; with_reducible refine (qp.out _).mono ?_; rintro e w11 ⟨rfl, hb11⟩)
        try go_wp2_with fail
        refine hK.out _ _ ?r5_hS24 (fun hHeld => ?r5_r24)
        case r5_hS24 => (try dsimp only); first | assumption | exact VsS2.keep hlw2 hcw hb2w (by assumption) ((Below.refl _ _).drew) | exact VsS2.keep hlw2 hcw hb2w (by assumption) (by assumption)
        clear hK K
        try simp only [Act.put, List.setIfInBounds_toArray, List.set_cons_zero, List.set_cons_succ]
        refine wpAnyH_take (i := 25) (v := ?r5_vv25) (by (simp only [List.getElem?_toArray, List.getElem?_cons_succ, List.getElem?_cons_zero]; rfl)) (by kernel_rfl) (by kernel_rfl) (by kernel_rfl) (by exact fun _ _ _ h => h) (Or.inl ⟨by rfl, ?r5_hy25⟩) (by assumption) ?r5_rest25
        case r5_hy25 => intro w hSw; (try dsimp only at hSw); (go_simp <;> (with_reducible rfl))
        try simp only [Act.put, List.setIfInBounds_toArray, List.set_cons_zero, List.set_cons_succ]
        refine wpAnyH_take (i := 26) (v := ?r5_vv26) (by (simp only [List.getElem?_toArray, List.getElem?_cons_succ, List.getElem?_cons_zero]; rfl)) (by kernel_rfl) (by kernel_rfl) (by kernel_rfl) (by exact fun _ _ _ h => h) (Or.inl ⟨by rfl, ?r5_hy26⟩) (by assumption) ?r5_rest26
        case r5_hy26 => intro w hSw; (try dsimp only at hSw); (go_simp <;> (with_reducible rfl))
        try simp only [Act.put, List.setIfInBounds_toArray, List.set_cons_zero, List.set_cons_succ]
        refine wpAnyH_take (i := 27) (v := ?r5_vv27) (by (simp only [List.getElem?_toArray, List.getElem?_cons_succ, List.getElem?_cons_zero]; rfl)) (by kernel_rfl) (by kernel_rfl) (by kernel_rfl) (by exact fun _ _ _ h => h) (Or.inl ⟨by rfl, ?r5_hy27⟩) (by assumption) ?r5_rest27
        case r5_hy27 => intro w hSw; (try dsimp only at hSw); (go_simp <;> (with_reducible rfl))
        try simp only [Act.put, List.setIfInBounds_toArray, List.set_cons_zero, List.set_cons_succ]
        refine wpAnyH_done (by kernel_rfl) ?_ _
        have HB9 := Lib.hid (show Below W2.heap.size W2 _ from And.left (b := _) (And.left (b := _) (by assumption)))
        go_wp2_with fail
        go_ret
        exact ⟨ret_bool hR.out.symm, hbe.out.trans (HB9.out.mono hbe.out.size)⟩
    · obtain rfl : k = sl.length := by omega
      have hR := Lib.hid (hR0.out.trans HOK.out)
      go_wp2_with fail
      go_ret
      exact ⟨ret_bool hR.out.symm, HB0.out.trans (hb.mono HB0.out.size)⟩
end Go.Proofs.Yteflpdfajfljfaa
