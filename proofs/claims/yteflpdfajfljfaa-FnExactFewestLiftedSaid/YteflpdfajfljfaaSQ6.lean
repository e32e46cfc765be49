/-
The reference's laying of slabs into a grid: the walk. Conditions: numbers are of their kinds; slices can be read.
-/
import Derived.Test.YteflpdfajfljfaaSQ5
import Derived.Test.YteflpdfajfljfaaSQ3
set_option linter.unusedVariables false
set_option linter.unusedSimpArgs false
set_option maxRecDepth 100000
namespace Go.Proofs.Yteflpdfajfljfaa
open Go.RowKit
abbrev LyS0 (W0 : World) (b o c : Nat) (w h : Int) (z : Value) (s : Slab) (w' : World) : Prop :=
  Below W0.heap.size W0 w' ∧ w'.cell? ⟨b, o, none⟩ = some (.int .i8 w) ∧ w'.cell? ⟨b, o + 1, none⟩ = some (.int .i8 h) ∧ w'.cell? ⟨b, o + 2, none⟩ = some z ∧ w'.cell? ⟨c, 0, none⟩ = some (.int .i8 s.x) ∧ w'.cell? ⟨c, 1, none⟩ = some (.int .i8 s.y) ∧ w'.cell? ⟨c, 2, none⟩ = some (.int .i8 s.w) ∧ w'.cell? ⟨c, 3, none⟩ = some (.int .i8 s.h)
abbrev LyS (W0 : World) (b o c : Nat) (w h : Int) (z : Value) (s : Slab) (b3 o3 : Nat) (t : Slab) (w' : World) : Prop :=
  LyS0 W0 b o c w h z s w' ∧ w'.cell? ⟨b3, o3, none⟩ = some (.int .i8 t.x) ∧ w'.cell? ⟨b3, o3 + 1, none⟩ = some (.int .i8 t.y) ∧ w'.cell? ⟨b3, o3 + 2, none⟩ = some (.int .i8 t.w) ∧ w'.cell? ⟨b3, o3 + 3, none⟩ = some (.int .i8 t.h)
theorem LyS0.keep {W0 w1 w2 : World} {b o c : Nat} {w h : Int} {z : Value} {s : Slab} (hb : b < W0.heap.size) (hc : c < W0.heap.size) (hS : LyS0 W0 b o c w h z s w1) (k : Below w1.heap.size w1 w2) : LyS0 W0 b o c w h z s w2 := by
  obtain ⟨h0, h1, h2, h3, h4, h5, h6, h7⟩ := hS
  have q : ∀ o, w2.cell? ⟨b, o, none⟩ = w1.cell? ⟨b, o, none⟩ := fun o => k.cell (p := ⟨b, o, none⟩) (Nat.lt_of_lt_of_le hb h0.size)
  have r : ∀ o, w2.cell? ⟨c, o, none⟩ = w1.cell? ⟨c, o, none⟩ := fun o => k.cell (p := ⟨c, o, none⟩) (Nat.lt_of_lt_of_le hc h0.size)
  exact ⟨ext_trans h0 k, (q _).trans h1, (q _).trans h2, (q _).trans h3, (r _).trans h4, (r _).trans h5, (r _).trans h6, (r _).trans h7⟩
theorem LyS.keep {W0 w1 w2 : World} {b o c b3 o3 : Nat} {w h : Int} {z : Value} {s t : Slab} (hb : b < W0.heap.size) (hc : c < W0.heap.size) (hb3 : b3 < W0.heap.size) (hS : LyS W0 b o c w h z s b3 o3 t w1) (k : Below w1.heap.size w1 w2) : LyS W0 b o c w h z s b3 o3 t w2 := by
  obtain ⟨h0, h8, h9, h10, h11⟩ := hS
  have t : ∀ o, w2.cell? ⟨b3, o, none⟩ = w1.cell? ⟨b3, o, none⟩ := fun o => k.cell (p := ⟨b3, o, none⟩) (Nat.lt_of_lt_of_le hb3 h0.1.size)
  exact ⟨h0.keep hb hc k, (t _).trans h8, (t _).trans h9, (t _).trans h10, (t _).trans h11⟩
theorem wrap8In (x : Int) (h0 : -128 ≤ x) (h1 : x ≤ 127) : IntKind.i8.wrap x = x := by simp [IntKind.wrap, IntKind.signed, IntKind.bits]; omega
theorem grownBy_set (w : World) (g j : Nat) (u : Value) : w.grownBy (w.setCell ⟨g, j, none⟩ u) (some g) := ⟨rfl, rfl, rfl, by simp [World.setCell], fun k hk hne => Below.heap_setCell _ _ _ _ (fun e => hne (by rw [e]))⟩
theorem ginfo (g : List Int) (h : g.length = 144) : (Try.prog.info? 70).map (·.size) = some (gcells g).size := by rw [gcells_size, h]; exact info85
set_option maxHeartbeats 8000000 in
theorem lay_calls (b o : Nat) (w h : Int) (w0 : -128 ≤ w) (w1 : w ≤ 127) (h0 : -128 ≤ h) (h1 : h ≤ 127) (sl : List Slab) (hsl : ∀ x ∈ sl, x.ok) (z : Value) (W : World) (hz : Sl W W.heap.size Slab.c 4 z sl) (hq : Sq.at_ W b o w h z) :
    Calls Try.prog 80 #[.pointer (some ⟨b, o, none⟩)] W (RetLay W (sqOk w h sl) sl) := by
  obtain ⟨A, cap, rfl, hl, hm, hcell⟩ := hz.slab
  have hst : (storeCells ⟨W.heap.size + 1, 0, none⟩ Try.zeroCells70.toList).run Try.prog ((W.alloc (.cells Try.zeroCells70 70)).alloc (.cells Try.zeroCells70 70)) = .ok () ((W.alloc (.cells Try.zeroCells70 70)).alloc (.cells Try.zeroCells70 70)) := by
    have := run_storeCells_new (P := Try.prog) (W.alloc (.cells Try.zeroCells70 70)) 70 Try.zeroCells70 Try.zeroCells70 (by rw [zero85]; exact ginfo _ (gridL_len _)) rfl (by rw [zero85]; exact gcells_one _)
    simpa using this
  have hG2 := Lib.hid ((Bk.new W 70 (gcells (gridL [])) W.heap.size rfl).alloc (.cells (gcells (gridL [])) 70))
  have hG4 := Lib.hid (Bk.new (W.alloc (.cells (gcells (gridL [])) 70)) 70 (gcells (gridL [])) (W.heap.size + 1) (by simp))
  have hbA := ext_alloc ((Below.refl W.heap.size W).alloc (Nat.le_refl _) (.cells (gcells (gridL [])) 70)) (.cells (gcells (gridL [])) 70)
  have HBA := Lib.hid hbA
  have hQ := Lib.hid (hq.ext hbA)
  have hsz0 := Lib.hid (show W.heap.size + 1 < ((W.alloc (.cells (gcells (gridL [])) 70)).alloc (.cells (gcells (gridL [])) 70)).heap.size from by simp)
  have hsq := Lib.hid (show sqOk w h sl = (edgeB w && edgeB h && decide (sl.length ≤ 60) && slabsOk w h sl sl.length) from rfl)
  have HSL := Lib.hid hsl
  have HZ := Lib.hid hz
  have hqlt := Lib.hid hq.lt
  have hqW := Lib.hid hq
  obtain ⟨c0, c1, c2, -⟩ := hq.ext hbA
  obtain ⟨z0, z1, z2, -⟩ := hq.ext (ext_alloc ((Below.refl W.heap.size W).alloc (Nat.le_refl _) (.cells Try.zeroCells70 70)) (.cells Try.zeroCells70 70))
  clear hsl hbA hz hq
  cases e1 : edgeB w
  · have hR := Lib.hid (show sqOk w h sl = false from by rw [hsq.out, e1]; rfl)
    have hE := Lib.hid e1
    clear e1 hsq
    rw [hR.out]
    go_enter Try.func80, Try.ntmps80
    go_wp2_with fail
    rw [zero85]
    refine (sedge_calls _ _).mono ?_
    rintro e w1 ⟨rfl, rfl⟩
    rw [hE.out]
    clear hst z0 z1 z2
    generalize (W.alloc (.cells (gcells (gridL [])) 70)).alloc (.cells (gcells (gridL [])) 70) = W1 at *
    have hq4 := hG4
    have hq2 := hG2
    go_wp2_with (first | (refine wpList_load_bk rfl 70 (.tmp 4) rfl _ rfl _ _ _ _ hq4.out Try.underlying70 (ginfo _ (by simp [partL_len, gridL_len])) ?_) | (refine wpList_store_bk rfl 70 (.tmp 2) (.tmp 34) rfl _ (gcells (gridL [])) rfl rfl _ _ hq2.out (by simp [gcells_size, partL_len, gridL_len]) (ginfo _ (by simp [partL_len, gridL_len])) (gcells_one _) ?_))
    intro w8 hB8 hG8
    go_wp2_with fail
    (try simp only [Exit.inBlock, Exit.then])
    refine lay_ret Try.results80 rfl hB8 Try.underlying70 (ginfo _ (by simp [partL_len, gridL_len])) rfl ?_
    exact ⟨_, rfl, by simp [partL_len, gridL_len], by simp, HBA.out.grown hG8 HBA.out.size (fun j hj => by injection hj with hj; omega)⟩
  cases e2 : edgeB h
  · have hR := Lib.hid (show sqOk w h sl = false from by rw [hsq.out, e1, e2]; rfl)
    have hE := Lib.hid e1
    have hE2 := Lib.hid e2
    clear e1 e2 hsq
    rw [hR.out]
    go_enter Try.func80, Try.ntmps80
    go_wp2_with fail
    rw [zero85]
    refine (sedge_calls _ _).mono ?_
    rintro e w1 ⟨rfl, rfl⟩
    rw [hE.out]
    clear hst z0 z1 z2
    generalize (W.alloc (.cells (gcells (gridL [])) 70)).alloc (.cells (gcells (gridL [])) 70) = W1 at *
    go_wp2_with fail
    refine (sedge_calls _ _).mono ?_
    rintro e w1 ⟨rfl, rfl⟩
    rw [hE2.out]
    have hq4 := hG4
    have hq2 := hG2
    go_wp2_with (first | (refine wpList_load_bk rfl 70 (.tmp 4) rfl _ rfl _ _ _ _ hq4.out Try.underlying70 (ginfo _ (by simp [partL_len, gridL_len])) ?_) | (refine wpList_store_bk rfl 70 (.tmp 2) (.tmp 34) rfl _ (gcells (gridL [])) rfl rfl _ _ hq2.out (by simp [gcells_size, partL_len, gridL_len]) (ginfo _ (by simp [partL_len, gridL_len])) (gcells_one _) ?_))
    intro w8 hB8 hG8
    go_wp2_with fail
    (try simp only [Exit.inBlock, Exit.then])
    refine lay_ret Try.results80 rfl hB8 Try.underlying70 (ginfo _ (by simp [partL_len, gridL_len])) rfl ?_
    exact ⟨_, rfl, by simp [partL_len, gridL_len], by simp, HBA.out.grown hG8 HBA.out.size (fun j hj => by injection hj with hj; omega)⟩
  by_cases e3 : sl.length ≤ 60
  case neg =>
    have hR := Lib.hid (show sqOk w h sl = false from by rw [hsq.out, e1, e2]; simp [e3])
    have hE := Lib.hid e1
    have hE2 := Lib.hid e2
    have hd : decide ((60 : Int) < sl.length) = true := by rw [decide_eq_true_eq]; omega
    clear e1 e2 hsq
    rw [hR.out]
    go_enter Try.func80, Try.ntmps80
    go_wp2_with fail
    rw [zero85]
    refine (sedge_calls _ _).mono ?_
    rintro e w1 ⟨rfl, rfl⟩
    rw [hE.out]
    clear hst z0 z1 z2
    generalize (W.alloc (.cells (gcells (gridL [])) 70)).alloc (.cells (gcells (gridL [])) 70) = W1 at *
    go_wp2_with fail
    refine (sedge_calls _ _).mono ?_
    rintro e w1 ⟨rfl, rfl⟩
    rw [hE2.out]
    have hq4 := hG4
    have hq2 := hG2
    go_wp2_with (first | (refine wpList_load_bk rfl 70 (.tmp 4) rfl _ rfl _ _ _ _ hq4.out Try.underlying70 (ginfo _ (by simp [partL_len, gridL_len])) ?_) | (refine wpList_store_bk rfl 70 (.tmp 2) (.tmp 34) rfl _ (gcells (gridL [])) rfl rfl _ _ hq2.out (by simp [gcells_size, partL_len, gridL_len]) (ginfo _ (by simp [partL_len, gridL_len])) (gcells_one _) ?_))
    intro w8 hB8 hG8
    go_wp2_with fail
    (try simp only [Exit.inBlock, Exit.then])
    refine lay_ret Try.results80 rfl hB8 Try.underlying70 (ginfo _ (by simp [partL_len, gridL_len])) rfl ?_
    exact ⟨_, rfl, by simp [partL_len, gridL_len], by simp, HBA.out.grown hG8 HBA.out.size (fun j hj => by injection hj with hj; omega)⟩
  have hE := Lib.hid e1
  have hE2 := Lib.hid e2
  have hR0 := Lib.hid (show sqOk w h sl = slabsOk w h sl sl.length from by rw [hsq.out, e1, e2]; simp [e3])
  have hEB := Lib.hid (show (1 ≤ w ∧ w ≤ 12) ∧ (1 ≤ h ∧ h ≤ 12) from ⟨by simpa [edgeB] using e1, by simpa [edgeB] using e2⟩)
  have hd : decide ((60 : Int) < sl.length) = false := by rw [decide_eq_false_iff_not]; omega
  clear e1 e2 hsq
  rw [hR0.out]
  go_enter Try.func80, Try.ntmps80
  go_wp2_with fail
  rw [zero85]
  refine (sedge_calls _ _).mono ?_
  rintro e w1 ⟨rfl, rfl⟩
  rw [hE.out]
  clear hst z0 z1 z2
  generalize (W.alloc (.cells (gcells (gridL [])) 70)).alloc (.cells (gcells (gridL [])) 70) = W1 at *
  go_wp2_with fail
  refine (sedge_calls _ _).mono ?_
  rintro e w1 ⟨rfl, rfl⟩
  rw [hE2.out]
  go_wp2_with fail
  go_loopw [5] (fun i wr => ∃ k : Nat, k ≤ sl.length ∧ i = .int .i64 k ∧ slabsOk w h sl k = true ∧ Bk wr (W.heap.size + 1) 70 (gcells (gridL (sl.take k))) ∧ Bk wr W.heap.size 70 (gcells (gridL [])) ∧ Below W.heap.size W wr) (fun i _ => sl.length - (intOf i).toNat)
  case atStart => exact ⟨0, by omega, rfl, rfl, by simpa using hG4.out, hG2.out, HBA.out⟩
  case round =>
    obtain ⟨k, hk, rfl, hok, hB4, hB2, hb⟩ := hrel
    obtain ⟨wr0, rfl⟩ : ∃ wr0 : World, wr0 = wr := ⟨_, rfl⟩
    have HOK := Lib.hid hok
    have HB4 := Lib.hid hB4
    have HB2 := Lib.hid hB2
    have HB := Lib.hid hb
    obtain ⟨c0, c1, c2, hqlt0⟩ := (show Sq.at_ wr0 b o w h (.slice A sl.length cap) from hqW.out.keep hqlt.out hb)
    clear hok hB4 hB2
    by_cases hlt : k < sl.length
    · obtain ⟨b3, o3, rfl, hbb, f0, f1, f2, f3⟩ := hcell k hlt
      have hgd : sl[k] = sl.getD k s0 := by simp [List.getD_eq_getElem?_getD, hlt]
      obtain ⟨g0, g1, g2, g3⟩ := Slab.at_ext (show Slab.at_ W b3 (o3 + k * 4) sl[k] from ⟨f0, f1, f2, f3⟩) hb hbb
      have hsk := Lib.hid (HSL.out sl[k] (List.getElem_mem hlt))
      have hp1 : 0 < k → ∃ s', s'.ok ∧ sl.getD (k - 1) s0 = s' ∧ Slab.at_ wr0 b3 (o3 + (k - 1) * 4) s' := fun h0 => by
        obtain ⟨b', o', he, hbb', f0, f1, f2, f3⟩ := hcell (k - 1) (by omega)
        obtain ⟨rfl, rfl⟩ : b3 = b' ∧ o3 = o' := by
          injection he with he
          injection he with e1 e2
          exact ⟨e1, e2⟩
        refine ⟨sl[k - 1], HSL.out _ (List.getElem_mem _), by simp [List.getD_eq_getElem?_getD, show k - 1 < sl.length by omega], ?_⟩
        exact Slab.at_ext (show Slab.at_ W b3 (o3 + (k - 1) * 4) sl[k - 1] from ⟨f0, f1, f2, f3⟩) hb hbb
      have HP1 := Lib.hid hp1
      have hbo := Lib.hid (Nat.lt_of_lt_of_le hbb hb.size)
      clear hcell hp1 f0 f1 f2 f3
      have hpt := Lib.hid (slabOk_parts w h sl k)
      have hst := Lib.hid (show slabsOk w h sl (k + 1) = (slabsOk w h sl k && slabOk w h sl k) from rfl)
      have pS := Lib.hid (partL_start sl k)
      have pRow := Lib.hid (partL_row sl k)
      have pSet := Lib.hid (partL_set sl k)
      have pRead := Lib.hid (partL_read sl k)
      have pEnd := Lib.hid (partL_end sl k hlt)
      have fS := Lib.hid (freeTo_start sl k)
      have fRow := Lib.hid (fun (yy : Int) (h : freeTo sl k yy ((sl.getD k s0).x + (sl.getD k s0).w)) => freeTo_row h)
      have fEnd := Lib.hid (fun (h : freeTo sl k ((sl.getD k s0).y + (sl.getD k s0).h) (sl.getD k s0).x) => freeTo_end h)
      have fFree := Lib.hid (fun hs => free_iff (w := w) (h := h) HOK.out hlt hs)
      rw [hgd] at g0 g1 g2 g3 hsk
      clear hgd
      generalize sl.getD k s0 = s at *
      have hk8 : (0 : Int) ≤ (k : Int) := by omega
      have hk9 : (k : Int) < (sl.length : Int) := by omega
      have hlq : b < (wr0.alloc (.cells #[.int .i8 s.x, .int .i8 s.y, .int .i8 s.w, .int .i8 s.h] 127)).heap.size := by simp; omega
      have hlc : wr0.heap.size < (wr0.alloc (.cells #[.int .i8 s.x, .int .i8 s.y, .int .i8 s.w, .int .i8 s.h] 127)).heap.size := by simp
      have hbd : Below wr0.heap.size wr0 (wr0.alloc (.cells #[.int .i8 s.x, .int .i8 s.y, .int .i8 s.w, .int .i8 s.h] 127)) := (Below.refl _ _).alloc (Nat.le_refl _) _
      have hS : LyS0 (wr0.alloc (.cells #[.int .i8 s.x, .int .i8 s.y, .int .i8 s.w, .int .i8 s.h] 127)) b o wr0.heap.size w h (.slice (some ⟨b3, o3, none⟩) sl.length cap) s (wr0.alloc (.cells #[.int .i8 s.x, .int .i8 s.y, .int .i8 s.w, .int .i8 s.h] 127)) :=
        ⟨Below.refl _ _, (hbd.cell (p := ⟨b, _, none⟩) hqlt0).trans c0, (hbd.cell (p := ⟨b, _, none⟩) hqlt0).trans c1, (hbd.cell (p := ⟨b, _, none⟩) hqlt0).trans c2, by simp, by simp, by simp, by simp⟩
      have HBD := Lib.hid hbd
      have hcs := Lib.hid hlc
      have hgs := Lib.hid (show W.heap.size + 1 < wr0.heap.size from HB4.out.lt)
      go_wp2_with fail
      generalize wr0.alloc (.cells #[.int .i8 s.x, .int .i8 s.y, .int .i8 s.w, .int .i8 s.h] 127) = W2 at *
      have ql := Lib.hid (show ∀ W', LyS0 W2 b o wr0.heap.size w h (.slice (some ⟨b3, o3, none⟩) sl.length cap) s W' → Calls Try.prog 149 #[.pointer (some ⟨b, o, none⟩), .agg #[.int .i8 s.x, .int .i8 s.y, .int .i8 s.w, .int .i8 s.h]] W' (fun e w' => e = .returned (.bool (liesB w h s)) ∧ Below W'.heap.size W' w') from fun W' hS' => slies_calls b o w h w0 w1 h0 h1 _ s hsk.out W' ⟨hS'.2.1, hS'.2.2.1, hS'.2.2.2.1, Nat.lt_of_lt_of_le hlq hS'.1.size⟩)
      clear g0 g1 g2 g3 hbd c0 c1 c2
      cases hL : liesB w h s
      · have hR := Lib.hid (show slabsOk w h sl sl.length = false from slabsOk_no hlt (hpt.out.trans (by rw [hL]; simp)))
        rw [hL] at ql
        clear hpt hst hL pS pRow pSet pRead pEnd fS fRow fEnd fFree
        refine wp_region_held_drew (S := (LyS0 W2 b o wr0.heap.size w h (.slice (some ⟨b3, o3, none⟩) sl.length cap) s)) (by kernel_rfl) ?r12_hS0 (fun hHeld => ?r12_rest)
        case r12_hS0 => (try dsimp only); first | assumption | exact LyS0.keep hlq hlc (by assumption) ((Below.refl _ _).drew) | exact LyS0.keep hlq hlc (by assumption) (by assumption)
        refine wpAnyH_take (i := 0) (v := ?r12_vv0) (by (simp only [List.getElem?_toArray, List.getElem?_cons_succ, List.getElem?_cons_zero]; rfl)) (by kernel_rfl) (by kernel_rfl) (by kernel_rfl) (by exact fun _ _ _ h => h) (Or.inl ⟨by rfl, ?r12_hy0⟩) (by assumption) ?r12_rest0
        case r12_hy0 => intro w hSw; (try dsimp only at hSw); (go_simp <;> (with_reducible rfl))
        try simp only [Act.put, List.setIfInBounds_toArray, List.set_cons_zero, List.set_cons_succ]
        refine wpAnyH_take (i := 1) (v := ?r12_vv1) (by (simp only [List.getElem?_toArray, List.getElem?_cons_succ, List.getElem?_cons_zero]; rfl)) (by kernel_rfl) (by kernel_rfl) (by kernel_rfl) (by exact fun _ _ _ h => h) (Or.inl ⟨by rfl, ?r12_hy1⟩) (by assumption) ?r12_rest1
        case r12_hy1 => intro w hSw; (try dsimp only at hSw); (go_simp <;> (with_reducible rfl))
        try simp only [Act.put, List.setIfInBounds_toArray, List.set_cons_zero, List.set_cons_succ]
        refine wpAnyH_ready (rs := [2]) (by kernel_rfl) (by simp) ?_
        refine AllReadyH.cons (by (simp only [List.getElem?_toArray, List.getElem?_cons_succ, List.getElem?_cons_zero]; rfl)) (fun K hK => ?_) AllReadyH.nil
        go_simp
        (go_at_call 149; with_reducible refine (ql.out _ (by assumption)).mono ?_; rintro e w9 ⟨rfl, hb9⟩)
        try go_wp2_with fail
        refine hK.out _ _ ?r12_hS2 (fun hHeld => ?r12_r2)
        case r12_hS2 => (try dsimp only); first | assumption | exact LyS0.keep hlq hlc (by assumption) ((Below.refl _ _).drew) | exact LyS0.keep hlq hlc (by assumption) (by assumption)
        clear hK K
        try simp only [Act.put, List.setIfInBounds_toArray, List.set_cons_zero, List.set_cons_succ]
        refine wpAnyH_take (i := 3) (v := ?r12_vv3) (by (simp only [List.getElem?_toArray, List.getElem?_cons_succ, List.getElem?_cons_zero]; rfl)) (by kernel_rfl) (by kernel_rfl) (by kernel_rfl) (by exact fun _ _ _ h => h) (Or.inl ⟨by rfl, ?r12_hy3⟩) (by assumption) ?r12_rest3
        case r12_hy3 => intro w hSw; (try dsimp only at hSw); (go_simp <;> (with_reducible rfl))
        try simp only [Act.put, List.setIfInBounds_toArray, List.set_cons_zero, List.set_cons_succ]
        refine wpAnyH_take (i := 4) (v := ?r12_vv4) (by (simp only [List.getElem?_toArray, List.getElem?_cons_succ, List.getElem?_cons_zero]; rfl)) (by kernel_rfl) (by kernel_rfl) (by kernel_rfl) (by exact fun _ _ _ h => h) (Or.inl ⟨by rfl, ?r12_hy4⟩) (by assumption) ?r12_rest4
        case r12_hy4 => intro w hSw; (try dsimp only at hSw); (go_simp <;> (with_reducible rfl))
        try simp only [Act.put, List.setIfInBounds_toArray, List.set_cons_zero, List.set_cons_succ]
        refine wpAnyH_take (i := 5) (v := undef) (by (simp only [List.getElem?_toArray, List.getElem?_cons_succ, List.getElem?_cons_zero]; rfl)) (by kernel_rfl) (by kernel_rfl) (by kernel_rfl) (by exact fun _ _ _ h => h) (Or.inr ⟨by rfl, rfl⟩) (by assumption) ?_
        try simp only [Act.put, List.setIfInBounds_toArray, List.set_cons_zero, List.set_cons_succ]
        refine wpAnyH_take (i := 6) (v := undef) (by (simp only [List.getElem?_toArray, List.getElem?_cons_succ, List.getElem?_cons_zero]; rfl)) (by kernel_rfl) (by kernel_rfl) (by kernel_rfl) (by exact fun _ _ _ h => h) (Or.inr ⟨by rfl, rfl⟩) (by assumption) ?_
        try simp only [Act.put, List.setIfInBounds_toArray, List.set_cons_zero, List.set_cons_succ]
        refine wpAnyH_take (i := 7) (v := undef) (by (simp only [List.getElem?_toArray, List.getElem?_cons_succ, List.getElem?_cons_zero]; rfl)) (by kernel_rfl) (by kernel_rfl) (by kernel_rfl) (by exact fun _ _ _ h => h) (Or.inr ⟨by rfl, rfl⟩) (by assumption) ?_
        try simp only [Act.put, List.setIfInBounds_toArray, List.set_cons_zero, List.set_cons_succ]
        refine wpAnyH_take (i := 8) (v := undef) (by (simp only [List.getElem?_toArray, List.getElem?_cons_succ, List.getElem?_cons_zero]; rfl)) (by kernel_rfl) (by kernel_rfl) (by kernel_rfl) (by exact fun _ _ _ h => h) (Or.inr ⟨by rfl, rfl⟩) (by assumption) ?_
        try simp only [Act.put, List.setIfInBounds_toArray, List.set_cons_zero, List.set_cons_succ]
        refine wpAnyH_take (i := 9) (v := undef) (by (simp only [List.getElem?_toArray, List.getElem?_cons_succ, List.getElem?_cons_zero]; rfl)) (by kernel_rfl) (by kernel_rfl) (by kernel_rfl) (by exact fun _ _ _ h => h) (Or.inr ⟨by rfl, rfl⟩) (by assumption) ?_
        try simp only [Act.put, List.setIfInBounds_toArray, List.set_cons_zero, List.set_cons_succ]
        refine wpAnyH_take (i := 10) (v := undef) (by (simp only [List.getElem?_toArray, List.getElem?_cons_succ, List.getElem?_cons_zero]; rfl)) (by kernel_rfl) (by kernel_rfl) (by kernel_rfl) (by exact fun _ _ _ h => h) (Or.inr ⟨by rfl, rfl⟩) (by assumption) ?_
        try simp only [Act.put, List.setIfInBounds_toArray, List.set_cons_zero, List.set_cons_succ]
        refine wpAnyH_take (i := 11) (v := undef) (by (simp only [List.getElem?_toArray, List.getElem?_cons_succ, List.getElem?_cons_zero]; rfl)) (by kernel_rfl) (by kernel_rfl) (by kernel_rfl) (by exact fun _ _ _ h => h) (Or.inr ⟨by rfl, rfl⟩) (by assumption) ?_
        try simp only [Act.put, List.setIfInBounds_toArray, List.set_cons_zero, List.set_cons_succ]
        refine wpAnyH_take (i := 12) (v := undef) (by (simp only [List.getElem?_toArray, List.getElem?_cons_succ, List.getElem?_cons_zero]; rfl)) (by kernel_rfl) (by kernel_rfl) (by kernel_rfl) (by exact fun _ _ _ h => h) (Or.inr ⟨by rfl, rfl⟩) (by assumption) ?_
        try simp only [Act.put, List.setIfInBounds_toArray, List.set_cons_zero, List.set_cons_succ]
        refine wpAnyH_take (i := 13) (v := undef) (by (simp only [List.getElem?_toArray, List.getElem?_cons_succ, List.getElem?_cons_zero]; rfl)) (by kernel_rfl) (by kernel_rfl) (by kernel_rfl) (by exact fun _ _ _ h => h) (Or.inr ⟨by rfl, rfl⟩) (by assumption) ?_
        try simp only [Act.put, List.setIfInBounds_toArray, List.set_cons_zero, List.set_cons_succ]
        refine wpAnyH_take (i := 14) (v := undef) (by (simp only [List.getElem?_toArray, List.getElem?_cons_succ, List.getElem?_cons_zero]; rfl)) (by kernel_rfl) (by kernel_rfl) (by kernel_rfl) (by exact fun _ _ _ h => h) (Or.inr ⟨by rfl, rfl⟩) (by assumption) ?_
        try simp only [Act.put, List.setIfInBounds_toArray, List.set_cons_zero, List.set_cons_succ]
        refine wpAnyH_take (i := 15) (v := undef) (by (simp only [List.getElem?_toArray, List.getElem?_cons_succ, List.getElem?_cons_zero]; rfl)) (by kernel_rfl) (by kernel_rfl) (by kernel_rfl) (by exact fun _ _ _ h => h) (Or.inr ⟨by rfl, rfl⟩) (by assumption) ?_
        try simp only [Act.put, List.setIfInBounds_toArray, List.set_cons_zero, List.set_cons_succ]
        refine wpAnyH_take (i := 16) (v := undef) (by (simp only [List.getElem?_toArray, List.getElem?_cons_succ, List.getElem?_cons_zero]; rfl)) (by kernel_rfl) (by kernel_rfl) (by kernel_rfl) (by exact fun _ _ _ h => h) (Or.inr ⟨by rfl, rfl⟩) (by assumption) ?_
        try simp only [Act.put, List.setIfInBounds_toArray, List.set_cons_zero, List.set_cons_succ]
        refine wpAnyH_take (i := 17) (v := undef) (by (simp only [List.getElem?_toArray, List.getElem?_cons_succ, List.getElem?_cons_zero]; rfl)) (by kernel_rfl) (by kernel_rfl) (by kernel_rfl) (by exact fun _ _ _ h => h) (Or.inr ⟨by rfl, rfl⟩) (by assumption) ?_
        try simp only [Act.put, List.setIfInBounds_toArray, List.set_cons_zero, List.set_cons_succ]
        refine wpAnyH_take (i := 18) (v := undef) (by (simp only [List.getElem?_toArray, List.getElem?_cons_succ, List.getElem?_cons_zero]; rfl)) (by kernel_rfl) (by kernel_rfl) (by kernel_rfl) (by exact fun _ _ _ h => h) (Or.inr ⟨by rfl, rfl⟩) (by assumption) ?_
        try simp only [Act.put, List.setIfInBounds_toArray, List.set_cons_zero, List.set_cons_succ]
        refine wpAnyH_take (i := 19) (v := undef) (by (simp only [List.getElem?_toArray, List.getElem?_cons_succ, List.getElem?_cons_zero]; rfl)) (by kernel_rfl) (by kernel_rfl) (by kernel_rfl) (by exact fun _ _ _ h => h) (Or.inr ⟨by rfl, rfl⟩) (by assumption) ?_
        try simp only [Act.put, List.setIfInBounds_toArray, List.set_cons_zero, List.set_cons_succ]
        refine wpAnyH_take (i := 20) (v := ?r12_vv20) (by (simp only [List.getElem?_toArray, List.getElem?_cons_succ, List.getElem?_cons_zero]; rfl)) (by kernel_rfl) (by kernel_rfl) (by kernel_rfl) (by exact fun _ _ _ h => h) (Or.inl ⟨by rfl, ?r12_hy20⟩) (by assumption) ?r12_rest20
        case r12_hy20 => intro w hSw; (try dsimp only at hSw); (go_simp <;> (with_reducible rfl))
        try simp only [Act.put, List.setIfInBounds_toArray, List.set_cons_zero, List.set_cons_succ]
        refine wpAnyH_done (by kernel_rfl) ?_ _
        have HB9 := Lib.hid (show Below W2.heap.size W2 _ from And.left (b := _) (by assumption))
        have hq4 := Lib.hid ((HB4.out.ext HBD.out).ext HB9.out)
        have hq2 := Lib.hid ((HB2.out.ext HBD.out).ext HB9.out)
        go_wp2_with (first | (refine wpList_load_bk rfl 70 (.tmp 4) rfl _ rfl _ _ _ _ hq4.out Try.underlying70 (ginfo _ (by simp [partL_len, gridL_len])) ?_) | (refine wpList_store_bk rfl 70 (.tmp 2) (.tmp 72) rfl _ (gcells (gridL (sl.take k))) rfl rfl _ _ hq2.out (by simp [gcells_size, partL_len, gridL_len]) (ginfo _ (by simp [partL_len, gridL_len])) (gcells_one _) ?_))
        intro w8 hB8 hG8
        go_wp2_with fail
        (try simp only [Exit.inBlock, Exit.then])
        refine lay_ret Try.results80 rfl hB8 Try.underlying70 (ginfo _ (by simp [partL_len, gridL_len])) rfl ?_
        exact ⟨_, by rw [hR.out]; rfl, by simp [partL_len, gridL_len], by rw [hR.out]; simp, ((HB.out.trans (HBD.out.mono HB.out.size)).trans (HB9.out.mono (Nat.le_trans HB.out.size HBD.out.size))).grown hG8 (Nat.le_trans HB.out.size (Nat.le_trans HBD.out.size HB9.out.size)) (fun j hj => by injection hj with hj; omega)⟩
      have HL := Lib.hid hL
      rw [hL] at ql
      have hlb : 0 ≤ s.x ∧ 0 ≤ s.y ∧ 1 ≤ s.w ∧ 1 ≤ s.h ∧ s.x + s.w ≤ w ∧ s.y + s.h ≤ h := by simpa [liesB] using hL
      clear hL
      rcases Nat.eq_zero_or_pos k with rfl | hk0
      · have hpt2 := Lib.hid (hpt.out.trans (show _ = !(sl.take 0).any (fun t => meetsB s t) from by rw [HL.out]; simp))
        have hd0 : decide ((0 : Int) < ((0 : Nat) : Int)) = false := by decide
        clear hpt
        refine wp_region_held_drew (S := (LyS0 W2 b o wr0.heap.size w h (.slice (some ⟨b3, o3, none⟩) sl.length cap) s)) (by kernel_rfl) ?r13_hS0 (fun hHeld => ?r13_rest)
        case r13_hS0 => (try dsimp only); first | assumption | exact LyS0.keep hlq hlc (by assumption) ((Below.refl _ _).drew) | exact LyS0.keep hlq hlc (by assumption) (by assumption)
        refine wpAnyH_take (i := 0) (v := ?r13_vv0) (by (simp only [List.getElem?_toArray, List.getElem?_cons_succ, List.getElem?_cons_zero]; rfl)) (by kernel_rfl) (by kernel_rfl) (by kernel_rfl) (by exact fun _ _ _ h => h) (Or.inl ⟨by rfl, ?r13_hy0⟩) (by assumption) ?r13_rest0
        case r13_hy0 => intro w hSw; (try dsimp only at hSw); (go_simp <;> (with_reducible rfl))
        try simp only [Act.put, List.setIfInBounds_toArray, List.set_cons_zero, List.set_cons_succ]
        refine wpAnyH_take (i := 1) (v := ?r13_vv1) (by (simp only [List.getElem?_toArray, List.getElem?_cons_succ, List.getElem?_cons_zero]; rfl)) (by kernel_rfl) (by kernel_rfl) (by kernel_rfl) (by exact fun _ _ _ h => h) (Or.inl ⟨by rfl, ?r13_hy1⟩) (by assumption) ?r13_rest1
        case r13_hy1 => intro w hSw; (try dsimp only at hSw); (go_simp <;> (with_reducible rfl))
        try simp only [Act.put, List.setIfInBounds_toArray, List.set_cons_zero, List.set_cons_succ]
        refine wpAnyH_ready (rs := [2]) (by kernel_rfl) (by simp) ?_
        refine AllReadyH.cons (by (simp only [List.getElem?_toArray, List.getElem?_cons_succ, List.getElem?_cons_zero]; rfl)) (fun K hK => ?_) AllReadyH.nil
        go_simp
        (go_at_call 149; with_reducible refine (ql.out _ (by assumption)).mono ?_; rintro e w9 ⟨rfl, hb9⟩)
        try go_wp2_with fail
        refine hK.out _ _ ?r13_hS2 (fun hHeld => ?r13_r2)
        case r13_hS2 => (try dsimp only); first | assumption | exact LyS0.keep hlq hlc (by assumption) ((Below.refl _ _).drew) | exact LyS0.keep hlq hlc (by assumption) (by assumption)
        clear hK K
        try simp only [Act.put, List.setIfInBounds_toArray, List.set_cons_zero, List.set_cons_succ]
        refine wpAnyH_take (i := 3) (v := ?r13_vv3) (by (simp only [List.getElem?_toArray, List.getElem?_cons_succ, List.getElem?_cons_zero]; rfl)) (by kernel_rfl) (by kernel_rfl) (by kernel_rfl) (by exact fun _ _ _ h => h) (Or.inl ⟨by rfl, ?r13_hy3⟩) (by assumption) ?r13_rest3
        case r13_hy3 => intro w hSw; (try dsimp only at hSw); (go_simp <;> (with_reducible rfl))
        try simp only [Act.put, List.setIfInBounds_toArray, List.set_cons_zero, List.set_cons_succ]
        refine wpAnyH_take (i := 4) (v := ?r13_vv4) (by (simp only [List.getElem?_toArray, List.getElem?_cons_succ, List.getElem?_cons_zero]; rfl)) (by kernel_rfl) (by kernel_rfl) (by kernel_rfl) (by exact fun _ _ _ h => h) (Or.inl ⟨by rfl, ?r13_hy4⟩) (by assumption) ?r13_rest4
        case r13_hy4 => intro w hSw; (try dsimp only at hSw); (go_simp <;> (with_reducible rfl))
        try simp only [Act.put, List.setIfInBounds_toArray, List.set_cons_zero, List.set_cons_succ]
        refine wpAnyH_take (i := 5) (v := ?r13_vv5) (by (simp only [List.getElem?_toArray, List.getElem?_cons_succ, List.getElem?_cons_zero]; rfl)) (by kernel_rfl) (by kernel_rfl) (by kernel_rfl) (by exact fun _ _ _ h => h) (Or.inl ⟨by rfl, ?r13_hy5⟩) (by assumption) ?r13_rest5
        case r13_hy5 => intro w hSw; (try dsimp only at hSw); (go_simp <;> (with_reducible rfl))
        try simp only [Act.put, List.setIfInBounds_toArray, List.set_cons_zero, List.set_cons_succ]
        refine wpAnyH_take (i := 6) (v := ?r13_vv6) (by (simp only [List.getElem?_toArray, List.getElem?_cons_succ, List.getElem?_cons_zero]; rfl)) (by kernel_rfl) (by kernel_rfl) (by kernel_rfl) (by exact fun _ _ _ h => h) (Or.inl ⟨by rfl, ?r13_hy6⟩) (by assumption) ?r13_rest6
        case r13_hy6 => intro w hSw; (try dsimp only at hSw); (go_simp <;> (with_reducible rfl))
        try simp only [Act.put, List.setIfInBounds_toArray, List.set_cons_zero, List.set_cons_succ]
        refine wpAnyH_take (i := 7) (v := ?r13_vv7) (by (simp only [List.getElem?_toArray, List.getElem?_cons_succ, List.getElem?_cons_zero]; rfl)) (by kernel_rfl) (by kernel_rfl) (by kernel_rfl) (by exact fun _ _ _ h => h) (Or.inl ⟨by rfl, ?r13_hy7⟩) (by assumption) ?r13_rest7
        case r13_hy7 => intro w hSw; (try dsimp only at hSw); (go_simp <;> (with_reducible rfl))
        try simp only [Act.put, List.setIfInBounds_toArray, List.set_cons_zero, List.set_cons_succ]
        refine wpAnyH_take (i := 8) (v := undef) (by (simp only [List.getElem?_toArray, List.getElem?_cons_succ, List.getElem?_cons_zero]; rfl)) (by kernel_rfl) (by kernel_rfl) (by kernel_rfl) (by exact fun _ _ _ h => h) (Or.inr ⟨by rfl, rfl⟩) (by assumption) ?_
        try simp only [Act.put, List.setIfInBounds_toArray, List.set_cons_zero, List.set_cons_succ]
        refine wpAnyH_take (i := 9) (v := undef) (by (simp only [List.getElem?_toArray, List.getElem?_cons_succ, List.getElem?_cons_zero]; rfl)) (by kernel_rfl) (by kernel_rfl) (by kernel_rfl) (by exact fun _ _ _ h => h) (Or.inr ⟨by rfl, rfl⟩) (by assumption) ?_
        try simp only [Act.put, List.setIfInBounds_toArray, List.set_cons_zero, List.set_cons_succ]
        refine wpAnyH_take (i := 10) (v := undef) (by (simp only [List.getElem?_toArray, List.getElem?_cons_succ, List.getElem?_cons_zero]; rfl)) (by kernel_rfl) (by kernel_rfl) (by kernel_rfl) (by exact fun _ _ _ h => h) (Or.inr ⟨by rfl, rfl⟩) (by assumption) ?_
        try simp only [Act.put, List.setIfInBounds_toArray, List.set_cons_zero, List.set_cons_succ]
        refine wpAnyH_take (i := 11) (v := undef) (by (simp only [List.getElem?_toArray, List.getElem?_cons_succ, List.getElem?_cons_zero]; rfl)) (by kernel_rfl) (by kernel_rfl) (by kernel_rfl) (by exact fun _ _ _ h => h) (Or.inr ⟨by rfl, rfl⟩) (by assumption) ?_
        try simp only [Act.put, List.setIfInBounds_toArray, List.set_cons_zero, List.set_cons_succ]
        refine wpAnyH_take (i := 12) (v := undef) (by (simp only [List.getElem?_toArray, List.getElem?_cons_succ, List.getElem?_cons_zero]; rfl)) (by kernel_rfl) (by kernel_rfl) (by kernel_rfl) (by exact fun _ _ _ h => h) (Or.inr ⟨by rfl, rfl⟩) (by assumption) ?_
        try simp only [Act.put, List.setIfInBounds_toArray, List.set_cons_zero, List.set_cons_succ]
        refine wpAnyH_take (i := 13) (v := undef) (by (simp only [List.getElem?_toArray, List.getElem?_cons_succ, List.getElem?_cons_zero]; rfl)) (by kernel_rfl) (by kernel_rfl) (by kernel_rfl) (by exact fun _ _ _ h => h) (Or.inr ⟨by rfl, rfl⟩) (by assumption) ?_
        try simp only [Act.put, List.setIfInBounds_toArray, List.set_cons_zero, List.set_cons_succ]
        refine wpAnyH_take (i := 14) (v := undef) (by (simp only [List.getElem?_toArray, List.getElem?_cons_succ, List.getElem?_cons_zero]; rfl)) (by kernel_rfl) (by kernel_rfl) (by kernel_rfl) (by exact fun _ _ _ h => h) (Or.inr ⟨by rfl, rfl⟩) (by assumption) ?_
        try simp only [Act.put, List.setIfInBounds_toArray, List.set_cons_zero, List.set_cons_succ]
        refine wpAnyH_take (i := 15) (v := undef) (by (simp only [List.getElem?_toArray, List.getElem?_cons_succ, List.getElem?_cons_zero]; rfl)) (by kernel_rfl) (by kernel_rfl) (by kernel_rfl) (by exact fun _ _ _ h => h) (Or.inr ⟨by rfl, rfl⟩) (by assumption) ?_
        try simp only [Act.put, List.setIfInBounds_toArray, List.set_cons_zero, List.set_cons_succ]
        refine wpAnyH_take (i := 16) (v := undef) (by (simp only [List.getElem?_toArray, List.getElem?_cons_succ, List.getElem?_cons_zero]; rfl)) (by kernel_rfl) (by kernel_rfl) (by kernel_rfl) (by exact fun _ _ _ h => h) (Or.inr ⟨by rfl, rfl⟩) (by assumption) ?_
        try simp only [Act.put, List.setIfInBounds_toArray, List.set_cons_zero, List.set_cons_succ]
        refine wpAnyH_take (i := 17) (v := undef) (by (simp only [List.getElem?_toArray, List.getElem?_cons_succ, List.getElem?_cons_zero]; rfl)) (by kernel_rfl) (by kernel_rfl) (by kernel_rfl) (by exact fun _ _ _ h => h) (Or.inr ⟨by rfl, rfl⟩) (by assumption) ?_
        try simp only [Act.put, List.setIfInBounds_toArray, List.set_cons_zero, List.set_cons_succ]
        refine wpAnyH_take (i := 18) (v := undef) (by (simp only [List.getElem?_toArray, List.getElem?_cons_succ, List.getElem?_cons_zero]; rfl)) (by kernel_rfl) (by kernel_rfl) (by kernel_rfl) (by exact fun _ _ _ h => h) (Or.inr ⟨by rfl, rfl⟩) (by assumption) ?_
        try simp only [Act.put, List.setIfInBounds_toArray, List.set_cons_zero, List.set_cons_succ]
        refine wpAnyH_take (i := 19) (v := ?r13_vv19) (by (simp only [List.getElem?_toArray, List.getElem?_cons_succ, List.getElem?_cons_zero]; rfl)) (by kernel_rfl) (by kernel_rfl) (by kernel_rfl) (by exact fun _ _ _ h => h) (Or.inl ⟨by rfl, ?r13_hy19⟩) (by assumption) ?r13_rest19
        case r13_hy19 => intro w hSw; (try dsimp only at hSw); (go_simp <;> (with_reducible rfl))
        try simp only [Act.put, List.setIfInBounds_toArray, List.set_cons_zero, List.set_cons_succ]
        refine wpAnyH_take (i := 20) (v := ?r13_vv20) (by (simp only [List.getElem?_toArray, List.getElem?_cons_succ, List.getElem?_cons_zero]; rfl)) (by kernel_rfl) (by kernel_rfl) (by kernel_rfl) (by exact fun _ _ _ h => h) (Or.inl ⟨by rfl, ?r13_hy20⟩) (by assumption) ?r13_rest20
        case r13_hy20 => intro w hSw; (try dsimp only at hSw); (go_simp <;> (with_reducible rfl))
        try simp only [Act.put, List.setIfInBounds_toArray, List.set_cons_zero, List.set_cons_succ]
        refine wpAnyH_done (by kernel_rfl) ?_ _
        have HB9 := Lib.hid (show Below W2.heap.size W2 _ from And.left (b := _) (by assumption))
        have G4 := Lib.hid ((HB4.out.ext HBD.out).ext HB9.out)
        have G2 := Lib.hid ((HB2.out.ext HBD.out).ext HB9.out)
        have hS3 : LyS0 W2 b o wr0.heap.size w h (.slice (some ⟨b3, o3, none⟩) sl.length cap) s w9 := by first | assumption | exact And.left (b := _) (by assumption)
        obtain ⟨-, d0, d1, d2, q0, q1, q2, q3⟩ := hS3
        have hne := Lib.hid (show some wr0.heap.size ≠ some (W.heap.size + 1) from by intro h; injection h with h; have := hgs.out; omega)
        have hw12 := Lib.hid (show w ≤ 12 ∧ h ≤ 12 from ⟨hEB.out.1.2, hEB.out.2.2⟩)
        obtain ⟨l0, l1, l2, l3, l4, l5⟩ := hlb
        obtain ⟨hw9, hh9⟩ := hw12.out
        have hwy : IntKind.i8.wrap (s.y + s.h) = s.y + s.h := wrap8In _ (by omega) (by omega)
        have hwx : IntKind.i8.wrap (s.x + s.w) = s.x + s.w := wrap8In _ (by omega) (by omega)
        have hsz3 := Lib.hid (show W.heap.size ≤ w9.heap.size from (Nat.le_trans HB.out.size (Nat.le_trans HBD.out.size HB9.out.size)))
        have hb3w := Lib.hid (show Below W.heap.size W w9 from ((HB.out.trans (HBD.out.mono HB.out.size)).trans (HB9.out.mono (Nat.le_trans HB.out.size HBD.out.size))))
        obtain ⟨W3, hW3⟩ : ∃ W3 : World, W3 = w9 := ⟨_, rfl⟩
        rw [← hW3] at G4 G2 q0 q1 q2 q3 hsz3 hb3w ⊢
        clear hW3
        go_wp2_with fail
        go_loopw [7] (fun y wr => ∃ yn : Nat, y = .int .i8 (yn : Int) ∧ s.y ≤ (yn : Int) ∧ (yn : Int) ≤ s.y + s.h ∧ freeTo sl 0 (yn : Int) s.x ∧ Bk wr (W.heap.size + 1) 70 (gcells (partL sl 0 (yn : Int) s.x)) ∧ W3.grownBy wr (some (W.heap.size + 1))) (fun y _ => (s.y + s.h - intOf y).toNat)
        case atStart =>
          have e : ((s.y.toNat : Nat) : Int) = s.y := Int.toNat_of_nonneg l1
          exact ⟨s.y.toNat, by rw [e], by omega, by omega, by rw [e]; exact fS.out, by rw [e, pS.out]; exact G4.out, World.grownBy.refl _ _⟩
        case round =>
          obtain ⟨yn, rfl, hy0, hy1, hf, hB, hG⟩ := hrel
          obtain ⟨wy, rfl⟩ : ∃ wy : World, wy = wr := ⟨_, rfl⟩
          have HF := Lib.hid hf
          have HBy := Lib.hid hB
          have HGy := Lib.hid hG
          clear hf hB
          have t0 := hG.cell q0 hne.out
          have t1 := hG.cell q1 hne.out
          have t2 := hG.cell q2 hne.out
          have t3 := hG.cell q3 hne.out
          have hwy1 : IntKind.i8.wrap ((yn : Int) + 1) = (yn : Int) + 1 := wrap8In _ (by omega) (by omega)
          by_cases hlty : (yn : Int) < s.y + s.h
          · have dy : decide ((yn : Int) < s.y + s.h) = true := decide_eq_true hlty
            go_wp2_with fail
            go_loopw [8] (fun x wr => ∃ xn : Nat, x = .int .i8 (xn : Int) ∧ s.x ≤ (xn : Int) ∧ (xn : Int) ≤ s.x + s.w ∧ freeTo sl 0 (yn : Int) (xn : Int) ∧ Bk wr (W.heap.size + 1) 70 (gcells (partL sl 0 (yn : Int) (xn : Int))) ∧ W3.grownBy wr (some (W.heap.size + 1))) (fun x _ => (s.x + s.w - intOf x).toNat)
            case atStart =>
              have e : ((s.x.toNat : Nat) : Int) = s.x := Int.toNat_of_nonneg l0
              exact ⟨s.x.toNat, by rw [e], by omega, by omega, by rw [e]; exact HF.out, by rw [e]; exact HBy.out, HGy.out⟩
            case round =>
              obtain ⟨xn, rfl, hx0, hx1, hf, hB, hG'⟩ := hrel
              obtain ⟨wx, rfl⟩ : ∃ wx : World, wx = wr := ⟨_, rfl⟩
              have HFx := Lib.hid hf
              have HBx := Lib.hid hB
              have HGx := Lib.hid hG'
              clear hf hB t0 t1 t2 t3
              have t0 := hG'.cell q0 hne.out
              have t1 := hG'.cell q1 hne.out
              have t2 := hG'.cell q2 hne.out
              have t3 := hG'.cell q3 hne.out
              have hwx1 : IntKind.i8.wrap ((xn : Int) + 1) = (xn : Int) + 1 := wrap8In _ (by omega) (by omega)
              by_cases hltx : (xn : Int) < s.x + s.w
              · have dx : decide ((xn : Int) < s.x + s.w) = true := decide_eq_true hltx
                have hcov := Lib.hid (show covB s (xn : Int) (yn : Int) = true from by simp only [covB, decide_eq_true_eq]; omega)
                have n0 : (0 : Int) ≤ (xn : Int) := by omega
                have n1 : (xn : Int) < 12 := by omega
                have n2 : (0 : Int) ≤ (yn : Int) := by omega
                have n3 : (yn : Int) < 12 := by omega
                have hv := HBx.out.cell (yn * 12 + xn) _ (gcells_get _ _ _ (pRead.out xn yn (by omega) (by omega)))
                have hfz := HBx.out.frz (yn * 12 + xn)
                by_cases hz0 : atI (sl.take 0) (xn : Int) (yn : Int) = -1
                · rw [hz0] at hv
                  have hv : wx.cell? ⟨W.heap.size + 1, yn * 12 + xn, none⟩ = some (.int .i64 0) := hv
                  have hSet := Lib.hid (pSet.out xn yn (by omega) (by omega) hcov.out)
                  have hFn := Lib.hid (freeTo_step HFx.out hz0)
                  clear hz0
                  go_wp2_with fail
                  have hBn := HBx.out.set (yn * 12 + xn) (.int .i64 (((0 : Nat) : Int) + 1))
                  rw [gcells_set, ← hSet.out] at hBn
                  have hBn := Lib.hid hBn
                  go_roundw
                  case rel => exact ⟨xn + 1, by first | go_num | simp, by omega, by omega, by simpa using hFn.out, by simpa using hBn.out, HGx.out.trans (grownBy_set _ _ _ _)⟩
                  case measure => first | (simp [intOf]; done) | (simp [intOf]; omega)
                · have hR := Lib.hid (show slabsOk w h sl sl.length = false from slabsOk_no hlt (hpt2.out.trans (by
                    cases ha : (sl.take 0).any (fun t => meetsB s t)
                    · exact absurd ((fFree.out HL.out).1 ha _ _ hcov.out) hz0
                    · rfl)))
                  have hvn : (atI (sl.take 0) (xn : Int) (yn : Int) + 1 != 0) = true := by rw [bne_iff_ne]; omega
                  generalize atI (sl.take 0) (xn : Int) (yn : Int) + 1 = v at *
                  clear hz0
                  have hq4 := HBx
                  have hq2 := Lib.hid (G2.out.grown HGx.out (by omega))
                  go_wp2_with (first | (refine wpList_load_bk rfl 70 (.tmp 4) rfl _ rfl _ _ _ _ hq4.out Try.underlying70 (ginfo _ (by simp [partL_len, gridL_len])) ?_) | (refine wpList_store_bk rfl 70 (.tmp 2) (.tmp 101) rfl _ (gcells (partL sl 0 (yn : Int) (xn : Int))) rfl rfl _ _ hq2.out (by simp [gcells_size, partL_len, gridL_len]) (ginfo _ (by simp [partL_len, gridL_len])) (gcells_one _) ?_))
                  intro w8 hB8 hG8
                  go_wp2_with fail
                  (try simp only [Exit.inBlock, Exit.then])
                  refine lay_ret Try.results80 rfl hB8 Try.underlying70 (ginfo _ (by simp [partL_len, gridL_len])) rfl ?_
                  exact ⟨_, by rw [hR.out]; rfl, by simp [partL_len, gridL_len], by rw [hR.out]; simp, (hb3w.out.grown HGx.out hsz3.out (fun j hj => by injection hj with hj; omega)).grown hG8 (Nat.le_trans hsz3.out HGx.out.size) (fun j hj => by injection hj with hj; omega)⟩
              · have ex : (xn : Int) = s.x + s.w := by omega
                have dx : decide ((xn : Int) < s.x + s.w) = false := decide_eq_false hltx
                have hFn := Lib.hid (fRow.out _ (ex ▸ HFx.out))
                have hBn := Lib.hid (show Bk wx (W.heap.size + 1) 70 (gcells (partL sl 0 ((yn : Int) + 1) s.x)) from by rw [← pRow.out, ← ex]; exact HBx.out)
                clear ex
                go_wp2_with fail
                go_roundw
                case rel => exact ⟨yn + 1, by first | go_num | simp, by omega, by omega, by simpa using hFn.out, by simpa using hBn.out, HGx.out⟩
                case measure => first | (simp [intOf]; done) | (simp [intOf]; omega)
          · have ey : (yn : Int) = s.y + s.h := by omega
            have dy : decide ((yn : Int) < s.y + s.h) = false := decide_eq_false hlty
            have hfe := Lib.hid (fEnd.out (ey ▸ HF.out))
            have hsk1 := Lib.hid (show slabsOk w h sl (0 + 1) = true from by rw [hst.out, HOK.out, hpt2.out, (fFree.out HL.out).2 hfe.out]; rfl)
            have hBn := Lib.hid (show Bk wy (W.heap.size + 1) 70 (gcells (gridL (sl.take (0 + 1)))) from by rw [← pEnd.out hfe.out, ← ey]; exact HBy.out)
            clear ey
            go_wp2_with fail
            go_roundw
            case rel => exact ⟨0 + 1, by omega, by go_num, hsk1.out, hBn.out, G2.out.grown HGy.out (by omega), hb3w.out.grown HGy.out hsz3.out (fun j hj => by injection hj with hj; omega)⟩
            case measure => first | (simp [intOf]; done) | (simp [intOf]; omega)
      obtain ⟨m, rfl⟩ : ∃ m, k = m + 1 := ⟨k - 1, by omega⟩
      obtain ⟨s', hs'ok, hs'd, hs'at⟩ := HP1.out hk0
      simp only [Nat.add_sub_cancel] at hs'd hs'at hpt
      rw [hs'd] at hpt
      obtain ⟨hs1, hs2, hs3, hs4⟩ := Slab.at_ext hs'at HBD.out hbo.out
      have qb := Lib.hid (show ∀ W', Calls Try.prog 150 #[.agg #[.int .i8 s'.x, .int .i8 s'.y, .int .i8 s'.w, .int .i8 s'.h], .agg #[.int .i8 s.x, .int .i8 s.y, .int .i8 s.w, .int .i8 s.h]] W' (fun e w' => e = .returned (.bool (beforeB s' s)) ∧ Below W'.heap.size W' w') from fun W' => sbefore_calls s' s W')
      have hlp : b3 < W2.heap.size := Nat.lt_of_lt_of_le hbo.out HBD.out.size
      have hS2 : LyS W2 b o wr0.heap.size w h (.slice (some ⟨b3, o3, none⟩) sl.length cap) s b3 (o3 + m * 4) s' W2 := ⟨hS, hs1, hs2, hs3, hs4⟩
      have hd0 : decide ((0 : Int) < ((m + 1 : Nat) : Int)) = true := by rw [decide_eq_true_eq]; omega
      have hm8 : (0 : Int) ≤ (m : Int) := by omega
      have hm9 : (m : Int) < (sl.length : Int) := by omega
      have hwm : IntKind.i64.wrap (m : Int) = (m : Int) := wrapIn _ (by omega) (by omega)
      clear hs'd hs'at hS hs1 hs2 hs3 hs4
      cases hCC : beforeB s' s
      · have hR := Lib.hid (show slabsOk w h sl sl.length = false from slabsOk_no hlt (hpt.out.trans (by rw [hCC]; simp)))
        rw [hCC] at qb
        clear hpt hst hCC pS pRow pSet pRead pEnd fS fRow fEnd fFree
        refine wp_region_held_drew (S := (LyS W2 b o wr0.heap.size w h (.slice (some ⟨b3, o3, none⟩) sl.length cap) s b3 (o3 + m * 4) s')) (by kernel_rfl) ?r14_hS0 (fun hHeld => ?r14_rest)
        case r14_hS0 => (try dsimp only); first | assumption | exact LyS.keep hlq hlc hlp (by assumption) ((Below.refl _ _).drew) | exact LyS.keep hlq hlc hlp (by assumption) (by assumption)
        refine wpAnyH_take (i := 0) (v := ?r14_vv0) (by (simp only [List.getElem?_toArray, List.getElem?_cons_succ, List.getElem?_cons_zero]; rfl)) (by kernel_rfl) (by kernel_rfl) (by kernel_rfl) (by exact fun _ _ _ h => h) (Or.inl ⟨by rfl, ?r14_hy0⟩) (by assumption) ?r14_rest0
        case r14_hy0 => intro w hSw; (try dsimp only at hSw); (go_simp <;> (with_reducible rfl))
        try simp only [Act.put, List.setIfInBounds_toArray, List.set_cons_zero, List.set_cons_succ]
        refine wpAnyH_take (i := 1) (v := ?r14_vv1) (by (simp only [List.getElem?_toArray, List.getElem?_cons_succ, List.getElem?_cons_zero]; rfl)) (by kernel_rfl) (by kernel_rfl) (by kernel_rfl) (by exact fun _ _ _ h => h) (Or.inl ⟨by rfl, ?r14_hy1⟩) (by assumption) ?r14_rest1
        case r14_hy1 => intro w hSw; (try dsimp only at hSw); (go_simp <;> (with_reducible rfl))
        try simp only [Act.put, List.setIfInBounds_toArray, List.set_cons_zero, List.set_cons_succ]
        refine wpAnyH_ready (rs := [2]) (by kernel_rfl) (by simp) ?_
        refine AllReadyH.cons (by (simp only [List.getElem?_toArray, List.getElem?_cons_succ, List.getElem?_cons_zero]; rfl)) (fun K hK => ?_) AllReadyH.nil
        go_simp
        (go_at_call 149; with_reducible refine (ql.out _ (And.left (b := _) (by assumption))).mono ?_; rintro e w9 ⟨rfl, hb9⟩)
        try go_wp2_with fail
        refine hK.out _ _ ?r14_hS2 (fun hHeld => ?r14_r2)
        case r14_hS2 => (try dsimp only); first | assumption | exact LyS.keep hlq hlc hlp (by assumption) ((Below.refl _ _).drew) | exact LyS.keep hlq hlc hlp (by assumption) (by assumption)
        clear hK K
        try simp only [Act.put, List.setIfInBounds_toArray, List.set_cons_zero, List.set_cons_succ]
        refine wpAnyH_take (i := 3) (v := ?r14_vv3) (by (simp only [List.getElem?_toArray, List.getElem?_cons_succ, List.getElem?_cons_zero]; rfl)) (by kernel_rfl) (by kernel_rfl) (by kernel_rfl) (by exact fun _ _ _ h => h) (Or.inl ⟨by rfl, ?r14_hy3⟩) (by assumption) ?r14_rest3
        case r14_hy3 => intro w hSw; (try dsimp only at hSw); (go_simp <;> (with_reducible rfl))
        try simp only [Act.put, List.setIfInBounds_toArray, List.set_cons_zero, List.set_cons_succ]
        refine wpAnyH_take (i := 4) (v := ?r14_vv4) (by (simp only [List.getElem?_toArray, List.getElem?_cons_succ, List.getElem?_cons_zero]; rfl)) (by kernel_rfl) (by kernel_rfl) (by kernel_rfl) (by exact fun _ _ _ h => h) (Or.inl ⟨by rfl, ?r14_hy4⟩) (by assumption) ?r14_rest4
        case r14_hy4 => intro w hSw; (try dsimp only at hSw); (go_simp <;> (with_reducible rfl))
        try simp only [Act.put, List.setIfInBounds_toArray, List.set_cons_zero, List.set_cons_succ]
        refine wpAnyH_take (i := 5) (v := ?r14_vv5) (by (simp only [List.getElem?_toArray, List.getElem?_cons_succ, List.getElem?_cons_zero]; rfl)) (by kernel_rfl) (by kernel_rfl) (by kernel_rfl) (by exact fun _ _ _ h => h) (Or.inl ⟨by rfl, ?r14_hy5⟩) (by assumption) ?r14_rest5
        case r14_hy5 => intro w hSw; (try dsimp only at hSw); (go_simp <;> (with_reducible rfl))
        try simp only [Act.put, List.setIfInBounds_toArray, List.set_cons_zero, List.set_cons_succ]
        refine wpAnyH_take (i := 6) (v := ?r14_vv6) (by (simp only [List.getElem?_toArray, List.getElem?_cons_succ, List.getElem?_cons_zero]; rfl)) (by kernel_rfl) (by kernel_rfl) (by kernel_rfl) (by exact fun _ _ _ h => h) (Or.inl ⟨by rfl, ?r14_hy6⟩) (by assumption) ?r14_rest6
        case r14_hy6 => intro w hSw; (try dsimp only at hSw); (go_simp <;> (with_reducible rfl))
        try simp only [Act.put, List.setIfInBounds_toArray, List.set_cons_zero, List.set_cons_succ]
        refine wpAnyH_take (i := 7) (v := ?r14_vv7) (by (simp only [List.getElem?_toArray, List.getElem?_cons_succ, List.getElem?_cons_zero]; rfl)) (by kernel_rfl) (by kernel_rfl) (by kernel_rfl) (by exact fun _ _ _ h => h) (Or.inl ⟨by rfl, ?r14_hy7⟩) (by assumption) ?r14_rest7
        case r14_hy7 => intro w hSw; (try dsimp only at hSw); (go_simp <;> (with_reducible rfl))
        try simp only [Act.put, List.setIfInBounds_toArray, List.set_cons_zero, List.set_cons_succ]
        refine wpAnyH_take (i := 8) (v := ?r14_vv8) (by (simp only [List.getElem?_toArray, List.getElem?_cons_succ, List.getElem?_cons_zero]; rfl)) (by kernel_rfl) (by kernel_rfl) (by kernel_rfl) (by exact fun _ _ _ h => h) (Or.inl ⟨by rfl, ?r14_hy8⟩) (by assumption) ?r14_rest8
        case r14_hy8 => intro w hSw; (try dsimp only at hSw); (go_simp <;> (with_reducible rfl))
        try simp only [Act.put, List.setIfInBounds_toArray, List.set_cons_zero, List.set_cons_succ]
        refine wpAnyH_take (i := 9) (v := ?r14_vv9) (by (simp only [List.getElem?_toArray, List.getElem?_cons_succ, List.getElem?_cons_zero]; rfl)) (by kernel_rfl) (by kernel_rfl) (by kernel_rfl) (by exact fun _ _ _ h => h) (Or.inl ⟨by rfl, ?r14_hy9⟩) (by assumption) ?r14_rest9
        case r14_hy9 => intro w hSw; (try dsimp only at hSw); (go_simp <;> (with_reducible rfl))
        try simp only [Act.put, List.setIfInBounds_toArray, List.set_cons_zero, List.set_cons_succ]
        refine wpAnyH_take (i := 10) (v := ?r14_vv10) (by (simp only [List.getElem?_toArray, List.getElem?_cons_succ, List.getElem?_cons_zero]; rfl)) (by kernel_rfl) (by kernel_rfl) (by kernel_rfl) (by exact fun _ _ _ h => h) (Or.inl ⟨by rfl, ?r14_hy10⟩) (by assumption) ?r14_rest10
        case r14_hy10 => intro w hSw; (try dsimp only at hSw); (go_simp <;> (with_reducible rfl))
        try simp only [Act.put, List.setIfInBounds_toArray, List.set_cons_zero, List.set_cons_succ]
        refine wpAnyH_take (i := 11) (v := ?r14_vv11) (by (simp only [List.getElem?_toArray, List.getElem?_cons_succ, List.getElem?_cons_zero]; rfl)) (by kernel_rfl) (by kernel_rfl) (by kernel_rfl) (by exact fun _ _ _ h => h) (Or.inl ⟨by rfl, ?r14_hy11⟩) (by assumption) ?r14_rest11
        case r14_hy11 => intro w hSw; (try dsimp only at hSw); (go_simp <;> (with_reducible rfl))
        try simp only [Act.put, List.setIfInBounds_toArray, List.set_cons_zero, List.set_cons_succ]
        refine wpAnyH_take (i := 12) (v := ?r14_vv12) (by (simp only [List.getElem?_toArray, List.getElem?_cons_succ, List.getElem?_cons_zero]; rfl)) (by kernel_rfl) (by kernel_rfl) (by kernel_rfl) (by exact fun _ _ _ h => h) (Or.inl ⟨by rfl, ?r14_hy12⟩) (by assumption) ?r14_rest12
        case r14_hy12 => intro w hSw; (try dsimp only at hSw); (go_simp <;> (with_reducible rfl))
        try simp only [Act.put, List.setIfInBounds_toArray, List.set_cons_zero, List.set_cons_succ]
        refine wpAnyH_take (i := 13) (v := ?r14_vv13) (by (simp only [List.getElem?_toArray, List.getElem?_cons_succ, List.getElem?_cons_zero]; rfl)) (by kernel_rfl) (by kernel_rfl) (by kernel_rfl) (by exact fun _ _ _ h => h) (Or.inl ⟨by rfl, ?r14_hy13⟩) (by assumption) ?r14_rest13
        case r14_hy13 => intro w hSw; (try dsimp only at hSw); (go_simp <;> (with_reducible rfl))
        try simp only [Act.put, List.setIfInBounds_toArray, List.set_cons_zero, List.set_cons_succ]
        refine wpAnyH_take (i := 14) (v := ?r14_vv14) (by (simp only [List.getElem?_toArray, List.getElem?_cons_succ, List.getElem?_cons_zero]; rfl)) (by kernel_rfl) (by kernel_rfl) (by kernel_rfl) (by exact fun _ _ _ h => h) (Or.inl ⟨by rfl, ?r14_hy14⟩) (by assumption) ?r14_rest14
        case r14_hy14 => intro w hSw; (try dsimp only at hSw); (go_simp <;> (with_reducible rfl))
        try simp only [Act.put, List.setIfInBounds_toArray, List.set_cons_zero, List.set_cons_succ]
        refine wpAnyH_take (i := 15) (v := ?r14_vv15) (by (simp only [List.getElem?_toArray, List.getElem?_cons_succ, List.getElem?_cons_zero]; rfl)) (by kernel_rfl) (by kernel_rfl) (by kernel_rfl) (by exact fun _ _ _ h => h) (Or.inl ⟨by rfl, ?r14_hy15⟩) (by assumption) ?r14_rest15
        case r14_hy15 => intro w hSw; (try dsimp only at hSw); (go_simp <;> (with_reducible rfl))
        try simp only [Act.put, List.setIfInBounds_toArray, List.set_cons_zero, List.set_cons_succ]
        refine wpAnyH_take (i := 16) (v := ?r14_vv16) (by (simp only [List.getElem?_toArray, List.getElem?_cons_succ, List.getElem?_cons_zero]; rfl)) (by kernel_rfl) (by kernel_rfl) (by kernel_rfl) (by exact fun _ _ _ h => h) (Or.inl ⟨by rfl, ?r14_hy16⟩) (by assumption) ?r14_rest16
        case r14_hy16 => intro w hSw; (try dsimp only at hSw); (go_simp <;> (with_reducible rfl))
        try simp only [Act.put, List.setIfInBounds_toArray, List.set_cons_zero, List.set_cons_succ]
        refine wpAnyH_ready (rs := [17]) (by kernel_rfl) (by simp) ?_
        refine AllReadyH.cons (by (simp only [List.getElem?_toArray, List.getElem?_cons_succ, List.getElem?_cons_zero]; rfl)) (fun K hK => ?_) AllReadyH.nil
        go_simp
        (go_at_call 150; with_reducible refine (qb.out _).mono ?_; rintro e w10 ⟨rfl, hb10⟩)
        try go_wp2_with fail
        refine hK.out _ _ ?r14_hS17 (fun hHeld => ?r14_r17)
        case r14_hS17 => (try dsimp only); first | assumption | exact LyS.keep hlq hlc hlp (by assumption) ((Below.refl _ _).drew) | exact LyS.keep hlq hlc hlp (by assumption) (by assumption)
        clear hK K
        try simp only [Act.put, List.setIfInBounds_toArray, List.set_cons_zero, List.set_cons_succ]
        refine wpAnyH_take (i := 18) (v := ?r14_vv18) (by (simp only [List.getElem?_toArray, List.getElem?_cons_succ, List.getElem?_cons_zero]; rfl)) (by kernel_rfl) (by kernel_rfl) (by kernel_rfl) (by exact fun _ _ _ h => h) (Or.inl ⟨by rfl, ?r14_hy18⟩) (by assumption) ?r14_rest18
        case r14_hy18 => intro w hSw; (try dsimp only at hSw); (go_simp <;> (with_reducible rfl))
        try simp only [Act.put, List.setIfInBounds_toArray, List.set_cons_zero, List.set_cons_succ]
        refine wpAnyH_take (i := 19) (v := ?r14_vv19) (by (simp only [List.getElem?_toArray, List.getElem?_cons_succ, List.getElem?_cons_zero]; rfl)) (by kernel_rfl) (by kernel_rfl) (by kernel_rfl) (by exact fun _ _ _ h => h) (Or.inl ⟨by rfl, ?r14_hy19⟩) (by assumption) ?r14_rest19
        case r14_hy19 => intro w hSw; (try dsimp only at hSw); (go_simp <;> (with_reducible rfl))
        try simp only [Act.put, List.setIfInBounds_toArray, List.set_cons_zero, List.set_cons_succ]
        refine wpAnyH_take (i := 20) (v := ?r14_vv20) (by (simp only [List.getElem?_toArray, List.getElem?_cons_succ, List.getElem?_cons_zero]; rfl)) (by kernel_rfl) (by kernel_rfl) (by kernel_rfl) (by exact fun _ _ _ h => h) (Or.inl ⟨by rfl, ?r14_hy20⟩) (by assumption) ?r14_rest20
        case r14_hy20 => intro w hSw; (try dsimp only at hSw); (go_simp <;> (with_reducible rfl))
        try simp only [Act.put, List.setIfInBounds_toArray, List.set_cons_zero, List.set_cons_succ]
        refine wpAnyH_done (by kernel_rfl) ?_ _
        have HB9 := Lib.hid (show Below W2.heap.size W2 _ from And.left (b := _) (And.left (b := _) (by assumption)))
        have hq4 := Lib.hid ((HB4.out.ext HBD.out).ext HB9.out)
        have hq2 := Lib.hid ((HB2.out.ext HBD.out).ext HB9.out)
        go_wp2_with (first | (refine wpList_load_bk rfl 70 (.tmp 4) rfl _ rfl _ _ _ _ hq4.out Try.underlying70 (ginfo _ (by simp [partL_len, gridL_len])) ?_) | (refine wpList_store_bk rfl 70 (.tmp 2) (.tmp 72) rfl _ (gcells (gridL (sl.take (m + 1)))) rfl rfl _ _ hq2.out (by simp [gcells_size, partL_len, gridL_len]) (ginfo _ (by simp [partL_len, gridL_len])) (gcells_one _) ?_))
        intro w8 hB8 hG8
        go_wp2_with fail
        (try simp only [Exit.inBlock, Exit.then])
        refine lay_ret Try.results80 rfl hB8 Try.underlying70 (ginfo _ (by simp [partL_len, gridL_len])) rfl ?_
        exact ⟨_, by rw [hR.out]; rfl, by simp [partL_len, gridL_len], by rw [hR.out]; simp, ((HB.out.trans (HBD.out.mono HB.out.size)).trans (HB9.out.mono (Nat.le_trans HB.out.size HBD.out.size))).grown hG8 (Nat.le_trans HB.out.size (Nat.le_trans HBD.out.size HB9.out.size)) (fun j hj => by injection hj with hj; omega)⟩
      have hpt2 := Lib.hid (hpt.out.trans (show _ = !(sl.take (m + 1)).any (fun t => meetsB s t) from by rw [HL.out, hCC]; simp))
      rw [hCC] at qb
      clear hpt hCC
      refine wp_region_held_drew (S := (LyS W2 b o wr0.heap.size w h (.slice (some ⟨b3, o3, none⟩) sl.length cap) s b3 (o3 + m * 4) s')) (by kernel_rfl) ?r15_hS0 (fun hHeld => ?r15_rest)
      case r15_hS0 => (try dsimp only); first | assumption | exact LyS.keep hlq hlc hlp (by assumption) ((Below.refl _ _).drew) | exact LyS.keep hlq hlc hlp (by assumption) (by assumption)
      refine wpAnyH_take (i := 0) (v := ?r15_vv0) (by (simp only [List.getElem?_toArray, List.getElem?_cons_succ, List.getElem?_cons_zero]; rfl)) (by kernel_rfl) (by kernel_rfl) (by kernel_rfl) (by exact fun _ _ _ h => h) (Or.inl ⟨by rfl, ?r15_hy0⟩) (by assumption) ?r15_rest0
      case r15_hy0 => intro w hSw; (try dsimp only at hSw); (go_simp <;> (with_reducible rfl))
      try simp only [Act.put, List.setIfInBounds_toArray, List.set_cons_zero, List.set_cons_succ]
      refine wpAnyH_take (i := 1) (v := ?r15_vv1) (by (simp only [List.getElem?_toArray, List.getElem?_cons_succ, List.getElem?_cons_zero]; rfl)) (by kernel_rfl) (by kernel_rfl) (by kernel_rfl) (by exact fun _ _ _ h => h) (Or.inl ⟨by rfl, ?r15_hy1⟩) (by assumption) ?r15_rest1
      case r15_hy1 => intro w hSw; (try dsimp only at hSw); (go_simp <;> (with_reducible rfl))
      try simp only [Act.put, List.setIfInBounds_toArray, List.set_cons_zero, List.set_cons_succ]
      refine wpAnyH_ready (rs := [2]) (by kernel_rfl) (by simp) ?_
      refine AllReadyH.cons (by (simp only [List.getElem?_toArray, List.getElem?_cons_succ, List.getElem?_cons_zero]; rfl)) (fun K hK => ?_) AllReadyH.nil
      go_simp
      (go_at_call 149; with_reducible refine (ql.out _ (And.left (b := _) (by assumption))).mono ?_; rintro e w9 ⟨rfl, hb9⟩)
      try go_wp2_with fail
      refine hK.out _ _ ?r15_hS2 (fun hHeld => ?r15_r2)
      case r15_hS2 => (try dsimp only); first | assumption | exact LyS.keep hlq hlc hlp (by assumption) ((Below.refl _ _).drew) | exact LyS.keep hlq hlc hlp (by assumption) (by assumption)
      clear hK K
      try simp only [Act.put, List.setIfInBounds_toArray, List.set_cons_zero, List.set_cons_succ]
      refine wpAnyH_take (i := 3) (v := ?r15_vv3) (by (simp only [List.getElem?_toArray, List.getElem?_cons_succ, List.getElem?_cons_zero]; rfl)) (by kernel_rfl) (by kernel_rfl) (by kernel_rfl) (by exact fun _ _ _ h => h) (Or.inl ⟨by rfl, ?r15_hy3⟩) (by assumption) ?r15_rest3
      case r15_hy3 => intro w hSw; (try dsimp only at hSw); (go_simp <;> (with_reducible rfl))
      try simp only [Act.put, List.setIfInBounds_toArray, List.set_cons_zero, List.set_cons_succ]
      refine wpAnyH_take (i := 4) (v := ?r15_vv4) (by (simp only [List.getElem?_toArray, List.getElem?_cons_succ, List.getElem?_cons_zero]; rfl)) (by kernel_rfl) (by kernel_rfl) (by kernel_rfl) (by exact fun _ _ _ h => h) (Or.inl ⟨by rfl, ?r15_hy4⟩) (by assumption) ?r15_rest4
      case r15_hy4 => intro w hSw; (try dsimp only at hSw); (go_simp <;> (with_reducible rfl))
      try simp only [Act.put, List.setIfInBounds_toArray, List.set_cons_zero, List.set_cons_succ]
      refine wpAnyH_take (i := 5) (v := ?r15_vv5) (by (simp only [List.getElem?_toArray, List.getElem?_cons_succ, List.getElem?_cons_zero]; rfl)) (by kernel_rfl) (by kernel_rfl) (by kernel_rfl) (by exact fun _ _ _ h => h) (Or.inl ⟨by rfl, ?r15_hy5⟩) (by assumption) ?r15_rest5
      case r15_hy5 => intro w hSw; (try dsimp only at hSw); (go_simp <;> (with_reducible rfl))
      try simp only [Act.put, List.setIfInBounds_toArray, List.set_cons_zero, List.set_cons_succ]
      refine wpAnyH_take (i := 6) (v := ?r15_vv6) (by (simp only [List.getElem?_toArray, List.getElem?_cons_succ, List.getElem?_cons_zero]; rfl)) (by kernel_rfl) (by kernel_rfl) (by kernel_rfl) (by exact fun _ _ _ h => h) (Or.inl ⟨by rfl, ?r15_hy6⟩) (by assumption) ?r15_rest6
      case r15_hy6 => intro w hSw; (try dsimp only at hSw); (go_simp <;> (with_reducible rfl))
      try simp only [Act.put, List.setIfInBounds_toArray, List.set_cons_zero, List.set_cons_succ]
      refine wpAnyH_take (i := 7) (v := ?r15_vv7) (by (simp only [List.getElem?_toArray, List.getElem?_cons_succ, List.getElem?_cons_zero]; rfl)) (by kernel_rfl) (by kernel_rfl) (by kernel_rfl) (by exact fun _ _ _ h => h) (Or.inl ⟨by rfl, ?r15_hy7⟩) (by assumption) ?r15_rest7
      case r15_hy7 => intro w hSw; (try dsimp only at hSw); (go_simp <;> (with_reducible rfl))
      try simp only [Act.put, List.setIfInBounds_toArray, List.set_cons_zero, List.set_cons_succ]
      refine wpAnyH_take (i := 8) (v := ?r15_vv8) (by (simp only [List.getElem?_toArray, List.getElem?_cons_succ, List.getElem?_cons_zero]; rfl)) (by kernel_rfl) (by kernel_rfl) (by kernel_rfl) (by exact fun _ _ _ h => h) (Or.inl ⟨by rfl, ?r15_hy8⟩) (by assumption) ?r15_rest8
      case r15_hy8 => intro w hSw; (try dsimp only at hSw); (go_simp <;> (with_reducible rfl))
      try simp only [Act.put, List.setIfInBounds_toArray, List.set_cons_zero, List.set_cons_succ]
      refine wpAnyH_take (i := 9) (v := ?r15_vv9) (by (simp only [List.getElem?_toArray, List.getElem?_cons_succ, List.getElem?_cons_zero]; rfl)) (by kernel_rfl) (by kernel_rfl) (by kernel_rfl) (by exact fun _ _ _ h => h) (Or.inl ⟨by rfl, ?r15_hy9⟩) (by assumption) ?r15_rest9
      case r15_hy9 => intro w hSw; (try dsimp only at hSw); (go_simp <;> (with_reducible rfl))
      try simp only [Act.put, List.setIfInBounds_toArray, List.set_cons_zero, List.set_cons_succ]
      refine wpAnyH_take (i := 10) (v := ?r15_vv10) (by (simp only [List.getElem?_toArray, List.getElem?_cons_succ, List.getElem?_cons_zero]; rfl)) (by kernel_rfl) (by kernel_rfl) (by kernel_rfl) (by exact fun _ _ _ h => h) (Or.inl ⟨by rfl, ?r15_hy10⟩) (by assumption) ?r15_rest10
      case r15_hy10 => intro w hSw; (try dsimp only at hSw); (go_simp <;> (with_reducible rfl))
      try simp only [Act.put, List.setIfInBounds_toArray, List.set_cons_zero, List.set_cons_succ]
      refine wpAnyH_take (i := 11) (v := ?r15_vv11) (by (simp only [List.getElem?_toArray, List.getElem?_cons_succ, List.getElem?_cons_zero]; rfl)) (by kernel_rfl) (by kernel_rfl) (by kernel_rfl) (by exact fun _ _ _ h => h) (Or.inl ⟨by rfl, ?r15_hy11⟩) (by assumption) ?r15_rest11
      case r15_hy11 => intro w hSw; (try dsimp only at hSw); (go_simp <;> (with_reducible rfl))
      try simp only [Act.put, List.setIfInBounds_toArray, List.set_cons_zero, List.set_cons_succ]
      refine wpAnyH_take (i := 12) (v := ?r15_vv12) (by (simp only [List.getElem?_toArray, List.getElem?_cons_succ, List.getElem?_cons_zero]; rfl)) (by kernel_rfl) (by kernel_rfl) (by kernel_rfl) (by exact fun _ _ _ h => h) (Or.inl ⟨by rfl, ?r15_hy12⟩) (by assumption) ?r15_rest12
      case r15_hy12 => intro w hSw; (try dsimp only at hSw); (go_simp <;> (with_reducible rfl))
      try simp only [Act.put, List.setIfInBounds_toArray, List.set_cons_zero, List.set_cons_succ]
      refine wpAnyH_take (i := 13) (v := ?r15_vv13) (by (simp only [List.getElem?_toArray, List.getElem?_cons_succ, List.getElem?_cons_zero]; rfl)) (by kernel_rfl) (by kernel_rfl) (by kernel_rfl) (by exact fun _ _ _ h => h) (Or.inl ⟨by rfl, ?r15_hy13⟩) (by assumption) ?r15_rest13
      case r15_hy13 => intro w hSw; (try dsimp only at hSw); (go_simp <;> (with_reducible rfl))
      try simp only [Act.put, List.setIfInBounds_toArray, List.set_cons_zero, List.set_cons_succ]
      refine wpAnyH_take (i := 14) (v := ?r15_vv14) (by (simp only [List.getElem?_toArray, List.getElem?_cons_succ, List.getElem?_cons_zero]; rfl)) (by kernel_rfl) (by kernel_rfl) (by kernel_rfl) (by exact fun _ _ _ h => h) (Or.inl ⟨by rfl, ?r15_hy14⟩) (by assumption) ?r15_rest14
      case r15_hy14 => intro w hSw; (try dsimp only at hSw); (go_simp <;> (with_reducible rfl))
      try simp only [Act.put, List.setIfInBounds_toArray, List.set_cons_zero, List.set_cons_succ]
      refine wpAnyH_take (i := 15) (v := ?r15_vv15) (by (simp only [List.getElem?_toArray, List.getElem?_cons_succ, List.getElem?_cons_zero]; rfl)) (by kernel_rfl) (by kernel_rfl) (by kernel_rfl) (by exact fun _ _ _ h => h) (Or.inl ⟨by rfl, ?r15_hy15⟩) (by assumption) ?r15_rest15
      case r15_hy15 => intro w hSw; (try dsimp only at hSw); (go_simp <;> (with_reducible rfl))
      try simp only [Act.put, List.setIfInBounds_toArray, List.set_cons_zero, List.set_cons_succ]
      refine wpAnyH_take (i := 16) (v := ?r15_vv16) (by (simp only [List.getElem?_toArray, List.getElem?_cons_succ, List.getElem?_cons_zero]; rfl)) (by kernel_rfl) (by kernel_rfl) (by kernel_rfl) (by exact fun _ _ _ h => h) (Or.inl ⟨by rfl, ?r15_hy16⟩) (by assumption) ?r15_rest16
      case r15_hy16 => intro w hSw; (try dsimp only at hSw); (go_simp <;> (with_reducible rfl))
      try simp only [Act.put, List.setIfInBounds_toArray, List.set_cons_zero, List.set_cons_succ]
      refine wpAnyH_ready (rs := [17]) (by kernel_rfl) (by simp) ?_
      refine AllReadyH.cons (by (simp only [List.getElem?_toArray, List.getElem?_cons_succ, List.getElem?_cons_zero]; rfl)) (fun K hK => ?_) AllReadyH.nil
      go_simp
      (go_at_call 150; with_reducible refine (qb.out _).mono ?_; rintro e w10 ⟨rfl, hb10⟩)
      try go_wp2_with fail
      refine hK.out _ _ ?r15_hS17 (fun hHeld => ?r15_r17)
      case r15_hS17 => (try dsimp only); first | assumption | exact LyS.keep hlq hlc hlp (by assumption) ((Below.refl _ _).drew) | exact LyS.keep hlq hlc hlp (by assumption) (by assumption)
      clear hK K
      try simp only [Act.put, List.setIfInBounds_toArray, List.set_cons_zero, List.set_cons_succ]
      refine wpAnyH_take (i := 18) (v := ?r15_vv18) (by (simp only [List.getElem?_toArray, List.getElem?_cons_succ, List.getElem?_cons_zero]; rfl)) (by kernel_rfl) (by kernel_rfl) (by kernel_rfl) (by exact fun _ _ _ h => h) (Or.inl ⟨by rfl, ?r15_hy18⟩) (by assumption) ?r15_rest18
      case r15_hy18 => intro w hSw; (try dsimp only at hSw); (go_simp <;> (with_reducible rfl))
      try simp only [Act.put, List.setIfInBounds_toArray, List.set_cons_zero, List.set_cons_succ]
      refine wpAnyH_take (i := 19) (v := ?r15_vv19) (by (simp only [List.getElem?_toArray, List.getElem?_cons_succ, List.getElem?_cons_zero]; rfl)) (by kernel_rfl) (by kernel_rfl) (by kernel_rfl) (by exact fun _ _ _ h => h) (Or.inl ⟨by rfl, ?r15_hy19⟩) (by assumption) ?r15_rest19
      case r15_hy19 => intro w hSw; (try dsimp only at hSw); (go_simp <;> (with_reducible rfl))
      try simp only [Act.put, List.setIfInBounds_toArray, List.set_cons_zero, List.set_cons_succ]
      refine wpAnyH_take (i := 20) (v := ?r15_vv20) (by (simp only [List.getElem?_toArray, List.getElem?_cons_succ, List.getElem?_cons_zero]; rfl)) (by kernel_rfl) (by kernel_rfl) (by kernel_rfl) (by exact fun _ _ _ h => h) (Or.inl ⟨by rfl, ?r15_hy20⟩) (by assumption) ?r15_rest20
      case r15_hy20 => intro w hSw; (try dsimp only at hSw); (go_simp <;> (with_reducible rfl))
      try simp only [Act.put, List.setIfInBounds_toArray, List.set_cons_zero, List.set_cons_succ]
      refine wpAnyH_done (by kernel_rfl) ?_ _
      have HB9 := Lib.hid (show Below W2.heap.size W2 _ from And.left (b := _) (And.left (b := _) (by assumption)))
      have G4 := Lib.hid ((HB4.out.ext HBD.out).ext HB9.out)
      have G2 := Lib.hid ((HB2.out.ext HBD.out).ext HB9.out)
      have hS3 : LyS0 W2 b o wr0.heap.size w h (.slice (some ⟨b3, o3, none⟩) sl.length cap) s w10 := by first | assumption | exact And.left (b := _) (by assumption)
      obtain ⟨-, d0, d1, d2, q0, q1, q2, q3⟩ := hS3
      have hne := Lib.hid (show some wr0.heap.size ≠ some (W.heap.size + 1) from by intro h; injection h with h; have := hgs.out; omega)
      have hw12 := Lib.hid (show w ≤ 12 ∧ h ≤ 12 from ⟨hEB.out.1.2, hEB.out.2.2⟩)
      obtain ⟨l0, l1, l2, l3, l4, l5⟩ := hlb
      obtain ⟨hw9, hh9⟩ := hw12.out
      have hwy : IntKind.i8.wrap (s.y + s.h) = s.y + s.h := wrap8In _ (by omega) (by omega)
      have hwx : IntKind.i8.wrap (s.x + s.w) = s.x + s.w := wrap8In _ (by omega) (by omega)
      have hsz3 := Lib.hid (show W.heap.size ≤ w10.heap.size from (Nat.le_trans HB.out.size (Nat.le_trans HBD.out.size HB9.out.size)))
      have hb3w := Lib.hid (show Below W.heap.size W w10 from ((HB.out.trans (HBD.out.mono HB.out.size)).trans (HB9.out.mono (Nat.le_trans HB.out.size HBD.out.size))))
      obtain ⟨W3, hW3⟩ : ∃ W3 : World, W3 = w10 := ⟨_, rfl⟩
      rw [← hW3] at G4 G2 q0 q1 q2 q3 hsz3 hb3w ⊢
      clear hW3
      go_wp2_with fail
      go_loopw [7] (fun y wr => ∃ yn : Nat, y = .int .i8 (yn : Int) ∧ s.y ≤ (yn : Int) ∧ (yn : Int) ≤ s.y + s.h ∧ freeTo sl (m + 1) (yn : Int) s.x ∧ Bk wr (W.heap.size + 1) 70 (gcells (partL sl (m + 1) (yn : Int) s.x)) ∧ W3.grownBy wr (some (W.heap.size + 1))) (fun y _ => (s.y + s.h - intOf y).toNat)
      case atStart =>
        have e : ((s.y.toNat : Nat) : Int) = s.y := Int.toNat_of_nonneg l1
        exact ⟨s.y.toNat, by rw [e], by omega, by omega, by rw [e]; exact fS.out, by rw [e, pS.out]; exact G4.out, World.grownBy.refl _ _⟩
      case round =>
        obtain ⟨yn, rfl, hy0, hy1, hf, hB, hG⟩ := hrel
        obtain ⟨wy, rfl⟩ : ∃ wy : World, wy = wr := ⟨_, rfl⟩
        have HF := Lib.hid hf
        have HBy := Lib.hid hB
        have HGy := Lib.hid hG
        clear hf hB
        have t0 := hG.cell q0 hne.out
        have t1 := hG.cell q1 hne.out
        have t2 := hG.cell q2 hne.out
        have t3 := hG.cell q3 hne.out
        have hwy1 : IntKind.i8.wrap ((yn : Int) + 1) = (yn : Int) + 1 := wrap8In _ (by omega) (by omega)
        by_cases hlty : (yn : Int) < s.y + s.h
        · have dy : decide ((yn : Int) < s.y + s.h) = true := decide_eq_true hlty
          go_wp2_with fail
          go_loopw [8] (fun x wr => ∃ xn : Nat, x = .int .i8 (xn : Int) ∧ s.x ≤ (xn : Int) ∧ (xn : Int) ≤ s.x + s.w ∧ freeTo sl (m + 1) (yn : Int) (xn : Int) ∧ Bk wr (W.heap.size + 1) 70 (gcells (partL sl (m + 1) (yn : Int) (xn : Int))) ∧ W3.grownBy wr (some (W.heap.size + 1))) (fun x _ => (s.x + s.w - intOf x).toNat)
          case atStart =>
            have e : ((s.x.toNat : Nat) : Int) = s.x := Int.toNat_of_nonneg l0
            exact ⟨s.x.toNat, by rw [e], by omega, by omega, by rw [e]; exact HF.out, by rw [e]; exact HBy.out, HGy.out⟩
          case round =>
            obtain ⟨xn, rfl, hx0, hx1, hf, hB, hG'⟩ := hrel
            obtain ⟨wx, rfl⟩ : ∃ wx : World, wx = wr := ⟨_, rfl⟩
            have HFx := Lib.hid hf
            have HBx := Lib.hid hB
            have HGx := Lib.hid hG'
            clear hf hB t0 t1 t2 t3
            have t0 := hG'.cell q0 hne.out
            have t1 := hG'.cell q1 hne.out
            have t2 := hG'.cell q2 hne.out
            have t3 := hG'.cell q3 hne.out
            have hwx1 : IntKind.i8.wrap ((xn : Int) + 1) = (xn : Int) + 1 := wrap8In _ (by omega) (by omega)
            by_cases hltx : (xn : Int) < s.x + s.w
            · have dx : decide ((xn : Int) < s.x + s.w) = true := decide_eq_true hltx
              have hcov := Lib.hid (show covB s (xn : Int) (yn : Int) = true from by simp only [covB, decide_eq_true_eq]; omega)
              have n0 : (0 : Int) ≤ (xn : Int) := by omega
              have n1 : (xn : Int) < 12 := by omega
              have n2 : (0 : Int) ≤ (yn : Int) := by omega
              have n3 : (yn : Int) < 12 := by omega
              have hv := HBx.out.cell (yn * 12 + xn) _ (gcells_get _ _ _ (pRead.out xn yn (by omega) (by omega)))
              have hfz := HBx.out.frz (yn * 12 + xn)
              by_cases hz0 : atI (sl.take (m + 1)) (xn : Int) (yn : Int) = -1
              · rw [hz0] at hv
                have hv : wx.cell? ⟨W.heap.size + 1, yn * 12 + xn, none⟩ = some (.int .i64 0) := hv
                have hSet := Lib.hid (pSet.out xn yn (by omega) (by omega) hcov.out)
                have hFn := Lib.hid (freeTo_step HFx.out hz0)
                clear hz0
                go_wp2_with fail
                have hBn := HBx.out.set (yn * 12 + xn) (.int .i64 ((((m + 1) : Nat) : Int) + 1))
                rw [gcells_set, ← hSet.out] at hBn
                have hBn := Lib.hid hBn
                go_roundw
                case rel => exact ⟨xn + 1, by first | go_num | simp, by omega, by omega, by simpa using hFn.out, by simpa using hBn.out, HGx.out.trans (grownBy_set _ _ _ _)⟩
                case measure => first | (simp [intOf]; done) | (simp [intOf]; omega)
              · have hR := Lib.hid (show slabsOk w h sl sl.length = false from slabsOk_no hlt (hpt2.out.trans (by
                  cases ha : (sl.take (m + 1)).any (fun t => meetsB s t)
                  · exact absurd ((fFree.out HL.out).1 ha _ _ hcov.out) hz0
                  · rfl)))
                have hvn : (atI (sl.take (m + 1)) (xn : Int) (yn : Int) + 1 != 0) = true := by rw [bne_iff_ne]; omega
                generalize atI (sl.take (m + 1)) (xn : Int) (yn : Int) + 1 = v at *
                clear hz0
                have hq4 := HBx
                have hq2 := Lib.hid (G2.out.grown HGx.out (by omega))
                go_wp2_with (first | (refine wpList_load_bk rfl 70 (.tmp 4) rfl _ rfl _ _ _ _ hq4.out Try.underlying70 (ginfo _ (by simp [partL_len, gridL_len])) ?_) | (refine wpList_store_bk rfl 70 (.tmp 2) (.tmp 101) rfl _ (gcells (partL sl (m + 1) (yn : Int) (xn : Int))) rfl rfl _ _ hq2.out (by simp [gcells_size, partL_len, gridL_len]) (ginfo _ (by simp [partL_len, gridL_len])) (gcells_one _) ?_))
                intro w8 hB8 hG8
                go_wp2_with fail
                (try simp only [Exit.inBlock, Exit.then])
                refine lay_ret Try.results80 rfl hB8 Try.underlying70 (ginfo _ (by simp [partL_len, gridL_len])) rfl ?_
                exact ⟨_, by rw [hR.out]; rfl, by simp [partL_len, gridL_len], by rw [hR.out]; simp, (hb3w.out.grown HGx.out hsz3.out (fun j hj => by injection hj with hj; omega)).grown hG8 (Nat.le_trans hsz3.out HGx.out.size) (fun j hj => by injection hj with hj; omega)⟩
            · have ex : (xn : Int) = s.x + s.w := by omega
              have dx : decide ((xn : Int) < s.x + s.w) = false := decide_eq_false hltx
              have hFn := Lib.hid (fRow.out _ (ex ▸ HFx.out))
              have hBn := Lib.hid (show Bk wx (W.heap.size + 1) 70 (gcells (partL sl (m + 1) ((yn : Int) + 1) s.x)) from by rw [← pRow.out, ← ex]; exact HBx.out)
              clear ex
              go_wp2_with fail
              go_roundw
              case rel => exact ⟨yn + 1, by first | go_num | simp, by omega, by omega, by simpa using hFn.out, by simpa using hBn.out, HGx.out⟩
              case measure => first | (simp [intOf]; done) | (simp [intOf]; omega)
        · have ey : (yn : Int) = s.y + s.h := by omega
          have dy : decide ((yn : Int) < s.y + s.h) = false := decide_eq_false hlty
          have hfe := Lib.hid (fEnd.out (ey ▸ HF.out))
          have hsk1 := Lib.hid (show slabsOk w h sl ((m + 1) + 1) = true from by rw [hst.out, HOK.out, hpt2.out, (fFree.out HL.out).2 hfe.out]; rfl)
          have hBn := Lib.hid (show Bk wy (W.heap.size + 1) 70 (gcells (gridL (sl.take ((m + 1) + 1)))) from by rw [← pEnd.out hfe.out, ← ey]; exact HBy.out)
          clear ey
          go_wp2_with fail
          go_roundw
          case rel => exact ⟨(m + 1) + 1, by omega, by go_num, hsk1.out, hBn.out, G2.out.grown HGy.out (by omega), hb3w.out.grown HGy.out hsz3.out (fun j hj => by injection hj with hj; omega)⟩
          case measure => first | (simp [intOf]; done) | (simp [intOf]; omega)
    · obtain rfl : k = sl.length := by omega
      have hend := Lib.hid (show sl.take sl.length = sl from List.take_length)
      rw [hend.out] at HB4
      have hq4 := HB4
      have hq2 := HB2
      go_wp2_with (first | (refine wpList_load_bk rfl 70 (.tmp 4) rfl _ rfl _ _ _ _ hq4.out Try.underlying70 (ginfo _ (by simp [partL_len, gridL_len])) ?_) | (refine wpList_store_bk rfl 70 (.tmp 2) (.tmp 108) rfl _ (gcells (gridL sl)) rfl rfl _ _ hq2.out (by simp [gcells_size, partL_len, gridL_len]) (ginfo _ (by simp [partL_len, gridL_len])) (gcells_one _) ?_))
      intro w8 hB8 hG8
      go_wp2_with fail
      (try simp only [Exit.inBlock, Exit.then])
      refine lay_ret Try.results80 rfl hB8 Try.underlying70 (ginfo _ (by simp [partL_len, gridL_len])) rfl ?_
      exact ⟨gridL sl, by rw [HOK.out]; rfl, gridL_len _, by intro _; rfl, HB.out.grown hG8 HB.out.size (fun j hj => by injection hj with hj; omega)⟩
end Go.Proofs.Yteflpdfajfljfaa
