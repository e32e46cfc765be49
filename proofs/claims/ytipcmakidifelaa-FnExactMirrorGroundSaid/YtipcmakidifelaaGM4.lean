/-
MirrorGround, of the program. Conditions: numbers are of their kinds; slices can be read.
-/
import Derived.Test.YtipcmakidifelaaGM3
set_option linter.unusedVariables false
set_option linter.unusedSimpArgs false
set_option maxRecDepth 100000
namespace Go.Proofs.Ytipcmakidifelaa
open Go.RowKit
theorem mirror1_calls (c : Cell) (W : World) : Calls Try.prog 59 #[.agg #[.int .i8 c.x, .int .i8 c.y]] W fun e w' => e = .returned (.bool true) ∧ Below W.heap.size W w' := by
  have HB := Lib.hid ((Below.refl W.heap.size W).alloc (Nat.le_refl _) (.cells #[.int .i8 c.x, .int .i8 c.y] 38))
  go_enter Try.func59, Try.ntmps59
  go_wp2_with fail
  go_ret
  exact ⟨rfl, HB.out⟩
set_option maxHeartbeats 2000000 in
theorem implMirrorGround_calls (w h : Int) (hs : List Int) (gl : List Cell) (z : Value) (W : World) (hq : GdIn W w h hs gl z) :
    Calls Try.prog 30 #[.agg (gdA w h hs z)] W (RetG1 W (mirG w h hs gl)) := by
  obtain ⟨Az, capz, rfl, -, -, hcz0⟩ := hq.sl.cell
  have hcz := Lib.hid hcz0
  clear hcz0
  have hB := ext_alloc ((Below.refl W.heap.size W).alloc (Nat.le_refl _) (.cells (gdA w h hs (.slice Az gl.length capz)) 36)) (.cells Try.zeroCells36 36)
  have HB := Lib.hid hB
  have KG := Lib.hid ((Bk.new W 36 (gdA w h hs (.slice Az gl.length capz)) W.heap.size rfl).alloc (.cells Try.zeroCells36 36))
  have KR := Lib.hid (Bk.new (W.alloc (.cells (gdA w h hs (.slice Az gl.length capz)) 36)) 36 Try.zeroCells36 (W.heap.size + 1) (by simp))
  have hl := hq.hl
  have HQ := Lib.hid hq
  have qo := Lib.hid (validGround_calls w h hq.w0 hq.w1 hq.h0 hq.h1 hs hq.hl hq.h16 gl (.slice Az gl.length capz) hq.ok _ (hq.sl.ext hB))
  have ldg := load_gd hl KG.out
  have e59 := enters_of Try.func59 (by kernel_rfl) rfl
  have hzg := Lib.hid zeroG
  clear hB hq
  go_enter Try.func30, Try.ntmps30
  go_wp2_with (refine wpList_load_w rfl 36 (.tmp 1) rfl _ rfl _ ldg ?_)
  refine qo.out.mono ?_
  rintro e w1 ⟨rfl, hb1⟩
  have HB1 := Lib.hid (ext_trans HB.out hb1)
  have KG1 := Lib.hid (KG.out.ext hb1)
  have KR1 := Lib.hid (KR.out.ext hb1)
  clear hb1 qo ldg
  cases hk : gOk w h hs gl
  · have hE := Lib.hid (show mirG w h hs gl = ⟨⟨0, 0, z81, []⟩, 0, 1⟩ from if_neg (by rw [hk]; decide))
    clear hk
    go_wp2_with (refine wpList_store_m rfl 36 (.tmp 2) (.tmp 12) rfl _ 0 Try.zeroCells36 rfl rfl _ _ KR1.out (by omega) (by rw [zG_size]; exact gd_sz _) (by rw [hzg.out]; exact gdA_one _ _ _ _ _ _) ?_)
    intro w9 hK9 hG9
    rw [writeAt_all _ _ rfl] at hK9
    have HK9 := Lib.hid (show Bk w9 (W.heap.size + 1) 36 (gdA 0 0 z81 (.slice none 0 0)) from by rw [← hzg.out]; simpa using hK9)
    have HB9 := Lib.hid (HB1.out.grown hG9 HB1.out.size (fun j hj => by injection hj with hj; omega))
    clear hK9 hG9
    go_wp2_with fail
    exact cellret2 Try.results30 rfl rfl (load_gd z81_len HK9.out) rfl ⟨.slice none 0 0, by rw [hE.out]; rfl, by rw [hE.out]; exact Own.nil_ _ _ _ _ _, HB9.out⟩
  · have hE := Lib.hid (show mirG w h hs gl = ⟨⟨w, h, mirH w h hs, mirL w h gl⟩, 0, 0⟩ from if_pos hk)
    have ok := gOk_ok hk
    have hml := Lib.hid (mirL_len hk)
    have hms := Lib.hid (mirL_sort hk)
    have hg8 := Lib.hid ok.len
    have hgp := Lib.hid ok.gl
    clear hk
    have ok1 := ok.w0
    have ok2 := ok.w1
    have ok3 := ok.h0
    have ok4 := ok.h1
    have k0 := KG1.out.cell 0 _ (gdA_0 _ _ _ _)
    have k1 := KG1.out.cell 1 _ (gdA_1 _ _ _ _)
    have hbd := build2G w h w1
    have KX1 := Lib.hid (Bk.new w1 36 Try.zeroCells36 w1.heap.size rfl)
    have KG1a := Lib.hid (KG1.out.alloc (.cells Try.zeroCells36 36))
    have KR1a := Lib.hid (KR1.out.alloc (.cells Try.zeroCells36 36))
    have HB1a := Lib.hid (HB1.out.alloc HB1.out.size (.cells Try.zeroCells36 36))
    have hWX := Lib.hid (show W.heap.size + 1 < w1.heap.size from KR1.out.lt)
    go_wp2_with (first | (refine wpList_build_w rfl 36 _ rfl _ _ hbd (by simp only [List.map_toArray, List.map_cons, List.map_nil]; rfl) ?_) | (refine wpList_store_m rfl 36 (.tmp 4) (.tmp 17) rfl _ 0 (gdA w h z81 (.slice none 0 0)) rfl rfl _ _ KX1.out (by rw [gdA_size _ _ _ _ z81_len, zG_size]; omega) (by rw [gdA_size _ _ _ _ z81_len]; exact gd_sz _) (gdA_one _ _ _ _ _ _) ?_))
    intro w2 hK2 hG2
    rw [gdA_zero _ _ _ z81_len] at hK2
    have KX2 := Lib.hid hK2
    have KG2 := Lib.hid (KG1a.out.grownM hG2 (by have := hWX.out; omega))
    have KR2 := Lib.hid (KR1a.out.grownM hG2 (by have := hWX.out; omega))
    have HB2 := Lib.hid (HB1a.out.grown hG2 HB1a.out.size (fun j hj => by injection hj with hj; have := hWX.out; omega))
    clear hK2 hG2 KX1 KG1 KR1 KG1a KR1a HB1 HB1a k0 k1 hbd
    generalize w1.heap.size = X at *
    have hX2 := Lib.hid KX2.out.lt
    have e1 : ((w.toNat : Nat) : Int) = w := by omega
    have e2 : ((h.toNat : Nat) : Int) = h := by omega
    have qa := Lib.hid (fun W' => pointsG_calls 59 #[] (fun _ => true) e59 w.toNat h.toNat (by omega) (by omega) hs hl (.slice Az gl.length capz) W' (fun c _ W2 _ => mirror1_calls c W2))
    rw [e1, e2, show (ptsG w.toNat h.toNat).filter (fun _ => true) = ptsG w.toNat h.toNat from List.filter_eq_self.2 (fun _ _ => rfl)] at qa
    have hpt := Lib.hid (fun c (hcm : c ∈ ptsG w.toNat h.toNat) => show gpB w h c = true from by have := ptsG_pt _ _ c hcm; rwa [e1, e2] at this)
    have hmm := Lib.hid (fun c (hc : gpB w h c = true) => show c ∈ ptsG w.toNat h.toNat from mem_ptsG _ _ _ (by rw [e1, e2]; exact hc))
    have hpl := Lib.hid (show (ptsG w.toNat h.toNat).length ≤ 81 from by
      rw [ptsG_len]
      have : h.toNat * w.toNat ≤ 9 * 9 := Nat.mul_le_mul (by omega) (by omega)
      omega)
    generalize ptsG w.toNat h.toNat = xs at *
    clear e1 e2
    have ldg := load_gd hl KG2.out
    go_wp2_with (refine wpList_load_w rfl 36 (.tmp 1) rfl _ rfl _ ldg ?_)
    refine (qa.out _).mono ?_
    rintro e w3 ⟨v3, rfl, hO3, hb3⟩
    obtain ⟨A3, cap3, rfl, -, -, -⟩ := (hO3.sl Cell.c_len).cell
    have HL3 := Lib.hid hO3
    have HB3 := Lib.hid (ext_trans HB2.out hb3)
    have KG3 := Lib.hid (KG2.out.ext hb3)
    have KR3 := Lib.hid (KR2.out.ext hb3)
    have KX3 := Lib.hid (KX2.out.ext hb3)
    clear hO3 hb3 ldg qa KG2 KR2 KX2 HB2
    have hpt2 := Lib.hid (fun c (hc : c ∈ xs.map (mirC w)) => show gpB w h c = true from by
      obtain ⟨d, hd, rfl⟩ := List.mem_map.1 hc
      exact mir_pt (hpt.out d hd))
    go_wp2_with fail
    go_loopw [21] (fun i wr => ∃ (k : Nat) (L : List Int), k ≤ xs.length ∧ i = .int .i64 (k : Int) ∧ L.length = 81 ∧ (∀ i, i < 81 → gpB w h (cellOf i) = false → L.getD i 0 = 0) ∧ (∀ j (hj : j < (xs.map (mirC w)).length), j < k → htL L (xs.map (mirC w))[j] = htL hs (mirC w (xs.map (mirC w))[j])) ∧ Bk wr X 36 (gdA w h L (.slice none 0 0)) ∧ Bk wr W.heap.size 36 (gdA w h hs (.slice Az gl.length capz)) ∧ Bk wr (W.heap.size + 1) 36 Try.zeroCells36 ∧ Own wr w2.heap.size 38 Cell.c 2 (.slice A3 xs.length cap3) xs ∧ Below W.heap.size W wr) (fun i _ => xs.length - (intOf i).toNat)
    case atStart => exact ⟨0, z81, by omega, rfl, z81_len', zeros_zero w h, fun j hj hj2 => by omega, KX3.out, KG3.out, KR3.out, HL3.out, HB3.out⟩
    case round =>
      clear KX3 KG3 KR3 HL3 HB3
      obtain ⟨k, L, hk, rfl, hLl, hz0, hin, hX, hG, hR, hP, hb⟩ := hrel
      have hLl := Lib.hid hLl
      have HZ0 := Lib.hid hz0
      have HIN := Lib.hid hin
      have HX := Lib.hid hX
      have HG := Lib.hid hG
      have HR := Lib.hid hR
      have HP := Lib.hid hP
      have HBr := Lib.hid hb
      clear hz0 hin hX hG hR hP hb
      have hp81 := hpl.out
      by_cases hlt : k < xs.length
      · obtain ⟨A4, cap4, hv, -, -, hcell⟩ := (HP.out.sl Cell.c_len).cell
        obtain ⟨rfl, rfl⟩ : A3 = A4 ∧ cap3 = cap4 := by injection hv with e1 e2 e3; exact ⟨e1, e3⟩
        obtain ⟨b2, o2, rfl, hbb, c0, c1⟩ := hcell k hlt
        have hst := Lib.hid (fill_step (f := fun c => htL hs (mirC w c)) ok2 ok4 hLl.out HZ0.out hpt2.out k (by rw [List.length_map]; exact hlt) HIN.out)
        have hqpt := Lib.hid (hpt.out xs[k] (List.getElem_mem hlt))
        have hkd : decide ((k : Int) < (xs.length : Int)) = true := by rw [decide_eq_true_eq]; omega
        have hk0 : (0 : Int) ≤ (k : Int) := by omega
        have hk1 : (k : Int) < (xs.length : Int) := by omega
        rw [show (xs.map (mirC w))[k]'(by rw [List.length_map]; exact hlt) = mirC w xs[k] from List.getElem_map _] at hst
        simp only [mir_mir] at hst
        obtain ⟨q, hqe⟩ : ∃ q, xs[k] = q := ⟨_, rfl⟩
        rw [hqe] at hst hqpt c0 c1
        clear hcell hv hqe
        obtain ⟨a, b, ha, hb, rfl⟩ := pt_nat ok2 ok4 hqpt.out
        have hax := (gpB_true.1 hqpt.out)
        simp only at hax
        obtain ⟨a2, ha2⟩ : ∃ a2 : Nat, w - 1 - (a : Int) = (a2 : Int) := ⟨(w - 1 - (a : Int)).toNat, by omega⟩
        have hme : mirC w ⟨(a : Int), (b : Int)⟩ = ⟨(a2 : Int), (b : Int)⟩ := by unfold mirC; rw [ha2]
        simp only [hme] at hst
        have ha29 : a2 < 9 := by omega
        have w8a : IntKind.i8.wrap (w - 1) = w - 1 := wrap8In _ (by omega) (by omega)
        have w8b : IntKind.i8.wrap (w - 1 - (a : Int)) = (a2 : Int) := by rw [ha2]; exact wrap8In _ (by omega) (by omega)
        clear hax ha2 hme
        have HO6 := Lib.hid (HP.out.alloc (.cells #[.int .i8 (a : Int), .int .i8 (b : Int)] 38))
        have HX6 := Lib.hid (HX.out.alloc (.cells #[.int .i8 (a : Int), .int .i8 (b : Int)] 38))
        have HG6 := Lib.hid (HG.out.alloc (.cells #[.int .i8 (a : Int), .int .i8 (b : Int)] 38))
        have HR6 := Lib.hid (HR.out.alloc (.cells #[.int .i8 (a : Int), .int .i8 (b : Int)] 38))
        have HN6 := Lib.hid (Bk.new wr 38 #[.int .i8 (a : Int), .int .i8 (b : Int)] wr.heap.size rfl)
        have HB6 := Lib.hid (HBr.out.alloc HBr.out.size (.cells #[.int .i8 (a : Int), .int .i8 (b : Int)] 38))
        have hXn := Lib.hid (show X < wr.heap.size from HX.out.lt)
        go_wp2_with fail
        generalize wr.alloc (.cells #[.int .i8 (a : Int), .int .i8 (b : Int)] 38) = w6 at *
        generalize wr.heap.size = nb at *
        clear HP HX HG HR HBr hbb c0 c1
        have i0 : (a : Int) < 9 := by omega
        have i1 : (b : Int) < 9 := by omega
        have i2 : (a2 : Int) < 9 := by omega
        have hx := HX6.out.ht hLl.out a2 b ha29 hb
        have fx := HX6.out.frz (2 + b * 9 + a2)
        have hse := Lib.hid (fun n => gdA_seth w h L hLl.out (.slice none 0 0) a2 b ha29 hb n)
        have hmr : MrS W.heap.size 0 nb W.heap.size (2 + b * 9 + a) ⟨w, h⟩ ⟨(a : Int), (b : Int)⟩ (htL hs ⟨(a : Int), (b : Int)⟩) w6 := ⟨HG6.out.cell 0 _ (gdA_0 _ _ _ _), HG6.out.cell 1 _ (gdA_1 _ _ _ _), HN6.out.cell 0 _ rfl, HN6.out.cell 1 _ rfl, HG6.out.ht hl a b ha hb⟩
        generalize htL hs ⟨(a : Int), (b : Int)⟩ = n at *
        generalize htL L ⟨(a2 : Int), (b : Int)⟩ = old at *
        have HSr := Lib.hid (fun (w' : World) (he : w'.heap = w6.heap) => hmr.at_ he)
        have hms := hmr.set X (2 + b * 9 + a2) (.int .i16 n) (by have := hWX.out; omega) (by have := hXn.out; omega) (by have := hWX.out; omega)
        have HSs := Lib.hid (fun (w' : World) (he : w'.heap = (w6.setCell ⟨X, 2 + b * 9 + a2, none⟩ (.int .i16 n)).heap) => hms.at_ he)
        clear hmr hms
        refine wp_region_held_drew (S := (MrS W.heap.size 0 nb W.heap.size (2 + b * 9 + a) ⟨w, h⟩ ⟨(a : Int), (b : Int)⟩ n)) (by kernel_rfl) ?r3_hS0 (fun hHeld => ?r3_rest)
        case r3_hS0 => (try dsimp only); first | assumption | exact HSr.out _ rfl | exact HSs.out _ rfl
        refine wpAnyH_take (i := 0) (v := ?r3_vv0) (by (simp only [List.getElem?_toArray, List.getElem?_cons_succ, List.getElem?_cons_zero]; rfl)) (by kernel_rfl) (by kernel_rfl) (by kernel_rfl) (by exact fun _ _ _ h => h) (Or.inl ⟨by rfl, ?r3_hy0⟩) (by assumption) ?r3_rest0
        case r3_hy0 => intro w hSw; (try dsimp only at hSw); (go_simp <;> (with_reducible rfl))
        try simp only [Act.put, List.setIfInBounds_toArray, List.set_cons_zero, List.set_cons_succ]
        refine wpAnyH_take (i := 1) (v := ?r3_vv1) (by (simp only [List.getElem?_toArray, List.getElem?_cons_succ, List.getElem?_cons_zero]; rfl)) (by kernel_rfl) (by kernel_rfl) (by kernel_rfl) (by exact fun _ _ _ h => h) (Or.inl ⟨by rfl, ?r3_hy1⟩) (by assumption) ?r3_rest1
        case r3_hy1 => intro w hSw; (try dsimp only at hSw); (go_simp <;> (with_reducible rfl))
        try simp only [Act.put, List.setIfInBounds_toArray, List.set_cons_zero, List.set_cons_succ]
        refine wpAnyH_take (i := 2) (v := ?r3_vv2) (by (simp only [List.getElem?_toArray, List.getElem?_cons_succ, List.getElem?_cons_zero]; rfl)) (by kernel_rfl) (by kernel_rfl) (by kernel_rfl) (by exact fun _ _ _ h => h) (Or.inl ⟨by rfl, ?r3_hy2⟩) (by assumption) ?r3_rest2
        case r3_hy2 => intro w hSw; (try dsimp only at hSw); (go_simp <;> (with_reducible rfl))
        try simp only [Act.put, List.setIfInBounds_toArray, List.set_cons_zero, List.set_cons_succ]
        refine wpAnyH_take (i := 3) (v := ?r3_vv3) (by (simp only [List.getElem?_toArray, List.getElem?_cons_succ, List.getElem?_cons_zero]; rfl)) (by kernel_rfl) (by kernel_rfl) (by kernel_rfl) (by exact fun _ _ _ h => h) (Or.inl ⟨by rfl, ?r3_hy3⟩) (by assumption) ?r3_rest3
        case r3_hy3 => intro w hSw; (try dsimp only at hSw); (go_simp <;> (with_reducible rfl))
        try simp only [Act.put, List.setIfInBounds_toArray, List.set_cons_zero, List.set_cons_succ]
        refine wpAnyH_take (i := 4) (v := ?r3_vv4) (by (simp only [List.getElem?_toArray, List.getElem?_cons_succ, List.getElem?_cons_zero]; rfl)) (by kernel_rfl) (by kernel_rfl) (by kernel_rfl) (by exact fun _ _ _ h => h) (Or.inl ⟨by rfl, ?r3_hy4⟩) (by assumption) ?r3_rest4
        case r3_hy4 => intro w hSw; (try dsimp only at hSw); (go_simp <;> (with_reducible rfl))
        try simp only [Act.put, List.setIfInBounds_toArray, List.set_cons_zero, List.set_cons_succ]
        refine wpAnyH_take (i := 5) (v := ?r3_vv5) (by (simp only [List.getElem?_toArray, List.getElem?_cons_succ, List.getElem?_cons_zero]; rfl)) (by kernel_rfl) (by kernel_rfl) (by kernel_rfl) (by exact fun _ _ _ h => h) (Or.inl ⟨by rfl, ?r3_hy5⟩) (by assumption) ?r3_rest5
        case r3_hy5 => intro w hSw; (try dsimp only at hSw); (go_simp <;> (with_reducible rfl))
        try simp only [Act.put, List.setIfInBounds_toArray, List.set_cons_zero, List.set_cons_succ]
        refine wpAnyH_take (i := 6) (v := ?r3_vv6) (by (simp only [List.getElem?_toArray, List.getElem?_cons_succ, List.getElem?_cons_zero]; rfl)) (by kernel_rfl) (by kernel_rfl) (by kernel_rfl) (by exact fun _ _ _ h => h) (Or.inl ⟨by rfl, ?r3_hy6⟩) (by assumption) ?r3_rest6
        case r3_hy6 => intro w hSw; (try dsimp only at hSw); (go_simp <;> (with_reducible rfl))
        try simp only [Act.put, List.setIfInBounds_toArray, List.set_cons_zero, List.set_cons_succ]
        refine wpAnyH_take (i := 7) (v := ?r3_vv7) (by (simp only [List.getElem?_toArray, List.getElem?_cons_succ, List.getElem?_cons_zero]; rfl)) (by kernel_rfl) (by kernel_rfl) (by kernel_rfl) (by exact fun _ _ _ h => h) (Or.inl ⟨by rfl, ?r3_hy7⟩) (by assumption) ?r3_rest7
        case r3_hy7 => intro w hSw; (try dsimp only at hSw); (go_simp <;> (with_reducible rfl))
        try simp only [Act.put, List.setIfInBounds_toArray, List.set_cons_zero, List.set_cons_succ]
        refine wpAnyH_take (i := 8) (v := ?r3_vv8) (by (simp only [List.getElem?_toArray, List.getElem?_cons_succ, List.getElem?_cons_zero]; rfl)) (by kernel_rfl) (by kernel_rfl) (by kernel_rfl) (by exact fun _ _ _ h => h) (Or.inl ⟨by rfl, ?r3_hy8⟩) (by assumption) ?r3_rest8
        case r3_hy8 => intro w hSw; (try dsimp only at hSw); (go_simp <;> (with_reducible rfl))
        try simp only [Act.put, List.setIfInBounds_toArray, List.set_cons_zero, List.set_cons_succ]
        refine wpAnyH_take (i := 9) (v := ?r3_vv9) (by (simp only [List.getElem?_toArray, List.getElem?_cons_succ, List.getElem?_cons_zero]; rfl)) (by kernel_rfl) (by kernel_rfl) (by kernel_rfl) (by exact fun _ _ _ h => h) (Or.inl ⟨by rfl, ?r3_hy9⟩) (by assumption) ?r3_rest9
        case r3_hy9 => intro w hSw; (try dsimp only at hSw); (go_simp <;> (with_reducible rfl))
        try simp only [Act.put, List.setIfInBounds_toArray, List.set_cons_zero, List.set_cons_succ]
        refine wpAnyH_take (i := 10) (v := ?r3_vv10) (by (simp only [List.getElem?_toArray, List.getElem?_cons_succ, List.getElem?_cons_zero]; rfl)) (by kernel_rfl) (by kernel_rfl) (by kernel_rfl) (by exact fun _ _ _ h => h) (Or.inl ⟨by rfl, ?r3_hy10⟩) (by assumption) ?r3_rest10
        case r3_hy10 => intro w hSw; (try dsimp only at hSw); (go_simp <;> (with_reducible rfl))
        try simp only [Act.put, List.setIfInBounds_toArray, List.set_cons_zero, List.set_cons_succ]
        refine wpAnyH_take (i := 11) (v := ?r3_vv11) (by (simp only [List.getElem?_toArray, List.getElem?_cons_succ, List.getElem?_cons_zero]; rfl)) (by kernel_rfl) (by kernel_rfl) (by kernel_rfl) (by exact fun _ _ _ h => h) (Or.inl ⟨by rfl, ?r3_hy11⟩) (by assumption) ?r3_rest11
        case r3_hy11 => intro w hSw; (try dsimp only at hSw); (go_simp <;> (with_reducible rfl))
        try simp only [Act.put, List.setIfInBounds_toArray, List.set_cons_zero, List.set_cons_succ]
        refine wpAnyH_take (i := 12) (v := ?r3_vv12) (by (simp only [List.getElem?_toArray, List.getElem?_cons_succ, List.getElem?_cons_zero]; rfl)) (by kernel_rfl) (by kernel_rfl) (by kernel_rfl) (by exact fun _ _ _ h => h) (Or.inl ⟨by rfl, ?r3_hy12⟩) (by assumption) ?r3_rest12
        case r3_hy12 => intro w hSw; (try dsimp only at hSw); (go_simp <;> (with_reducible rfl))
        try simp only [Act.put, List.setIfInBounds_toArray, List.set_cons_zero, List.set_cons_succ]
        refine wpAnyH_take (i := 13) (v := ?r3_vv13) (by (simp only [List.getElem?_toArray, List.getElem?_cons_succ, List.getElem?_cons_zero]; rfl)) (by kernel_rfl) (by kernel_rfl) (by kernel_rfl) (by exact fun _ _ _ h => h) (Or.inl ⟨by rfl, ?r3_hy13⟩) (by assumption) ?r3_rest13
        case r3_hy13 => intro w hSw; (try dsimp only at hSw); (go_simp <;> (with_reducible rfl))
        try simp only [Act.put, List.setIfInBounds_toArray, List.set_cons_zero, List.set_cons_succ]
        refine wpAnyH_take (i := 14) (v := ?r3_vv14) (by (simp only [List.getElem?_toArray, List.getElem?_cons_succ, List.getElem?_cons_zero]; rfl)) (by kernel_rfl) (by kernel_rfl) (by kernel_rfl) (by exact fun _ _ _ h => h) (Or.inl ⟨by rfl, ?r3_hy14⟩) (by assumption) ?r3_rest14
        case r3_hy14 => intro w hSw; (try dsimp only at hSw); (go_simp <;> (with_reducible rfl))
        try simp only [Act.put, List.setIfInBounds_toArray, List.set_cons_zero, List.set_cons_succ]
        refine wpAnyH_take (i := 15) (v := ?r3_vv15) (by (simp only [List.getElem?_toArray, List.getElem?_cons_succ, List.getElem?_cons_zero]; rfl)) (by kernel_rfl) (by kernel_rfl) (by kernel_rfl) (by exact fun _ _ _ h => h) (Or.inl ⟨by rfl, ?r3_hy15⟩) (by assumption) ?r3_rest15
        case r3_hy15 => intro w hSw; (try dsimp only at hSw); (go_simp <;> (with_reducible rfl))
        try simp only [Act.put, List.setIfInBounds_toArray, List.set_cons_zero, List.set_cons_succ]
        refine wpAnyH_take (i := 16) (v := ?r3_vv16) (by (simp only [List.getElem?_toArray, List.getElem?_cons_succ, List.getElem?_cons_zero]; rfl)) (by kernel_rfl) (by kernel_rfl) (by kernel_rfl) (by exact fun _ _ _ h => h) (Or.inl ⟨by rfl, ?r3_hy16⟩) (by assumption) ?r3_rest16
        case r3_hy16 => intro w hSw; (try dsimp only at hSw); (go_simp <;> (with_reducible rfl))
        try simp only [Act.put, List.setIfInBounds_toArray, List.set_cons_zero, List.set_cons_succ]
        refine wpAnyH_take (i := 17) (v := ?r3_vv17) (by (simp only [List.getElem?_toArray, List.getElem?_cons_succ, List.getElem?_cons_zero]; rfl)) (by kernel_rfl) (by kernel_rfl) (by kernel_rfl) (by exact fun _ _ _ h => h) (Or.inl ⟨by rfl, ?r3_hy17⟩) (by assumption) ?r3_rest17
        case r3_hy17 => intro w hSw; (try dsimp only at hSw); (go_simp <;> (with_reducible rfl))
        try simp only [Act.put, List.setIfInBounds_toArray, List.set_cons_zero, List.set_cons_succ]
        refine wpAnyH_take (i := 18) (v := ?r3_vv18) (by (simp only [List.getElem?_toArray, List.getElem?_cons_succ, List.getElem?_cons_zero]; rfl)) (by kernel_rfl) (by kernel_rfl) (by kernel_rfl) (by exact fun _ _ _ h => h) (Or.inl ⟨by rfl, ?r3_hy18⟩) (by assumption) ?r3_rest18
        case r3_hy18 => intro w hSw; (try dsimp only at hSw); (go_simp <;> (with_reducible rfl))
        try simp only [Act.put, List.setIfInBounds_toArray, List.set_cons_zero, List.set_cons_succ]
        refine wpAnyH_ready (rs := [19]) (by kernel_rfl) (by simp) ?_
        refine AllReadyH.cons (by (simp only [List.getElem?_toArray, List.getElem?_cons_succ, List.getElem?_cons_zero]; rfl)) (fun K hK => ?_) AllReadyH.nil
        go_simp
        skip
        try go_wp2_with fail
        refine hK.out _ _ ?r3_hS19 (fun hHeld => ?r3_r19)
        case r3_hS19 => (try dsimp only); first | assumption | exact HSr.out _ rfl | exact HSs.out _ rfl
        clear hK K
        try simp only [Act.put, List.setIfInBounds_toArray, List.set_cons_zero, List.set_cons_succ]
        refine wpAnyH_done (by kernel_rfl) ?_ _
        all_goals
          repeat clear hHeld
          have HX7 := Lib.hid ((HX6.out.set (2 + b * 9 + a2) (.int .i16 n)).drw)
          rw [hse.out] at HX7
          have HG7 := Lib.hid ((HG6.out.oth (g' := X) (2 + b * 9 + a2) (.int .i16 n) (by have := hWX.out; omega)).drw)
          have HR7 := Lib.hid ((HR6.out.oth (g' := X) (2 + b * 9 + a2) (.int .i16 n) (by have := hWX.out; omega)).drw)
          have HO7 := Lib.hid (own_at (w' := (w6.setCell ⟨X, 2 + b * 9 + a2, none⟩ (.int .i16 n)).drew) (HO6.out.keep (w' := w6.setCell ⟨X, 2 + b * 9 + a2, none⟩ (.int .i16 n)) (fun j hj => by have h1 := HO6.out.base j hj; have h2 := hX2.out; rw [Below.heap_setCell _ _ _ _ (show j ≠ _ by simp; omega)])) rfl)
          have HB7 := Lib.hid ((HB6.out.setCell (p := ⟨X, 2 + b * 9 + a2, none⟩) (by have := hWX.out; simp; omega) (.int .i16 n)).drew)
          generalize (w6.setCell ⟨X, 2 + b * 9 + a2, none⟩ (.int .i16 n)).drew = w7 at *
          clear hx fx HX6 HG6 HR6 HN6 HO6 HB6
          go_wp2_with fail
          go_roundw
          case rel => exact ⟨k + 1, _, by omega, by go_num, hst.out.1, hst.out.2.1, hst.out.2.2, HX7.out, HG7.out, HR7.out, HO7.out, HB7.out⟩
          case measure => first | (simp [intOf]; done) | (simp [intOf]; omega)
      · obtain rfl : k = xs.length := by omega
        have hkd : decide ((xs.length : Int) < (xs.length : Int)) = false := by rw [decide_eq_false_iff_not]; omega
        have hfill := Lib.hid (fill_end (w := w) (h := h) (f := fun c => htL hs (mirC w c)) hLl.out HZ0.out (fun c hc => by
          obtain ⟨i, hi, he⟩ := List.getElem_of_mem (hmm.out _ (mir_pt hc))
          have h1 := HIN.out i (by rw [List.length_map]; exact hi) hi
          rw [List.getElem_map, he, mir_mir] at h1
          exact h1))
        rw [show mirH w h hs = L from hfill.out.symm] at hE
        clear hfill hmm HZ0 HIN hpt hpt2 HP
        have k83 := HG.out.cell 83 _ (gdA_z _ _ _ _ hl)
        go_wp2_with fail
        clear k83
        go_loopw [48] (fun i wr => ∃ (k : Nat) (v : Value), k ≤ gl.length ∧ i = .int .i64 (k : Int) ∧ Own wr (X + 1) 38 Cell.c 2 v ((gl.take k).map (mirC w)) ∧ Bk wr X 36 (gdA w h L v) ∧ Bk wr W.heap.size 36 (gdA w h hs (.slice Az gl.length capz)) ∧ Bk wr (W.heap.size + 1) 36 Try.zeroCells36 ∧ Below W.heap.size W wr) (fun i _ => gl.length - (intOf i).toNat)
        case atStart => exact ⟨0, .slice none 0 0, by omega, rfl, by simpa using Own.nil_ _ _ _ _ _, HX.out, HG.out, HR.out, HBr.out⟩
        case round =>
          clear HX HG HR HBr
          obtain ⟨k, v, hk, rfl, hO, hX, hG, hR, hb⟩ := hrel
          have HO := Lib.hid hO
          have HX := Lib.hid hX
          have HG := Lib.hid hG
          have HR := Lib.hid hR
          have HBr := Lib.hid hb
          clear hO hX hG hR hb
          by_cases hlt : k < gl.length
          · obtain ⟨b2, o2, rfl, hbb, c0, c1⟩ := hcz.out k hlt
            replace c0 := (HBr.out.cell (p := ⟨b2, _, none⟩) hbb).trans c0
            replace c1 := (HBr.out.cell (p := ⟨b2, _, none⟩) hbb).trans c1
            have hqpt := Lib.hid (hgp.out gl[k] (List.getElem_mem hlt))
            have hg81 := hg8.out
            have hkd : decide ((k : Int) < (gl.length : Int)) = true := by rw [decide_eq_true_eq]; omega
            have hk0 : (0 : Int) ≤ (k : Int) := by omega
            have hk1 : (k : Int) < (gl.length : Int) := by omega
            have hst := Lib.hid (show (gl.take (k + 1)).map (mirC w) = (gl.take k).map (mirC w) ++ [mirC w gl[k]] from by rw [List.take_succ_eq_append_getElem hlt, List.map_append]; rfl)
            have hle := Lib.hid (show ((gl.take k).map (mirC w)).length ≤ 8 from by rw [List.length_map, List.length_take]; have := hg8.out; omega)
            obtain ⟨q, hqe⟩ : ∃ q, gl[k] = q := ⟨_, rfl⟩
            rw [hqe] at hst hqpt c0 c1
            clear hqe
            obtain ⟨a, b, ha, hb, rfl⟩ := pt_nat ok2 ok4 hqpt.out
            have hax := (gpB_true.1 hqpt.out)
            simp only at hax
            obtain ⟨a2, ha2⟩ : ∃ a2 : Nat, w - 1 - (a : Int) = (a2 : Int) := ⟨(w - 1 - (a : Int)).toNat, by omega⟩
            have hme : mirC w ⟨(a : Int), (b : Int)⟩ = ⟨(a2 : Int), (b : Int)⟩ := by unfold mirC; rw [ha2]
            rw [hme] at hst
            have w8a : IntKind.i8.wrap (w - 1) = w - 1 := wrap8In _ (by omega) (by omega)
            have w8b : IntKind.i8.wrap (w - 1 - (a : Int)) = (a2 : Int) := by rw [ha2]; exact wrap8In _ (by omega) (by omega)
            clear hax ha2 hme
            generalize (gl.take k).map (mirC w) = out at *
            have HX6 := Lib.hid (HX.out.alloc (.cells #[.int .i8 (a : Int), .int .i8 (b : Int)] 38))
            have HG6 := Lib.hid (HG.out.alloc (.cells #[.int .i8 (a : Int), .int .i8 (b : Int)] 38))
            have HR6 := Lib.hid (HR.out.alloc (.cells #[.int .i8 (a : Int), .int .i8 (b : Int)] 38))
            have HO6 := Lib.hid (HO.out.alloc (.cells #[.int .i8 (a : Int), .int .i8 (b : Int)] 38))
            have HN6 := Lib.hid (Bk.new wr 38 #[.int .i8 (a : Int), .int .i8 (b : Int)] wr.heap.size rfl)
            have HB6 := Lib.hid (HBr.out.alloc HBr.out.size (.cells #[.int .i8 (a : Int), .int .i8 (b : Int)] 38))
            have x83 := HX6.out.cell 83 _ (gdA_z _ _ _ _ hLl.out)
            have g0 := HG6.out.cell 0 _ (gdA_0 _ _ _ _)
            have n0 := HN6.out.cell 0 _ rfl
            have n1 := HN6.out.cell 1 _ rfl
            clear HX HG HR HO HBr
            go_upto_region 12 with (fail)
            generalize wr.alloc (.cells #[.int .i8 (a : Int), .int .i8 (b : Int)] 38) = w6 at *
            clear c0 c1
            have HX6a := Lib.hid (HX6.out.alloc (.cells #[.int .i8 (a2 : Int), .int .i8 (b : Int)] 38))
            have HG6a := Lib.hid (HG6.out.alloc (.cells #[.int .i8 (a2 : Int), .int .i8 (b : Int)] 38))
            have HR6a := Lib.hid (HR6.out.alloc (.cells #[.int .i8 (a2 : Int), .int .i8 (b : Int)] 38))
            have HB6a := Lib.hid (HB6.out.alloc HB6.out.size (.cells #[.int .i8 (a2 : Int), .int .i8 (b : Int)] 38))
            have hsx := Lib.hid (show X + 1 ≤ (w6.alloc (.cells #[.int .i8 (a2 : Int), .int .i8 (b : Int)] 38)).heap.size from HX6a.out.lt)
            go_wp2_with (at_builtin; refine push_cellat rfl _ _ rfl (X + 1) out _ rfl (HO6.out.alloc _) _ ⟨(a2 : Int), (b : Int)⟩ rfl (Bk.new _ _ _ _ rfl) (by have := hle.out; omega) hsx.out ?_)
            intro v7 w7 hO7 hG7 hat
            obtain ⟨A7, cap7, rfl, -, -, -⟩ := (hO7.sl Cell.c_len).cell
            have HO7 := Lib.hid hO7
            have HX7 := Lib.hid (HX6a.out.grownW hG7 (fun e => by have := HO6.out.base _ e; omega))
            have HG7 := Lib.hid (HG6a.out.grownW hG7 (fun e => by have := HO6.out.base _ e; have := hWX.out; omega))
            have HR7 := Lib.hid (HR6a.out.grownW hG7 (fun e => by have := HO6.out.base _ e; have := hWX.out; omega))
            have HB7 := Lib.hid (HB6a.out.grown hG7 HB6a.out.size (fun j hj => by have := HO6.out.base _ hj; have := hWX.out; omega))
            clear hO7 hG7 hat x83 g0 n0 n1 HX6 HG6 HR6 HO6 HN6 HB6 HX6a HG6a HR6a HB6a hsx
            rw [List.length_append, List.length_singleton] at HO7 ⊢
            have c83 := HX7.out.cell 83 _ (gdA_z _ _ _ _ hLl.out)
            have f83 := HX7.out.frz 83
            go_wp2_with fail
            clear c83 f83
            have HX8 := Lib.hid (HX7.out.set 83 (.slice A7 (out.length + 1) cap7))
            rw [gdA_set83 w h L hLl.out] at HX8
            have HG8 := Lib.hid (HG7.out.oth (g' := X) 83 (.slice A7 (out.length + 1) cap7) (by have := hWX.out; omega))
            have HR8 := Lib.hid (HR7.out.oth (g' := X) 83 (.slice A7 (out.length + 1) cap7) (by have := hWX.out; omega))
            have HO8 := Lib.hid (show Own (w7.setCell ⟨X, 83, none⟩ (.slice A7 (out.length + 1) cap7)) (X + 1) 38 Cell.c 2 (.slice A7 (out.length + 1) cap7) _ from HO7.out.keep (fun j hj => by have h1 := HO7.out.base j hj; rw [Below.heap_setCell _ _ _ _ (show j ≠ _ by simp; omega)]))
            have HB8 := Lib.hid (HB7.out.setCell (p := ⟨X, 83, none⟩) (by have := hWX.out; simp; omega) (.slice A7 (out.length + 1) cap7))
            go_roundw
            case rel => exact ⟨k + 1, (.slice A7 (out.length + 1) cap7), by omega, by go_num, by rw [hst.out]; exact HO8.out, HX8.out, HG8.out, HR8.out, HB8.out⟩
            case measure => first | (simp [intOf]; done) | (simp [intOf]; omega)
          · obtain rfl : k = gl.length := by omega
            have hkd : decide ((gl.length : Int) < (gl.length : Int)) = false := by rw [decide_eq_false_iff_not]; omega
            rw [List.take_length] at HO
            obtain ⟨Av, capv, rfl, -, -, -⟩ := (HO.out.sl Cell.c_len).cell
            rw [List.length_map] at HO HX
            have c83 := HX.out.cell 83 _ (gdA_z _ _ _ _ hLl.out)
            have qs := Lib.hid (sortCells_calls _ _ _ _ HO.out (by rw [List.length_map]; have := hg8.out; omega))
            go_wp2_with fail
            refine qs.out.mono ?_
            rintro e w8 ⟨rfl, hO8, hG8⟩
            rw [hms.out] at hO8
            have HO8 := Lib.hid hO8
            have HX8 := Lib.hid (HX.out.grownW hG8 (fun e => by have := HO.out.base _ e; omega))
            have HR8 := Lib.hid (HR.out.grownW hG8 (fun e => by have := HO.out.base _ e; have := hWX.out; omega))
            have HB8 := Lib.hid (HBr.out.grown hG8 HBr.out.size (fun j hj => by have := HO.out.base _ hj; have := hWX.out; omega))
            clear hO8 hG8 HO HX HG HR HBr c83 qs hms
            generalize mirL w h gl = gl2 at *
            have ldx := load_gd hLl.out HX8.out
            go_wp2_with (first | (refine wpList_load_w rfl 36 (.tmp 4) rfl _ rfl _ ldx ?_) | (refine wpList_store_m rfl 36 (.tmp 2) (.tmp 70) rfl _ 0 (gdA w h L (.slice Av gl.length capv)) rfl rfl _ _ HR8.out (by rw [gdA_size _ _ _ _ hLl.out, zG_size]; omega) (by rw [gdA_size _ _ _ _ hLl.out]; exact gd_sz _) (gdA_one _ _ _ _ _ _) ?_))
            intro w9 hK9 hG9
            rw [gdA_zero _ _ _ hLl.out] at hK9
            have HK9 := Lib.hid hK9
            have HB9 := Lib.hid (HB8.out.grown hG9 HB8.out.size (fun j hj => by injection hj with hj; omega))
            have HO9 := Lib.hid (HO8.out.grownM hG9 (by have := hWX.out; omega))
            clear hK9 hG9 ldx
            go_wp2_with fail
            exact cellret2 Try.results30 rfl rfl (load_gd hLl.out HK9.out) rfl ⟨_, by rw [hE.out]; rfl, by rw [hE.out]; exact HO9.out.more (by have := hWX.out; omega), HB9.out⟩
end Go.Proofs.Ytipcmakidifelaa
