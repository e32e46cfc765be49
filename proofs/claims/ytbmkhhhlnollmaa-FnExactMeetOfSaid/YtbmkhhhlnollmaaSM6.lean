/-
MeetOf of the reference. Conditions: numbers are of their kinds; slices can be read; the two are no longer than 2^20.
-/
import Derived.Test.YtbmkhhhlnollmaaSM5
set_option linter.unusedVariables false
set_option linter.unusedSimpArgs false
set_option maxRecDepth 100000
namespace Go.Proofs.Ytbmkhhhlnollmaa
open Go.RowKit
set_option maxHeartbeats 4000000 in
theorem specMeetOf_calls (w h : Int) (z : Value) (sl : List Slab) (xs ys : List Cell) (hx : ∀ x ∈ xs, x.ok) (hy : ∀ x ∈ ys, x.ok) (v u : Value) (W : World) (hq : SqIn W w h z sl) (hs : Sl W W.heap.size Cell.c 2 v xs) (ht : Sl W W.heap.size Cell.c 2 u ys) (hn : xs.length ≤ 1048576) (hm : ys.length ≤ 1048576) :
    Calls Try.prog 25 #[sqv w h z, v, u] W fun e w' => e = .returned (.tuple #[(meetOf w h sl xs ys).1.v, .int .i64 (meetOf w h sl xs ys).2]) ∧ Below W.heap.size W w' := by
  obtain ⟨A, cap, hz, -, -, -⟩ := hq.sl.slab
  subst hz
  have HS := Lib.hid hs
  have HT := Lib.hid ht
  have HQ := Lib.hid hq
  obtain ⟨A1, cap1, rfl, -, -, hcell⟩ := hs.cell
  obtain ⟨A2, cap2, rfl, -, -, -⟩ := ht.cell
  have HB := Lib.hid (ext_alloc (ext_alloc ((Below.refl W.heap.size W).alloc (Nat.le_refl _) (.cells #[.int .i8 w, .int .i8 h, .slice A sl.length cap] 34)) (.cells #[.int .i8 0, .int .i8 0] 36)) (.cells #[] 36))
  have K0 := Lib.hid (((Bk.new W 34 #[.int .i8 w, .int .i8 h, .slice A sl.length cap] W.heap.size rfl).alloc (.cells #[.int .i8 0, .int .i8 0] 36)).alloc (.cells #[] 36))
  have K2 := Lib.hid ((Bk.new (W.alloc (.cells #[.int .i8 w, .int .i8 h, .slice A sl.length cap] 34)) 36 #[.int .i8 0, .int .i8 0] (W.heap.size + 1) (by simp)).alloc (.cells #[] 36))
  have hO0 := Lib.hid (Own.empty (α := Cell) (c := Cell.c) (sz := 2) (E := 36) ((W.alloc (.cells #[.int .i8 w, .int .i8 h, .slice A sl.length cap] 34)).alloc (.cells #[.int .i8 0, .int .i8 0] 36)) (W.heap.size + 1 + 1) (W.heap.size + 1 + 1) (by simp) (by simp))
  have hsz := Lib.hid (show W.heap.size + 1 + 1 ≤ (((W.alloc (.cells #[.int .i8 w, .int .i8 h, .slice A sl.length cap] 34)).alloc (.cells #[.int .i8 0, .int .i8 0] 36)).alloc (.cells #[] 36)).heap.size from by simp)
  have HX := Lib.hid hx
  have HY := Lib.hid hy
  have hxy := Lib.hid (show ∀ x ∈ xs ++ ys, x.ok from fun x h => (List.mem_append.1 h).elim (hx x) (hy x))
  obtain ⟨R, hR0⟩ : ∃ R, R = meetOf w h sl xs ys := ⟨_, rfl⟩
  rw [← hR0]
  have hR := Lib.hid hR0
  clear hR0 hs ht hq hx hy
  unfold sqv
  go_enter Try.func25, Try.ntmps25
  go_wp2_with (at_builtin; refine push_cells rfl _ _ rfl (W.heap.size + 1 + 1) [] xs _ _ rfl rfl hO0.out (HS.out.ext HB.out) (by simp) (by omega) hsz.out ?_)
  intro v3 w3 hO3 G3 at3
  generalize ((W.alloc (.cells #[.int .i8 w, .int .i8 h, .slice A sl.length cap] 34)).alloc (.cells #[.int .i8 0, .int .i8 0] 36)).alloc (.cells #[] 36) = W1 at *
  have HB3 := Lib.hid (HB.out.grown G3 HB.out.size (fun j hj => Nat.le_trans (by omega) (hO0.out.base j hj)))
  have K03 := Lib.hid (show Bk w3 W.heap.size 34 #[.int .i8 w, .int .i8 h, .slice A sl.length cap] from (G3.block _ K0.out.lt (fun he => by have := hO0.out.base _ he.symm; omega)).trans K0.out)
  have K23 := Lib.hid (show Bk w3 (W.heap.size + 1) 36 #[.int .i8 0, .int .i8 0] from (G3.block _ K2.out.lt (fun he => by have := hO0.out.base _ he.symm; omega)).trans K2.out)
  have hsz3 := Lib.hid (Nat.le_trans hsz.out G3.size)
  have hO3 := Lib.hid (show Own w3 (W.heap.size + 1 + 1) 36 Cell.c 2 v3 xs from by simpa using hO3)
  clear G3 at3
  go_wp2_with (at_builtin; refine push_cells rfl _ _ rfl (W.heap.size + 1 + 1) xs ys _ _ rfl rfl hO3.out (HT.out.ext HB3.out) (by omega) (by omega) hsz3.out ?_)
  intro v4 w4 hO4 G4 at4
  have HB4 := Lib.hid (HB3.out.grown G4 HB3.out.size (fun j hj => Nat.le_trans (by omega) (hO3.out.base j hj)))
  have K04 := Lib.hid (show Bk w4 W.heap.size 34 #[.int .i8 w, .int .i8 h, .slice A sl.length cap] from (G4.block _ K03.out.lt (fun he => by have := hO3.out.base _ he.symm; omega)).trans K03.out)
  have K24 := Lib.hid (show Bk w4 (W.heap.size + 1) 36 #[.int .i8 0, .int .i8 0] from (G4.block _ K23.out.lt (fun he => by have := hO3.out.base _ he.symm; omega)).trans K23.out)
  have hO4 := Lib.hid hO4
  clear G4 at4
  have qt := Lib.hid (told_calls W.heap.size 0 w h _ sl (xs ++ ys) hxy.out v4 true w4 (HQ.out.ext HB4.out) ⟨K04.out.cell 0 _ rfl, K04.out.cell 1 _ rfl, K04.out.cell 2 _ rfl, K04.out.lt⟩ (hO4.out.sl Cell.c_len))
  rw [toldC_corn] at qt
  go_wp2_with fail
  refine qt.out.mono ?_
  rintro e w5 ⟨g, rfl, hgl, hgr, hb5⟩
  have HB5 := Lib.hid ((ext_trans HB4.out hb5).alloc (ext_trans HB4.out hb5).size (.cells Try.zeroCells85 85))
  have K8 := Lib.hid (Bk.new w5 85 Try.zeroCells85 w5.heap.size rfl)
  have K25 := Lib.hid ((K24.out.ext hb5).alloc (.cells Try.zeroCells85 85))
  have hglH := Lib.hid hgl
  have hgrH := Lib.hid hgr
  have hs5 := Lib.hid (K24.out.ext hb5).lt
  have hs5' := Lib.hid (ext_trans HB4.out hb5).size
  clear hb5 hgl hgr
  go_wp2_with (refine wpList_store_bk rfl 85 (.tmp 9) (.tmp 20) rfl _ (gcells g) rfl rfl _ _ K8.out (by rw [zsize, gcells_size, hglH.out]) (ginfo _ hglH.out) (gcells_one _) ?_)
  intro w6 k8 G8
  have KG := Lib.hid k8
  have HB6 := Lib.hid (HB5.out.grown G8 HB5.out.size (fun j hj => by injection hj with hj; have := hs5'.out; omega))
  have K26 := Lib.hid (show Bk w6 (W.heap.size + 1) 36 #[.int .i8 0, .int .i8 0] from (G8.block _ K25.out.lt (fun he => by injection he with he; have := hs5.out; omega)).trans K25.out)
  have HS6 := Lib.hid (HS.out.ext HB6.out)
  have HT6 := Lib.hid (HT.out.ext HB6.out)
  clear k8 G8
  by_cases hc : cornC w h sl (xs ++ ys) = 0
  · obtain ⟨hv, hpts⟩ := cornC_ok hc
    obtain ⟨⟨w0, w1'⟩, ⟨h0, h1⟩, hl⟩ := sqOk_edges hv
    have hgg := hgrH.out hc
    subst hgg
    have qa := Lib.hid (along_calls w h sl hl ⟨w1', h1⟩ xs (fun x hx => hpts x (List.mem_append.2 (.inl hx))) _ _ w6 KG.out HS6.out)
    have qb := Lib.hid (show ∀ w7, Below w6.heap.size w6 w7 → _ from fun w7 hb7 => along_calls w h sl hl ⟨w1', h1⟩ ys (fun x hx => hpts x (List.mem_append.2 (.inr hx))) _ _ w7 (KG.out.ext hb7) (HT6.out.ext hb7))
    have hcH := Lib.hid hc
    rw [hc]
    clear hc hv hpts hl
    cases hb1 : crkB sl xs
    · have hM := Lib.hid (show meetC w h sl xs ys = 4 from by unfold meetC; rw [if_pos hcH.out, hb1]; rfl)
      have hE := Lib.hid (show R = (⟨0, 0⟩, 4) from by rw [hR.out, meetOf, hM.out, if_neg (by omega)])
      rw [hb1] at qa
      clear hb1
      go_wp2_with fail
      refine qa.out.mono ?_
      rintro e w7 ⟨rfl, hb7⟩
      have HB7 := Lib.hid (ext_trans HB6.out hb7)
      have K27 := Lib.hid (K26.out.ext hb7)
      clear hb7
      have f0 := (K27.out).frz 0
      have f1 := (K27.out).frz 1
      have e0 := (K27.out).cell 0 _ rfl
      have e1 := (K27.out).cell 1 _ rfl
      have HRES := Lib.hid (res_set (K27.out) HB7.out (by omega) 0 0)
      go_wp2_with fail
      (try simp only [Exit.inBlock, Exit.then])
      refine cell_ret2 Try.results25 rfl HRES.out.1 Try.underlying36 rfl (by kernel_rfl) rfl ?_
      exact ⟨by rw [hE.out]; rfl, HRES.out.2⟩
    · rw [hb1] at qa
      have hb1H := Lib.hid hb1
      clear hb1
      go_wp2_with fail
      refine qa.out.mono ?_
      rintro e w7 ⟨rfl, hb7⟩
      have HB7 := Lib.hid (ext_trans HB6.out hb7)
      have K27 := Lib.hid (K26.out.ext hb7)
      have HS7 := Lib.hid (HS6.out.ext hb7)
      have HT7 := Lib.hid (HT6.out.ext hb7)
      have qb := Lib.hid (qb.out w7 hb7)
      clear hb7
      cases hb2 : crkB sl ys
      · have hM := Lib.hid (show meetC w h sl xs ys = 4 from by unfold meetC; rw [if_pos hcH.out, hb1H.out, hb2]; rfl)
        have hE := Lib.hid (show R = (⟨0, 0⟩, 4) from by rw [hR.out, meetOf, hM.out, if_neg (by omega)])
        rw [hb2] at qb
        clear hb2
        go_wp2_with fail
        refine qb.out.mono ?_
        rintro e w8 ⟨rfl, hb8⟩
        have HB8 := Lib.hid (ext_trans HB7.out hb8)
        have K28 := Lib.hid (K27.out.ext hb8)
        clear hb8
        have f0 := (K28.out).frz 0
        have f1 := (K28.out).frz 1
        have e0 := (K28.out).cell 0 _ rfl
        have e1 := (K28.out).cell 1 _ rfl
        have HRES := Lib.hid (res_set (K28.out) HB8.out (by omega) 0 0)
        go_wp2_with fail
        (try simp only [Exit.inBlock, Exit.then])
        refine cell_ret2 Try.results25 rfl HRES.out.1 Try.underlying36 rfl (by kernel_rfl) rfl ?_
        exact ⟨by rw [hE.out]; rfl, HRES.out.2⟩
      · have hM := Lib.hid (show meetC w h sl xs ys = 0 from by unfold meetC; rw [if_pos hcH.out, hb1H.out, hb2]; rfl)
        have hE := Lib.hid (hR.out.trans (show meetOf w h sl xs ys = _ from by rw [meetOf, hM.out, if_pos rfl]))
        rw [hb2] at qb
        clear hb2
        go_wp2_with fail
        refine qb.out.mono ?_
        rintro e w8 ⟨rfl, hb8⟩
        have HB8 := Lib.hid (ext_trans HB7.out hb8)
        have K28 := Lib.hid (K27.out.ext hb8)
        have HT8 := Lib.hid (HT7.out.ext hb8)
        clear hb8
        go_wp2_with fail
        go_loopw [11] (fun i wr => ∃ k : Nat, k ≤ xs.length ∧ i = .int .i64 k ∧ (xs.take k).all (fun x => !decide (x ∈ ys)) = true ∧ Below w8.heap.size w8 wr) (fun i _ => xs.length - (intOf i).toNat)
        case atStart => exact ⟨0, by omega, rfl, rfl, Below.refl _ _⟩
        case round =>
          obtain ⟨k, hk, rfl, hall, hb⟩ := hrel
          obtain ⟨wo, rfl⟩ : ∃ wo : World, wo = wr := ⟨_, rfl⟩
          have HA := Lib.hid hall
          have H1 := Lib.hid hb
          have HBo := Lib.hid (ext_trans HB8.out hb)
          have K2o := Lib.hid (K28.out.ext hb)
          have HTo := Lib.hid (HT8.out.ext hb)
          clear hall hb
          by_cases hlt : k < xs.length
          · obtain ⟨b, o, rfl, hbb, g0, g1⟩ := hcell k hlt
            have g0 := (HBo.out.cell (p := ⟨b, _, none⟩) hbb).trans g0
            have g1 := (HBo.out.cell (p := ⟨b, _, none⟩) hbb).trans g1
            have hk8 : (0 : Int) ≤ (k : Int) := by omega
            have hk9 : (k : Int) < (xs.length : Int) := by omega
            have qh := Lib.hid (has_calls ys _ xs[k] wo HTo.out)
            have hst := Lib.hid (show ∀ q, decide (xs[k] ∈ ys) = q → (q = true → R = (xs[k], 0)) ∧ (q = false → (xs.take (k + 1)).all (fun x => !decide (x ∈ ys)) = true) from fun q hq => ⟨fun h => by
                have hf := findI_at (fun x => decide (x ∈ ys)) xs k hlt HA.out (hq.trans h)
                rw [hE.out, hf, if_neg (by omega)]
                simp [List.getD_eq_getElem?_getD, hlt], fun h => take_all_succ _ xs k hlt HA.out (by rw [hq, h]; rfl)⟩)
            generalize hpk : xs[k] = p at *
            unfold Cell.v at qh
            obtain ⟨q, hq⟩ : ∃ q, decide (p ∈ ys) = q := ⟨_, rfl⟩
            have hst := Lib.hid (hst.out q hq)
            rw [hq] at qh
            clear hq hcell hpk
            cases q
            · have hE2 := Lib.hid (hst.out.2 rfl)
              clear hst
              go_wp2_with fail
              refine qh.out.mono ?_
              rintro e w10 ⟨rfl, hb10⟩
              have HB10 := Lib.hid hb10
              clear hb10
              go_wp2_with fail
              go_roundw
              case rel => exact ⟨k + 1, by omega, by go_num, hE2.out, ext_trans H1.out HB10.out⟩
              case measure => first | (simp [intOf]; done) | (simp [intOf]; omega)
            · have hE2 := Lib.hid (hst.out.1 rfl)
              clear hst
              go_wp2_with fail
              refine qh.out.mono ?_
              rintro e w10 ⟨rfl, hb10⟩
              have HB10 := Lib.hid (ext_trans HBo.out hb10)
              have K210 := Lib.hid (K2o.out.ext hb10)
              have g0 := (hb10.cell (p := ⟨b, _, none⟩) (Nat.lt_of_lt_of_le hbb HBo.out.size)).trans g0
              have g1 := (hb10.cell (p := ⟨b, _, none⟩) (Nat.lt_of_lt_of_le hbb HBo.out.size)).trans g1
              clear hb10
              have f0 := (K210.out).frz 0
              have f1 := (K210.out).frz 1
              have e0 := (K210.out).cell 0 _ rfl
              have e1 := (K210.out).cell 1 _ rfl
              have HRES := Lib.hid (res_set (K210.out) HB10.out (by omega) p.x p.y)
              go_wp2_with fail
              (try simp only [Exit.inBlock, Exit.then])
              refine cell_ret2 Try.results25 rfl HRES.out.1 Try.underlying36 rfl (by kernel_rfl) rfl ?_
              exact ⟨by rw [hE2.out]; rfl, HRES.out.2⟩
          · obtain rfl : k = xs.length := by omega
            have hf := findI_none (fun x => decide (x ∈ ys)) xs (by have := HA.out; rwa [List.take_length] at this)
            have hE2 := Lib.hid (show R = (⟨0, 0⟩, 6) from by rw [hE.out, hf]; rfl)
            clear hf
            have f0 := (K2o.out).frz 0
            have f1 := (K2o.out).frz 1
            have e0 := (K2o.out).cell 0 _ rfl
            have e1 := (K2o.out).cell 1 _ rfl
            have HRES := Lib.hid (res_set (K2o.out) HBo.out (by omega) 0 0)
            go_wp2_with fail
            (try simp only [Exit.inBlock, Exit.then])
            refine cell_ret2 Try.results25 rfl HRES.out.1 Try.underlying36 rfl (by kernel_rfl) rfl ?_
            exact ⟨by rw [hE2.out]; rfl, HRES.out.2⟩
  · have hM := Lib.hid (show meetC w h sl xs ys = cornC w h sl (xs ++ ys) from by unfold meetC; rw [if_neg hc])
    have hE := Lib.hid (show R = (⟨0, 0⟩, cornC w h sl (xs ++ ys)) from by rw [hR.out, meetOf, hM.out, if_neg hc])
    have hcb : (cornC w h sl (xs ++ ys) == 0) = false := by simpa using hc
    have hcb2 : (cornC w h sl (xs ++ ys) != 0) = true := by simpa using hc
    generalize cornC w h sl (xs ++ ys) = C at *
    clear hc
    have f0 := (K26.out).frz 0
    have f1 := (K26.out).frz 1
    have e0 := (K26.out).cell 0 _ rfl
    have e1 := (K26.out).cell 1 _ rfl
    have HRES := Lib.hid (res_set (K26.out) HB6.out (by omega) 0 0)
    go_wp2_with fail
    (try simp only [Exit.inBlock, Exit.then])
    refine cell_ret2 Try.results25 rfl HRES.out.1 Try.underlying36 rfl (by kernel_rfl) rfl ?_
    exact ⟨by rw [hE.out]; rfl, HRES.out.2⟩
end Go.Proofs.Ytbmkhhhlnollmaa
