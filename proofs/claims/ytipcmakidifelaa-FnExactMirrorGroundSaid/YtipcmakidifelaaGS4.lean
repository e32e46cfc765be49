/-
FillLevels, of both. Conditions: numbers are of their kinds; slices can be read.
-/
import Derived.Test.YtipcmakidifelaaGS3
import Derived.Test.YtipcmakidifelaaGD12
set_option linter.unusedVariables false
set_option linter.unusedSimpArgs false
set_option maxRecDepth 100000
namespace Go.Proofs.Ytipcmakidifelaa
open Go.RowKit
open Classical in
/-- The levels of a ground: the one function that the words allow. -/
noncomputable def levOf (w h : Int) (hs : List Int) (gl : List Cell) : Cell → Int := if hx : ∃ F, IsLev w h hs gl F then Classical.choose hx else fun _ => 0
theorem levOf_is {w h : Int} {hs : List Int} {gl : List Cell} {F : Cell → Int} (hF : IsLev w h hs gl F) : IsLev w h hs gl (levOf w h hs gl) := by
  unfold levOf
  rw [dif_pos ⟨F, hF⟩]
  exact Classical.choose_spec (⟨F, hF⟩ : ∃ F, IsLev w h hs gl F)
theorem levOf_arr {w h : Int} {hs : List Int} {gl : List Cell} {F : Cell → Int} (hF : IsLev w h hs gl F) : levA w h F = levA w h (levOf w h hs gl) := levA_same (fun c hc => hF.uniq (levOf_is hF) c hc)
noncomputable def levL (w h : Int) (hs : List Int) (gl : List Cell) : List Int := levA w h (levOf w h hs gl)
theorem levL_len (w h : Int) (hs : List Int) (gl : List Cell) : (levL w h hs gl).length = 81 := levA_len _ _ _
def poolG (w h : Int) (hs : List Int) (gl : List Cell) : Int := if gOk w h hs gl = true then (if gl.length = 0 then 6 else 0) else 1
theorem poolG_ok {w h : Int} {hs : List Int} {gl : List Cell} (hc : poolG w h hs gl = 0) : gOk w h hs gl = true ∧ gl ≠ [] := by
  unfold poolG at hc
  split at hc
  · rename_i hk
    split at hc
    · omega
    · rename_i hl
      exact ⟨hk, fun e => hl (by rw [e]; rfl)⟩
  · omega
noncomputable def fillL (w h : Int) (hs : List Int) (gl : List Cell) : List Int × Int := if poolG w h hs gl = 0 then (levL w h hs gl, 0) else (z81, poolG w h hs gl)
theorem fillL_len (w h : Int) (hs : List Int) (gl : List Cell) : (fillL w h hs gl).1.length = 81 := by
  unfold fillL
  split
  · exact levL_len _ _ _ _
  · exact z81_len'
def RetL (W : World) (r : List Int × Int) (e : Ending) (w' : World) : Prop := e = .returned (.tuple #[.agg (hA r.1), .int .i64 r.2]) ∧ Below W.heap.size W w'
theorem cellret2 {P : Program} {fn : Func} {t s : Nat} {R : Ending → World → Prop} {a : Act} {W : World} {T : TypeId} (hr : fn.results = #[.cell t T, .tmp s]) {p : Nat} (hp : a.tmps.getD t undef = .pointer (some ⟨p, 0, none⟩)) {v : Value} (hs : a.tmps.getD s undef = v) {cs : Array Value}
    (hld : (loadVar T ⟨p, 0, none⟩).run P W = .ok (.agg cs) W) (hd : a.defers = []) (hR : R (.returned (.tuple #[.agg cs, v])) W) : bodyPost P fn R .ret a W := by
  refine bodyPost_ret (v := .tuple #[.agg cs, v]) ?_ hd hR
  have hp2 : a.tmps[t]?.getD undef = .pointer (some ⟨p, 0, none⟩) := by simpa using hp
  have hs2 : a.tmps[s]?.getD undef = v := by simpa using hs
  simp [results, hr, hp2, hs2, hld, asAddr, Sem.run_bind, Result.andThen]
theorem levels_calls {w h : Int} {hs : List Int} {gl : List Cell} (ok : GOk w h hs gl) (hne : gl ≠ []) (hl : hs.length = 81) (z : Value) (W : World) (hz : Sl W W.heap.size Cell.c 2 z gl) :
    Calls Try.prog 52 #[.agg (gdA w h hs z)] W fun e w' => e = .returned (.agg (hA (levL w h hs gl))) ∧ Below W.heap.size W w' := by
  have hB := ext_alloc ((Below.refl W.heap.size W).alloc (Nat.le_refl _) (.cells (gdA w h hs z) 36)) (.cells Try.zeroCells25 25)
  have HB := Lib.hid hB
  have KG := Lib.hid ((Bk.new W 36 (gdA w h hs z) W.heap.size rfl).alloc (.cells Try.zeroCells25 25))
  have KZ := Lib.hid (Bk.new (W.alloc (.cells (gdA w h hs z) 36)) 25 Try.zeroCells25 (W.heap.size + 1) (by simp))
  have ldg := load_gd hl KG.out
  have qs := Lib.hid (spread_calls ok hne hl z W.heap.size 36 _ KG.out (hz.ext hB))
  have hzz := Lib.hid zeroA81
  clear hB hz
  go_enter Try.func52, Try.ntmps52
  go_wp2_with (refine wpList_load_w rfl 36 (.tmp 1) rfl _ rfl _ ldg ?_)
  refine qs.out.mono ?_
  rintro e w1 ⟨⟨F, hF, rfl⟩, hb1⟩
  have hE := Lib.hid (show levL w h hs gl = levA w h F from (levOf_arr hF).symm)
  have hL := Lib.hid (levA_len w h F)
  have K1 := Lib.hid (KZ.out.ext hb1)
  have HB1 := Lib.hid (ext_trans HB.out hb1)
  clear hF hb1 ldg qs
  generalize levA w h F = L at *
  go_wp2_with (refine wpList_store_m rfl 25 (.tmp 2) (.tmp 7) rfl _ 0 (hA L) rfl rfl _ _ K1.out (by rw [hzz.out, hA_size, hA_size, hL.out, z81_len']; omega) (by rw [hA_size, hL.out]; exact a81_sz _) (hA_one L) ?_)
  intro W9 hK9 hG9
  rw [writeAt_all _ _ (by rw [hzz.out, Array.length_toList, Array.length_toList, hA_size, hA_size, hL.out, z81_len'])] at hK9
  have HK9 := Lib.hid hK9
  have HB9 := Lib.hid (HB1.out.grown hG9 HB1.out.size (fun j hj => by injection hj with hj; omega))
  clear hK9 hG9
  go_wp2_with fail
  exact cellret Try.results52 rfl (load_a81 hL.out HK9.out) rfl ⟨by rw [hE.out], HB9.out⟩
theorem sLevelsL_calls {w h : Int} {hs : List Int} {gl : List Cell} (ok : GOk w h hs gl) (hne : gl ≠ []) (hl : hs.length = 81) (z : Value) (g : Nat) (T : TypeId) (W : World) (hg : Bk W g T (gdA w h hs z)) (hz : Sl W W.heap.size Cell.c 2 z gl) :
    Calls Try.prog 50 #[.pointer (some ⟨g, 0, none⟩)] W fun e w' => e = .returned (.agg (hA (levL w h hs gl))) ∧ Below W.heap.size W w' := by
  refine (sLevels_calls ok hne hl z g T W hg hz).mono ?_
  rintro e w1 ⟨⟨F, hF, rfl⟩, hb⟩
  exact ⟨by rw [show levL w h hs gl = levA w h F from (levOf_arr hF).symm], hb⟩
theorem levelCode_calls (w h : Int) (hs : List Int) (gl : List Cell) (z : Value) (W : World) (hq : GdIn W w h hs gl z) :
    Calls Try.prog 51 #[.agg (gdA w h hs z)] W fun e w' => e = .returned (.int .i64 (poolG w h hs gl)) ∧ Below W.heap.size W w' := by
  have hB := (Below.refl W.heap.size W).alloc (Nat.le_refl _) (.cells (gdA w h hs z) 36)
  have HB := Lib.hid hB
  have KG := Lib.hid (Bk.new W 36 (gdA w h hs z) W.heap.size rfl)
  have qo := Lib.hid (validGround_calls w h hq.w0 hq.w1 hq.h0 hq.h1 hs hq.hl hq.h16 gl z hq.ok _ (hq.sl.ext hB))
  have hl := hq.hl
  have ldg := load_gd hl KG.out
  obtain ⟨A, cap, rfl, hcap, hcap2, -⟩ := hq.sl.cell
  have wl : IntKind.i64.wrap (gl.length : Int) = (gl.length : Int) := wrapIn _ (by omega) (by omega)
  have hA := Lib.hid (show poolG w h hs gl = if gOk w h hs gl = true then (if gl.length = 0 then 6 else 0) else 1 from rfl)
  clear hB hq
  go_enter Try.func51, Try.ntmps51
  go_wp2_with (refine wpList_load_w rfl 36 (.tmp 1) rfl _ rfl _ ldg ?_)
  cases hk : gOk w h hs gl
  · rw [hk] at hA qo
    clear hk
    refine qo.out.mono ?_
    rintro e w1 ⟨rfl, hb1⟩
    go_wp2_with fail
    go_ret
    exact ⟨ret_int (by rw [hA.out]; rfl), ext_trans HB.out hb1⟩
  · rw [hk] at hA qo
    clear hk
    refine qo.out.mono ?_
    rintro e w1 ⟨rfl, hb1⟩
    have HB1 := Lib.hid (ext_trans HB.out hb1)
    have k83 := (KG.out.ext hb1).cell 83 _ (gdA_z _ _ _ _ hl)
    clear hb1 ldg
    by_cases h0 : gl.length = 0
    · have hd : decide (0 < gl.length) = false := by rw [decide_eq_false_iff_not]; omega
      have qu := Lib.hid (fun W' => unless_calls false 6 W')
      rw [if_pos rfl, if_pos h0] at hA
      clear h0
      go_wp2_with fail
      refine (qu.out _).mono ?_
      rintro e w2 ⟨rfl, rfl⟩
      go_wp2_with fail
      go_ret
      exact ⟨ret_int (by rw [hA.out]), HB1.out⟩
    · have hd : decide (0 < gl.length) = true := by rw [decide_eq_true_eq]; omega
      have qu := Lib.hid (fun W' => unless_calls true 6 W')
      rw [if_pos rfl, if_neg h0] at hA
      clear h0
      go_wp2_with fail
      refine (qu.out _).mono ?_
      rintro e w2 ⟨rfl, rfl⟩
      go_wp2_with fail
      go_ret
      exact ⟨ret_int (by rw [hA.out]), HB1.out⟩
theorem sPools_calls (g : Nat) (T : TypeId) (w h : Int) (hs : List Int) (gl : List Cell) (z : Value) (W : World) (hq : GdIn W w h hs gl z) (hg : Bk W g T (gdA w h hs z)) :
    Calls Try.prog 49 #[.pointer (some ⟨g, 0, none⟩)] W fun e w' => e = .returned (.int .i64 (poolG w h hs gl)) ∧ Below W.heap.size W w' := by
  have qo := Lib.hid (sOkG_calls g T w h hq.w0 hq.w1 hq.h0 hq.h1 hs hq.hl hq.h16 gl z hq.ok W hg hq.sl)
  have hl := hq.hl
  have HG := Lib.hid hg
  obtain ⟨A, cap, rfl, hcap, hcap2, -⟩ := hq.sl.cell
  have wl : IntKind.i64.wrap (gl.length : Int) = (gl.length : Int) := wrapIn _ (by omega) (by omega)
  have hA := Lib.hid (show poolG w h hs gl = if gOk w h hs gl = true then (if gl.length = 0 then 6 else 0) else 1 from rfl)
  clear hg hq
  go_enter Try.func49, Try.ntmps49
  go_wp2_with fail
  cases hk : gOk w h hs gl
  · rw [hk] at hA qo
    clear hk
    refine qo.out.mono ?_
    rintro e w1 ⟨rfl, hb1⟩
    go_wp2_with fail
    go_ret
    exact ⟨ret_int (by rw [hA.out]; rfl), hb1⟩
  · rw [hk] at hA qo
    clear hk
    refine qo.out.mono ?_
    rintro e w1 ⟨rfl, hb1⟩
    have HB1 := Lib.hid hb1
    have k83 := (HG.out.ext hb1).cell 83 _ (gdA_z _ _ _ _ hl)
    clear hb1
    by_cases h0 : gl.length = 0
    · have hd : ((gl.length : Int) == 0) = true := by rw [beq_iff_eq]; omega
      rw [if_pos rfl, if_pos h0] at hA
      clear h0
      go_wp2_with fail
      go_ret
      exact ⟨ret_int (by rw [hA.out]), HB1.out⟩
    · have hd : ((gl.length : Int) == 0) = false := by rw [beq_eq_false_iff_ne]; omega
      rw [if_pos rfl, if_neg h0] at hA
      have hd2 : ¬ (gl.length : Int) = 0 := by omega
      clear h0
      go_wp2_with fail
      go_ret
      exact ⟨ret_int (by rw [hA.out]), HB1.out⟩
set_option maxHeartbeats 1000000 in
theorem implFillLevels_calls (w h : Int) (hs : List Int) (gl : List Cell) (z : Value) (W : World) (hq : GdIn W w h hs gl z) :
    Calls Try.prog 22 #[.agg (gdA w h hs z)] W (RetL W (fillL w h hs gl)) := by
  have hB := ext_alloc ((Below.refl W.heap.size W).alloc (Nat.le_refl _) (.cells (gdA w h hs z) 36)) (.cells Try.zeroCells25 25)
  have HB := Lib.hid hB
  have KG := Lib.hid ((Bk.new W 36 (gdA w h hs z) W.heap.size rfl).alloc (.cells Try.zeroCells25 25))
  have KZ := Lib.hid (Bk.new (W.alloc (.cells (gdA w h hs z) 36)) 25 Try.zeroCells25 (W.heap.size + 1) (by simp))
  have hl := hq.hl
  have ldg := load_gd hl KG.out
  have HQ := Lib.hid hq
  have qc := Lib.hid (levelCode_calls w h hs gl z _ (hq.ext hB))
  have hzz := Lib.hid zeroA81
  clear hB hq
  go_enter Try.func22, Try.ntmps22
  go_wp2_with (refine wpList_load_w rfl 36 (.tmp 1) rfl _ rfl _ ldg ?_)
  refine qc.out.mono ?_
  rintro e w1 ⟨rfl, hb1⟩
  have HB1 := Lib.hid (ext_trans HB.out hb1)
  have KG1 := Lib.hid (KG.out.ext hb1)
  have KZ1 := Lib.hid (KZ.out.ext hb1)
  clear hb1 ldg qc
  by_cases hc : poolG w h hs gl = 0
  · have hE := Lib.hid (show fillL w h hs gl = (levL w h hs gl, 0) from if_pos hc)
    have ok := poolG_ok hc
    have ql := Lib.hid (levels_calls (gOk_ok ok.1) ok.2 hl z w1 (HQ.out.sl.ext HB1.out))
    have hL := Lib.hid (levL_len w h hs gl)
    have ldg := load_gd hl KG1.out
    rw [hc]
    clear hc ok
    generalize levL w h hs gl = L at *
    go_wp2_with (refine wpList_load_w rfl 36 (.tmp 1) rfl _ rfl _ ldg ?_)
    refine ql.out.mono ?_
    rintro e w2 ⟨rfl, hb2⟩
    have K2 := Lib.hid (KZ1.out.ext hb2)
    have HB2 := Lib.hid (ext_trans HB1.out hb2)
    clear hb2 ldg
    go_wp2_with (refine wpList_store_m rfl 25 (.tmp 2) (.tmp 12) rfl _ 0 (hA L) rfl rfl _ _ K2.out (by rw [hzz.out, hA_size, hA_size, hL.out, z81_len']; omega) (by rw [hA_size, hL.out]; exact a81_sz _) (hA_one L) ?_)
    intro W9 hK9 hG9
    rw [writeAt_all _ _ (by rw [hzz.out, Array.length_toList, Array.length_toList, hA_size, hA_size, hL.out, z81_len'])] at hK9
    have HK9 := Lib.hid hK9
    have HB9 := Lib.hid (HB2.out.grown hG9 HB2.out.size (fun j hj => by injection hj with hj; omega))
    clear hK9 hG9
    go_wp2_with fail
    exact cellret2 Try.results22 rfl rfl (load_a81 hL.out HK9.out) rfl ⟨by rw [hE.out]; rfl, HB9.out⟩
  · have hE := Lib.hid (show fillL w h hs gl = (z81, poolG w h hs gl) from if_neg hc)
    have hcb : (poolG w h hs gl == 0) = false := by simpa using hc
    have hcb2 : (poolG w h hs gl != 0) = true := by simpa using hc
    generalize poolG w h hs gl = C at *
    clear hc
    go_wp2_with (refine wpList_store_m rfl 25 (.tmp 2) (.tmp 9) rfl _ 0 Try.zeroCells25 rfl rfl _ _ KZ1.out (by omega) (by rw [hzz.out, hA_size]; exact a81_sz _) (by rw [hzz.out]; exact hA_one _) ?_)
    intro W9 hK9 hG9
    rw [writeAt_all _ _ rfl] at hK9
    have HK9 := Lib.hid (show Bk W9 (W.heap.size + 1) 25 (hA z81) from by rw [← hzz.out]; simpa using hK9)
    have HB9 := Lib.hid (HB1.out.grown hG9 HB1.out.size (fun j hj => by injection hj with hj; omega))
    clear hK9 hG9
    go_wp2_with fail
    exact cellret2 Try.results22 rfl rfl (load_a81 z81_len' HK9.out) rfl ⟨by rw [hE.out]; rfl, HB9.out⟩
set_option maxHeartbeats 1000000 in
theorem specFillLevels_calls (w h : Int) (hs : List Int) (gl : List Cell) (z : Value) (W : World) (hq : GdIn W w h hs gl z) :
    Calls Try.prog 21 #[.agg (gdA w h hs z)] W (RetL W (fillL w h hs gl)) := by
  have hB := ext_alloc ((Below.refl W.heap.size W).alloc (Nat.le_refl _) (.cells (gdA w h hs z) 36)) (.cells Try.zeroCells25 25)
  have HB := Lib.hid hB
  have KG := Lib.hid ((Bk.new W 36 (gdA w h hs z) W.heap.size rfl).alloc (.cells Try.zeroCells25 25))
  have KZ := Lib.hid (Bk.new (W.alloc (.cells (gdA w h hs z) 36)) 25 Try.zeroCells25 (W.heap.size + 1) (by simp))
  have hl := hq.hl
  have HQ := Lib.hid hq
  have qc := Lib.hid (sPools_calls W.heap.size _ w h hs gl z _ (hq.ext hB) KG.out)
  have hzz := Lib.hid zeroA81
  clear hB hq
  go_enter Try.func21, Try.ntmps21
  go_wp2_with fail
  refine qc.out.mono ?_
  rintro e w1 ⟨rfl, hb1⟩
  have HB1 := Lib.hid (ext_trans HB.out hb1)
  have KG1 := Lib.hid (KG.out.ext hb1)
  have KZ1 := Lib.hid (KZ.out.ext hb1)
  clear hb1 qc
  by_cases hc : poolG w h hs gl = 0
  · have hE := Lib.hid (show fillL w h hs gl = (levL w h hs gl, 0) from if_pos hc)
    have ok := poolG_ok hc
    have ql := Lib.hid (sLevelsL_calls (gOk_ok ok.1) ok.2 hl z W.heap.size _ w1 KG1.out (HQ.out.sl.ext HB1.out))
    have hL := Lib.hid (levL_len w h hs gl)
    rw [hc]
    clear hc ok
    generalize levL w h hs gl = L at *
    go_wp2_with fail
    refine ql.out.mono ?_
    rintro e w2 ⟨rfl, hb2⟩
    have K2 := Lib.hid (KZ1.out.ext hb2)
    have HB2 := Lib.hid (ext_trans HB1.out hb2)
    clear hb2
    go_wp2_with (refine wpList_store_m rfl 25 (.tmp 2) (.tmp 10) rfl _ 0 (hA L) rfl rfl _ _ K2.out (by rw [hzz.out, hA_size, hA_size, hL.out, z81_len']; omega) (by rw [hA_size, hL.out]; exact a81_sz _) (hA_one L) ?_)
    intro W9 hK9 hG9
    rw [writeAt_all _ _ (by rw [hzz.out, Array.length_toList, Array.length_toList, hA_size, hA_size, hL.out, z81_len'])] at hK9
    have HK9 := Lib.hid hK9
    have HB9 := Lib.hid (HB2.out.grown hG9 HB2.out.size (fun j hj => by injection hj with hj; omega))
    clear hK9 hG9
    go_wp2_with fail
    exact cellret2 Try.results21 rfl rfl (load_a81 hL.out HK9.out) rfl ⟨by rw [hE.out]; rfl, HB9.out⟩
  · have hE := Lib.hid (show fillL w h hs gl = (z81, poolG w h hs gl) from if_neg hc)
    have hcb : (poolG w h hs gl == 0) = false := by simpa using hc
    have hcb2 : (poolG w h hs gl != 0) = true := by simpa using hc
    generalize poolG w h hs gl = C at *
    clear hc
    go_wp2_with (refine wpList_store_m rfl 25 (.tmp 2) (.tmp 8) rfl _ 0 Try.zeroCells25 rfl rfl _ _ KZ1.out (by omega) (by rw [hzz.out, hA_size]; exact a81_sz _) (by rw [hzz.out]; exact hA_one _) ?_)
    intro W9 hK9 hG9
    rw [writeAt_all _ _ rfl] at hK9
    have HK9 := Lib.hid (show Bk W9 (W.heap.size + 1) 25 (hA z81) from by rw [← hzz.out]; simpa using hK9)
    have HB9 := Lib.hid (HB1.out.grown hG9 HB1.out.size (fun j hj => by injection hj with hj; omega))
    clear hK9 hG9
    go_wp2_with fail
    exact cellret2 Try.results21 rfl rfl (load_a81 z81_len' HK9.out) rfl ⟨by rw [hE.out]; rfl, HB9.out⟩
end Go.Proofs.Ytipcmakidifelaa
