/-
DrySquare, of both: the join. Conditions: numbers are of their kinds; slices can be read.
-/
import Derived.Test.YtipcmakidifelaaGS6
set_option linter.unusedVariables false
set_option linter.unusedSimpArgs false
set_option maxRecDepth 100000
namespace Go.Proofs.Ytipcmakidifelaa
open Go.RowKit
theorem l04Own_calls (w h : Int) (hs : List Int) (hl : hs.length = 81) (gl : List Cell) (z : Value) (g : Nat) (T : TypeId) (W : World) (hg : Bk W g T (gdA w h hs z)) (hz : Sl W W.heap.size Cell.c 2 z gl) (hgl : gl.length ≤ 1000000) :
    Calls Try.prog 55 #[.pointer (some ⟨g, 0, none⟩)] W fun e w' => ∃ v, e = .returned (.agg (gdA w h hs v)) ∧ Own w' W.heap.size 38 Cell.c 2 v gl ∧ Below W.heap.size W w' := by
  obtain ⟨A, cap, rfl, -, -, -⟩ := hz.cell
  have HZ := Lib.hid hz
  have HGT := Lib.hid hg.lt
  have KG := Lib.hid ((hg.alloc (.cells Try.zeroCells36 36)).alloc (.cells Try.zeroCells36 36))
  have KR := Lib.hid ((Bk.new W 36 Try.zeroCells36 W.heap.size rfl).alloc (.cells Try.zeroCells36 36))
  have KX := Lib.hid (Bk.new (W.alloc (.cells Try.zeroCells36 36)) 36 Try.zeroCells36 (W.heap.size + 1) (by simp))
  have HB := Lib.hid (ext_alloc ((Below.refl W.heap.size W).alloc (Nat.le_refl _) (.cells Try.zeroCells36 36)) (.cells Try.zeroCells36 36))
  have ldg := load_gd hl (hg.alloc (.cells Try.zeroCells36 36))
  clear hz hg
  go_enter Try.func55, Try.ntmps55
  go_wp2_with (first | (refine wpList_load_w rfl 36 (.tmp 5) rfl _ rfl _ ldg ?_) | (refine wpList_store_m rfl 36 (.tmp 3) (.tmp 6) rfl _ 0 (gdA w h hs (.slice A gl.length cap)) rfl rfl _ _ KX.out (by rw [gdA_size _ _ _ _ hl, zG_size]; omega) (by rw [gdA_size _ _ _ _ hl]; exact gd_sz _) (gdA_one _ _ _ _ _ _) ?_))
  intro w3 hK hG
  rw [gdA_zero _ _ _ hl] at hK
  have KX := Lib.hid hK
  have KG := Lib.hid (KG.out.grownM hG (by have := HGT.out; omega))
  have KR := Lib.hid (KR.out.grownM hG (by omega))
  have HB := Lib.hid (HB.out.grown hG HB.out.size (fun j hj => by injection hj with hj; omega))
  clear hK hG ldg
  have k83 := KG.out.cell 83 _ (gdA_z _ _ _ _ hl)
  have k83a := (KG.out.alloc (.cells #[] 38)).cell 83 _ (gdA_z _ _ _ _ hl)
  have hO0 := Lib.hid (Own.empty (α := Cell) (c := Cell.c) (sz := 2) (E := 38) w3 w3.heap.size w3.heap.size rfl (Nat.le_refl _))
  have HBa := Lib.hid (HB.out.alloc HB.out.size (.cells #[] 38))
  have KXa := Lib.hid (KX.out.alloc (.cells #[] 38))
  have KRa := Lib.hid (KR.out.alloc (.cells #[] 38))
  have hx3 := Lib.hid (show W.heap.size + 1 < w3.heap.size from KX.out.lt)
  clear HB KX KR KG
  go_wp2_with (at_builtin; refine push_app appCell rfl _ _ rfl w3.heap.size [] gl _ _ rfl rfl hO0.out (HZ.out.ext HBa.out) (by simp; omega) (by simp; omega) (by simp) ?_)
  intro v6 w6 hO6 hG6 hat
  obtain ⟨A6, cap6, rfl, -, -, -⟩ := (hO6.sl Cell.c_len).cell
  have KX6 := Lib.hid (KXa.out.grownM (m := w3.heap.size) (show World.grownBy _ _ (some w3.heap.size) from hG6) (by have := hx3.out; omega))
  have KR6 := Lib.hid (KRa.out.grownM (m := w3.heap.size) (show World.grownBy _ _ (some w3.heap.size) from hG6) (by have := hx3.out; omega))
  have HB6 := Lib.hid (HBa.out.grown hG6 HBa.out.size (fun j hj => by have := hO0.out.base j hj; have := hx3.out; omega))
  have HO6 := Lib.hid hO6
  clear hO6 hG6 hat k83 k83a HBa KXa KRa
  have c83 := KX6.out.cell 83 _ (gdA_z _ _ _ _ hl)
  have f83 := KX6.out.frz 83
  go_upto_region 3 with (fail)
  have KX8 := Lib.hid (KX6.out.set 83 (.slice A6 gl.length cap6))
  rw [gdA_set83 w h hs hl] at KX8
  have KR8 := Lib.hid (KR6.out.oth (g' := W.heap.size + 1) 83 (.slice A6 gl.length cap6) (by omega))
  have HO8 := Lib.hid (show Own (w6.setCell ⟨W.heap.size + 1, 83, none⟩ (.slice A6 gl.length cap6)) w3.heap.size 38 Cell.c 2 _ gl from HO6.out.keep (fun j hj => by have h1 := HO6.out.base j hj; have h2 := hx3.out; rw [Below.heap_setCell _ _ _ _ (show j ≠ _ by simp <;> omega)]))
  have HB8 := Lib.hid (HB6.out.setCell (p := ⟨W.heap.size + 1, 83, none⟩) (by simp <;> omega) (.slice A6 gl.length cap6))
  generalize w6.setCell ⟨W.heap.size + 1, 83, none⟩ (.slice A6 gl.length cap6) = w8 at *
  clear c83 f83
  have ldg := load_gd hl KX8.out
  go_wp2_with (first | (refine wpList_load_w rfl 36 (.tmp 3) rfl _ rfl _ ldg ?_) | (refine wpList_store_m rfl 36 (.tmp 2) (.tmp 14) rfl _ 0 (gdA w h hs (.slice A6 gl.length cap6)) rfl rfl _ _ KR8.out (by rw [gdA_size _ _ _ _ hl, zG_size]; omega) (by rw [gdA_size _ _ _ _ hl]; exact gd_sz _) (gdA_one _ _ _ _ _ _) ?_))
  intro w9 hK9 hG9
  rw [gdA_zero _ _ _ hl] at hK9
  have K9 := Lib.hid hK9
  have HB9 := Lib.hid (HB8.out.grown hG9 HB8.out.size (fun j hj => by injection hj with hj; omega))
  have HO9 := Lib.hid (HO8.out.grownM hG9 (by have := hx3.out; omega))
  clear hK9 hG9 ldg
  go_wp2_with fail
  exact cellret Try.results55 rfl (load_gd hl K9.out) rfl ⟨_, rfl, HO9.out.more (by have := hx3.out; omega), HB9.out⟩
structure GdR where
  gd : Gd
  n : Int
  code : Int
def RetG2 (W : World) (r : GdR) (e : Ending) (w' : World) : Prop := ∃ v, e = .returned (.tuple #[.agg (gdA r.gd.w r.gd.h r.gd.hs v), .int .i64 r.n, .int .i64 r.code]) ∧ Own w' W.heap.size 38 Cell.c 2 v r.gd.gl ∧ Below W.heap.size W w'
noncomputable def dryG (w h : Int) (hs : List Int) (gl : List Cell) : GdR := if poolG w h hs gl = 0 then ⟨⟨w, h, levL w h hs gl, gl⟩, cntD (levL w h hs gl) hs 81, 0⟩ else ⟨⟨0, 0, z81, []⟩, 0, poolG w h hs gl⟩
theorem dryG_hs {w h : Int} {hs : List Int} {gl : List Cell} : (dryG w h hs gl).gd.hs.length = 81 := by
  unfold dryG
  split
  · exact levL_len _ _ _ _
  · exact z81_len
theorem dryG_gl {w h : Int} {hs : List Int} {gl : List Cell} : (dryG w h hs gl).gd.gl.length ≤ 8 := by
  unfold dryG
  split
  · rename_i hc
    exact (gOk_ok (poolG_ok hc).1).len
  · simp
theorem lev_ne {w h : Int} {hs : List Int} {gl : List Cell} (ok : GOk w h hs gl) (hF : IsLev w h hs gl (levOf w h hs gl)) (i : Nat) (hi : i < 81) : hs.getD i 0 ≤ (levL w h hs gl).getD i 0 := by
  unfold levL
  rw [List.getD_eq_getElem?_getD (l := levA _ _ _), levA_at w h _ i hi, Option.getD_some]
  cases hp : gpB w h (cellOf i)
  · have := ok.zero i hi hp
    rw [if_neg (by decide)]
    omega
  · rw [if_pos rfl]
    have := att_bd ok.ht ok.gl (hF.att _ hp)
    rw [htL_idx, cell_idx] at this
    exact this.2.2
abbrev DyS (W0 : World) (g : Nat) (gd : Array Value) (w' : World) : Prop := Below W0.heap.size W0 w' ∧ (loadVar 36 ⟨g, 0, none⟩).run Try.prog w' = .ok (.agg gd) w'
theorem DyS.mk {W0 w' : World} {g : Nat} {w h : Int} {hs : List Int} {z : Value} {T : TypeId} (hl : hs.length = 81) (hb : Below W0.heap.size W0 w') (hg : Bk w' g T (gdA w h hs z)) : DyS W0 g (gdA w h hs z) w' := ⟨hb, load_gd hl hg⟩
set_option maxHeartbeats 1000000 in
theorem implDrySquare_calls (w h : Int) (hs : List Int) (gl : List Cell) (z : Value) (W : World) (hq : GdIn W w h hs gl z) :
    Calls Try.prog 27 #[.agg (gdA w h hs z)] W (RetG2 W (dryG w h hs gl)) := by
  have hB := ext_alloc ((Below.refl W.heap.size W).alloc (Nat.le_refl _) (.cells (gdA w h hs z) 36)) (.cells Try.zeroCells36 36)
  have HB := Lib.hid hB
  have KG := Lib.hid ((Bk.new W 36 (gdA w h hs z) W.heap.size rfl).alloc (.cells Try.zeroCells36 36))
  have KR := Lib.hid (Bk.new (W.alloc (.cells (gdA w h hs z) 36)) 36 Try.zeroCells36 (W.heap.size + 1) (by simp))
  have hl := hq.hl
  have ldg := load_gd hl KG.out
  have HQ := Lib.hid hq
  have qc := Lib.hid (levelCode_calls w h hs gl z _ (hq.ext hB))
  clear hB hq
  go_enter Try.func27, Try.ntmps27
  go_wp2_with (refine wpList_load_w rfl 36 (.tmp 1) rfl _ rfl _ ldg ?_)
  refine qc.out.mono ?_
  rintro e w1 ⟨rfl, hb1⟩
  have HB1 := Lib.hid (ext_trans HB.out hb1)
  have KG1 := Lib.hid (KG.out.ext hb1)
  have KR1 := Lib.hid (KR.out.ext hb1)
  clear hb1 ldg qc
  by_cases hc : poolG w h hs gl = 0
  · have hE := Lib.hid (show dryG w h hs gl = ⟨⟨w, h, levL w h hs gl, gl⟩, cntD (levL w h hs gl) hs 81, 0⟩ from if_pos hc)
    have ok := poolG_ok hc
    have hgl8 := Lib.hid (show gl.length ≤ 1000000 from by have := (gOk_ok ok.1).len; omega)
    have qr := Lib.hid (raised_calls (gOk_ok ok.1) ok.2 hl z w1 (HQ.out.sl.ext HB1.out))
    have ql := Lib.hid (fun W' (hb : Below W.heap.size W W') => levels_calls (gOk_ok ok.1) ok.2 hl z W' (HQ.out.sl.ext hb))
    have hL := Lib.hid (levL_len w h hs gl)
    have ldg := load_gd hl KG1.out
    rw [hc]
    clear hc ok
    generalize sumD (levL w h hs gl) hs 81 = S at *
    generalize cntD (levL w h hs gl) hs 81 = C at *
    generalize levL w h hs gl = L at *
    go_wp2_with (refine wpList_load_w rfl 36 (.tmp 1) rfl _ rfl _ ldg ?_)
    refine qr.out.mono ?_
    rintro e w2 ⟨rfl, hb2⟩
    have HB2 := Lib.hid (ext_trans HB1.out hb2)
    have KG2 := Lib.hid (KG1.out.ext hb2)
    have KR2 := Lib.hid (KR1.out.ext hb2)
    clear hb2 ldg
    go_wp2_with fail
    have HS5 := Lib.hid (fun (w' : World) (he : w'.heap = w2.heap) (h1 : w'.os = w2.os) (h2 : w'.tape = w2.tape) (h3 : w'.output = w2.output) => DyS.mk hl (below_at HB2.out he h1 h2 h3) (KG2.out.at_ he))
    refine wp_region_held_drew (S := (DyS W W.heap.size (gdA w h hs z))) (by kernel_rfl) ?r29_hS0 (fun hHeld => ?r29_rest)
    case r29_hS0 => (try dsimp only); first | assumption | exact HS5.out _ rfl rfl rfl rfl | exact HS7.out | exact HS8.out | exact HS9.out
    refine wpAnyH_take (i := 0) (v := ?r29_vv0) (by (simp only [List.getElem?_toArray, List.getElem?_cons_succ, List.getElem?_cons_zero]; rfl)) (by kernel_rfl) (by kernel_rfl) (by kernel_rfl) (by exact fun _ _ _ h => h) (Or.inl ⟨by rfl, ?r29_hy0⟩) (by assumption) ?r29_rest0
    case r29_hy0 => intro w hSw; (try dsimp only at hSw); refine (exec_load rfl rfl hSw.2).trans ?_; with_reducible rfl
    try simp only [Act.put, List.setIfInBounds_toArray, List.set_cons_zero, List.set_cons_succ]
    refine wpAnyH_take (i := 1) (v := ?r29_vv1) (by (simp only [List.getElem?_toArray, List.getElem?_cons_succ, List.getElem?_cons_zero]; rfl)) (by kernel_rfl) (by kernel_rfl) (by kernel_rfl) (by exact fun _ _ _ h => h) (Or.inl ⟨by rfl, ?r29_hy1⟩) (by assumption) ?r29_rest1
    case r29_hy1 => intro w hSw; (try dsimp only at hSw); refine (exec_load rfl rfl hSw.2).trans ?_; with_reducible rfl
    try simp only [Act.put, List.setIfInBounds_toArray, List.set_cons_zero, List.set_cons_succ]
    refine wpAnyH_take (i := 4) (v := ?r29_vv4) (by (simp only [List.getElem?_toArray, List.getElem?_cons_succ, List.getElem?_cons_zero]; rfl)) (by kernel_rfl) (by kernel_rfl) (by kernel_rfl) (by exact fun _ _ _ h => h) (Or.inl ⟨by rfl, ?r29_hy4⟩) (by assumption) ?r29_rest4
    case r29_hy4 => intro w hSw; (try dsimp only at hSw); (go_simp <;> (with_reducible rfl))
    try simp only [Act.put, List.setIfInBounds_toArray, List.set_cons_zero, List.set_cons_succ]
    refine wpAnyH_ready (rs := [2]) (by kernel_rfl) (by simp) ?_
    refine AllReadyH.cons (by (simp only [List.getElem?_toArray, List.getElem?_cons_succ, List.getElem?_cons_zero]; rfl)) (fun K hK => ?_) AllReadyH.nil
    go_simp
    (go_at_call 52; refine (ql.out _ (by first | exact HB2.out | exact HB2.out.drew)).mono ?_; rintro e w7 ⟨rfl, hb7⟩; have HB7 := Lib.hid (ext_at hb7 HB2.out rfl rfl rfl rfl); have HG7 := Lib.hid (Bk.ext_at hb7 KG2.out rfl); have HR7 := Lib.hid (Bk.ext_at hb7 KR2.out rfl); have HS7 := Lib.hid (DyS.mk hl HB7.out HG7.out))
    try go_wp2_with fail
    refine hK.out _ _ ?r29_hS2 (fun hHeld => ?r29_r2)
    case r29_hS2 => (try dsimp only); first | assumption | exact HS5.out _ rfl rfl rfl rfl | exact HS7.out | exact HS8.out | exact HS9.out
    clear hK K
    try simp only [Act.put, List.setIfInBounds_toArray, List.set_cons_zero, List.set_cons_succ]
    refine wpAnyH_ready (rs := [3]) (by kernel_rfl) (by simp) ?_
    refine AllReadyH.cons (by (simp only [List.getElem?_toArray, List.getElem?_cons_succ, List.getElem?_cons_zero]; rfl)) (fun K hK => ?_) AllReadyH.nil
    go_simp
    (go_at_call 56; refine (with_calls w h hs hl gl z _ hL.out _ (HQ.out.sl.ext HB7.out) hgl8).mono ?_; rintro e w8 ⟨v8, rfl, hO8, hb8⟩; have HB8 := Lib.hid (ext_trans HB7.out hb8); have HG8 := Lib.hid (HG7.out.ext hb8); have HR8 := Lib.hid (HR7.out.ext hb8); have HS8 := Lib.hid (DyS.mk hl HB8.out HG8.out))
    try go_wp2_with fail
    refine hK.out _ _ ?r29_hS3 (fun hHeld => ?r29_r3)
    case r29_hS3 => (try dsimp only); first | assumption | exact HS5.out _ rfl rfl rfl rfl | exact HS7.out | exact HS8.out | exact HS9.out
    clear hK K
    try simp only [Act.put, List.setIfInBounds_toArray, List.set_cons_zero, List.set_cons_succ]
    refine wpAnyH_ready (rs := [5]) (by kernel_rfl) (by simp) ?_
    refine AllReadyH.cons (by (simp only [List.getElem?_toArray, List.getElem?_cons_succ, List.getElem?_cons_zero]; rfl)) (fun K hK => ?_) AllReadyH.nil
    (refine step_store_m rfl 36 _ _ rfl (W.heap.size + 1) 0 (gdA w h L v8) rfl rfl _ _ HR8.out (by rw [gdA_size _ _ _ _ hL.out, zG_size]; omega) (by rw [gdA_size _ _ _ _ hL.out]; exact gd_sz _) (gdA_one' _ _ _ hO8) ?_; intro w9 hK9 hG9; rw [gdA_zero _ _ _ hL.out] at hK9; have HB9 := Lib.hid (HB8.out.grown hG9 HB8.out.size (fun j hj => by injection hj with hj; omega)); have HS9 := Lib.hid (DyS.mk hl HB9.out (HG8.out.grownM hG9 (by omega))))
    refine hK.out _ _ ?r29_hS5 (fun hHeld => ?r29_r5)
    case r29_hS5 => (try dsimp only); first | assumption | exact HS5.out _ rfl rfl rfl rfl | exact HS7.out | exact HS8.out | exact HS9.out
    clear hK K
    try simp only [Act.put, List.setIfInBounds_toArray, List.set_cons_zero, List.set_cons_succ]
    refine wpAnyH_take (i := 6) (v := ?r29_vv6) (by (simp only [List.getElem?_toArray, List.getElem?_cons_succ, List.getElem?_cons_zero]; rfl)) (by kernel_rfl) (by kernel_rfl) (by kernel_rfl) (by exact fun _ _ _ h => h) (Or.inl ⟨by rfl, ?r29_hy6⟩) (by assumption) ?r29_rest6
    case r29_hy6 => intro w hSw; (try dsimp only at hSw); (go_simp <;> (with_reducible rfl))
    try simp only [Act.put, List.setIfInBounds_toArray, List.set_cons_zero, List.set_cons_succ]
    refine wpAnyH_take (i := 7) (v := ?r29_vv7) (by (simp only [List.getElem?_toArray, List.getElem?_cons_succ, List.getElem?_cons_zero]; rfl)) (by kernel_rfl) (by kernel_rfl) (by kernel_rfl) (by exact fun _ _ _ h => h) (Or.inl ⟨by rfl, ?r29_hy7⟩) (by assumption) ?r29_rest7
    case r29_hy7 => intro w hSw; (try dsimp only at hSw); (go_simp <;> (with_reducible rfl))
    try simp only [Act.put, List.setIfInBounds_toArray, List.set_cons_zero, List.set_cons_succ]
    refine wpAnyH_done (by kernel_rfl) ?_ _
    have hs3 := Lib.hid (show W.heap.size + 1 < w7.heap.size from HR7.out.lt)
    have HO9 := Lib.hid (hO8.grownM hG9 hs3.out)
    have HK9 := Lib.hid hK9
    go_wp2_with fail
    exact cellret3 Try.results27 rfl rfl rfl (load_gd hL.out HK9.out) rfl ⟨v8, by rw [hE.out]; rfl, by rw [hE.out]; exact HO9.out.more (by have := hs3.out; omega), HB9.out⟩
  · have hE := Lib.hid (show dryG w h hs gl = ⟨⟨0, 0, z81, []⟩, 0, poolG w h hs gl⟩ from if_neg hc)
    have hcb : (poolG w h hs gl == 0) = false := by simpa using hc
    have hcb2 : (poolG w h hs gl != 0) = true := by simpa using hc
    have hzg := Lib.hid zeroG
    generalize poolG w h hs gl = C at *
    clear hc
    go_wp2_with (refine wpList_store_m rfl 36 (.tmp 2) (.tmp 12) rfl _ 0 Try.zeroCells36 rfl rfl _ _ KR1.out (by omega) (by rw [zG_size]; exact gd_sz _) (by rw [hzg.out]; exact gdA_one _ _ _ _ _ _) ?_)
    intro w9 hK9 hG9
    rw [writeAt_all _ _ rfl] at hK9
    have HK9 := Lib.hid (show Bk w9 (W.heap.size + 1) 36 (gdA 0 0 z81 (.slice none 0 0)) from by rw [← hzg.out]; simpa using hK9)
    have HB9 := Lib.hid (HB1.out.grown hG9 HB1.out.size (fun j hj => by injection hj with hj; omega))
    clear hK9 hG9
    go_wp2_with fail
    exact cellret3 Try.results27 rfl rfl rfl (load_gd z81_len HK9.out) rfl ⟨.slice none 0 0, by rw [hE.out]; rfl, by rw [hE.out]; exact Own.nil_ _ _ _ _ _, HB9.out⟩
end Go.Proofs.Ytipcmakidifelaa
