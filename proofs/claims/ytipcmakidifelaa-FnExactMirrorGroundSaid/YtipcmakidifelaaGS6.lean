/-
DrySquare, of both. Conditions: numbers are of their kinds; slices can be read.
-/
import Derived.Test.YtipcmakidifelaaGS5
import Derived.Test.YtipcmakidifelaaGL3
set_option linter.unusedVariables false
set_option linter.unusedSimpArgs false
set_option maxRecDepth 100000
namespace Go.Proofs.Ytipcmakidifelaa
open Go.RowKit
theorem Bk.at_ {w w' : World} {g : Nat} {T : TypeId} {cs : Array Value} (h : Bk w g T cs) (he : w'.heap = w.heap) : Bk w' g T cs := by unfold Bk at *; rw [he]; exact h
theorem list81 (L : List Int) (hl : L.length = 81) : L = (List.range 81).map (fun i => L.getD i 0) := by
  apply List.ext_getElem?
  intro i
  by_cases hi : i < 81
  · rw [List.getElem?_eq_getElem (by omega)]
    simp [hi, List.getD_eq_getElem?_getD, List.getElem?_eq_getElem (show i < L.length by omega)]
  · rw [List.getElem?_eq_none (by omega), List.getElem?_eq_none (by simp; omega)]
theorem buildG_f (w h : Int) (f : Nat → Int) (A : Option Addr) (n cap : Nat) (W : World) : (Instr.build 36 #[(0, .int .i8 w), (1, .int .i8 h), (2, .agg (hA ((List.range 81).map f))), (3, .slice A n cap)]).run Try.prog W = .ok (.agg (gdA w h ((List.range 81).map f) (.slice A n cap))) W := by kernel_rfl
theorem buildG (w h : Int) (L : List Int) (hl : L.length = 81) (A : Option Addr) (n cap : Nat) (W : World) : (Instr.build 36 #[(0, .int .i8 w), (1, .int .i8 h), (2, .agg (hA L)), (3, .slice A n cap)]).run Try.prog W = .ok (.agg (gdA w h L (.slice A n cap))) W := by
  rw [list81 L hl]
  exact buildG_f w h _ A n cap W
theorem exec_build {P : Program} {o : Oper} {a : Act} {W : World} {ty : TypeId} {parts : Array (Nat × Operand)} {ps : Array (Nat × Value)} {v : Value} (ho : o.op = .build ty parts) (h : (Instr.build ty ps).run P W = .ok v W) (hx : (parts.map fun (i, x) => (i, a.eval x)) = ps) :
    (execOp a.eval o).run P W = .ok (.value v) W := by
  unfold execOp
  simp only [ho, hx, Sem.run_bind, Sem.run_pure, Result.andThen_ok, h]
theorem step_store_m {ops : Array Oper} {op : Oper} {a : Act} {K' : Act → World → Prop} {Q : Exit → Act → World → Prop} {E' : Prop} {w : World} (hgd : op.guard = none) (ty : TypeId) (x y : Operand) (ho : op.op = .store ty x y)
    (g o : Nat) (us : Array Value) (hx : a.eval x = .pointer (some ⟨g, o, none⟩)) (hy : a.eval y = .agg us) (T : TypeId) (cs : Array Value) (hc : Bk w g T cs) (hle : o + us.size ≤ cs.size)
    (hsz : (sizeOf ty).run Try.prog w = .ok us.size w) (h1 : us.all (·.oneCell') = true)
    (h : ∀ w', Bk w' g T (writeAt cs.toList o us.toList).toArray → w.grownBy w' (some g) → K' (a.put op.dst undef) w') : if Region.wanted op (yielded ops a.tmps) = true then Oper.wp Try.prog op a w K' Q else E' := by
  have hw : Region.wanted op (yielded ops a.tmps) = true := by simp [Region.wanted, hgd]
  rw [if_pos hw]
  have hst := run_storeCells_cells (P := Try.prog) g o us.toList 0 w (fun j hj => by
    have hj' : o + j < cs.size := by simp at hj; omega
    rw [Nat.add_zero, hc.cell (o + j) cs[o + j] (by simp [hj'])]
    rfl) (fun j _ => hc.frz _) (fun v hv => by
    have := Array.all_eq_true_iff_forall_mem.1 h1 v (by simpa using hv)
    exact this)
  simp only [Nat.add_zero] at hst
  have hvc : (Value.agg us).cells = us := rfl
  unfold Oper.wp execOp
  simp only [ho, hx, hy, Instr.storeAt, Instr.sureAddr, storeVar, hvc, Sem.run_bind, Sem.run_pure, Result.andThen_ok, hsz, ne_eq, not_true_eq_false, if_false, hst]
  obtain ⟨h2, h3⟩ := Bk.put us.toList w cs o hc
  rw [setCells_putC]
  exact h _ h2 h3
theorem cellret3 {P : Program} {fn : Func} {t s r : Nat} {R : Ending → World → Prop} {a : Act} {W : World} {T : TypeId} (hr : fn.results = #[.cell t T, .tmp s, .tmp r]) {p : Nat} (hp : a.tmps.getD t undef = .pointer (some ⟨p, 0, none⟩)) {v u : Value} (hs : a.tmps.getD s undef = v) (hu : a.tmps.getD r undef = u) {cs : Array Value}
    (hld : (loadVar T ⟨p, 0, none⟩).run P W = .ok (.agg cs) W) (hd : a.defers = []) (hR : R (.returned (.tuple #[.agg cs, v, u])) W) : bodyPost P fn R .ret a W := by
  refine bodyPost_ret (v := .tuple #[.agg cs, v, u]) ?_ hd hR
  have hp2 : a.tmps[t]?.getD undef = .pointer (some ⟨p, 0, none⟩) := by simpa using hp
  have hs2 : a.tmps[s]?.getD undef = v := by simpa using hs
  have hu2 : a.tmps[r]?.getD undef = u := by simpa using hu
  simp [results, hr, hp2, hs2, hu2, hld, asAddr, Sem.run_bind, Result.andThen]
theorem gdA_one' {w' : World} {B : Nat} {xs : List Cell} {v : Value} (w h : Int) (hs : List Int) (hO : Own w' B 38 Cell.c 2 v xs) : (gdA w h hs v).all (·.oneCell') = true := by
  obtain ⟨A, cap, rfl, -, -, -⟩ := (hO.sl Cell.c_len).cell
  exact gdA_one _ _ _ _ _ _
abbrev WiS (W0 : World) (g gt : Nat) (w h : Int) (L : List Int) (z : Value) (w' : World) : Prop :=
  Below W0.heap.size W0 w' ∧ w'.cell? ⟨g, 0, none⟩ = some (.int .i8 w) ∧ w'.cell? ⟨g, 1, none⟩ = some (.int .i8 h) ∧ w'.cell? ⟨g, 83, none⟩ = some z ∧ (loadVar 25 ⟨gt, 0, none⟩).run Try.prog w' = .ok (.agg (hA L)) w'
theorem WiS.mk {W0 w' : World} {g gt : Nat} {w h : Int} {L hs : List Int} {z : Value} {T T2 : TypeId} (hl : hs.length = 81) (hb : Below W0.heap.size W0 w') (hg : Bk w' g T (gdA w h hs z)) (hL : L.length = 81) (ht : Bk w' gt T2 (hA L)) : WiS W0 g gt w h L z w' :=
  ⟨hb, hg.cell 0 _ (gdA_0 _ _ _ _), hg.cell 1 _ (gdA_1 _ _ _ _), hg.cell 83 _ (gdA_z _ _ _ _ hl), load_a81 hL ht⟩
set_option maxHeartbeats 1000000 in
theorem with_calls (w h : Int) (hs : List Int) (hl : hs.length = 81) (gl : List Cell) (z : Value) (L : List Int) (hL' : L.length = 81) (W : World) (hz : Sl W W.heap.size Cell.c 2 z gl) (hgl : gl.length ≤ 1000000) :
    Calls Try.prog 56 #[.agg (gdA w h hs z), .agg (hA L)] W fun e w' => ∃ v, e = .returned (.agg (gdA w h L v)) ∧ Own w' W.heap.size 38 Cell.c 2 v gl ∧ Below W.heap.size W w' := by
  obtain ⟨A, cap, rfl, -, -, -⟩ := hz.cell
  have HZ := Lib.hid hz
  have hL := Lib.hid hL'
  have KG := Lib.hid (((Bk.new W 36 (gdA w h hs (.slice A gl.length cap)) W.heap.size rfl).alloc (.cells (hA L) 25)).alloc (.cells Try.zeroCells36 36))
  have KT := Lib.hid ((Bk.new (W.alloc (.cells (gdA w h hs (.slice A gl.length cap)) 36)) 25 (hA L) (W.heap.size + 1) (by simp)).alloc (.cells Try.zeroCells36 36))
  have KR := Lib.hid (Bk.new ((W.alloc (.cells (gdA w h hs (.slice A gl.length cap)) 36)).alloc (.cells (hA L) 25)) 36 Try.zeroCells36 (W.heap.size + 1 + 1) (by simp))
  have HB := Lib.hid (ext_alloc (ext_alloc ((Below.refl W.heap.size W).alloc (Nat.le_refl _) (.cells (gdA w h hs (.slice A gl.length cap)) 36)) (.cells (hA L) 25)) (.cells Try.zeroCells36 36))
  clear hz hL'
  go_enter Try.func56, Try.ntmps56
  go_wp2_with fail
  generalize ((W.alloc (.cells (gdA w h hs (.slice A gl.length cap)) 36)).alloc (.cells (hA L) 25)).alloc (.cells Try.zeroCells36 36) = W1 at *
  have HS5 := Lib.hid (fun (w' : World) (he : w'.heap = W1.heap) (h1 : w'.os = W1.os) (h2 : w'.tape = W1.tape) (h3 : w'.output = W1.output) => WiS.mk hl (below_at HB.out he h1 h2 h3) (KG.out.at_ he) hL.out (KT.out.at_ he))
  refine wp_region_held_drew (S := (WiS W W.heap.size (W.heap.size + 1) w h L (.slice A gl.length cap))) (by kernel_rfl) ?r28_hS0 (fun hHeld => ?r28_rest)
  case r28_hS0 => (try dsimp only); first | assumption | exact HS5.out _ rfl rfl rfl rfl | exact HS8.out | exact HS9.out
  refine wpAnyH_take (i := 0) (v := ?r28_vv0) (by (simp only [List.getElem?_toArray, List.getElem?_cons_succ, List.getElem?_cons_zero]; rfl)) (by kernel_rfl) (by kernel_rfl) (by kernel_rfl) (by exact fun _ _ _ h => h) (Or.inl ⟨by rfl, ?r28_hy0⟩) (by assumption) ?r28_rest0
  case r28_hy0 => intro w hSw; (try dsimp only at hSw); (go_simp <;> (with_reducible rfl))
  try simp only [Act.put, List.setIfInBounds_toArray, List.set_cons_zero, List.set_cons_succ]
  refine wpAnyH_take (i := 1) (v := ?r28_vv1) (by (simp only [List.getElem?_toArray, List.getElem?_cons_succ, List.getElem?_cons_zero]; rfl)) (by kernel_rfl) (by kernel_rfl) (by kernel_rfl) (by exact fun _ _ _ h => h) (Or.inl ⟨by rfl, ?r28_hy1⟩) (by assumption) ?r28_rest1
  case r28_hy1 => intro w hSw; (try dsimp only at hSw); (go_simp <;> (with_reducible rfl))
  try simp only [Act.put, List.setIfInBounds_toArray, List.set_cons_zero, List.set_cons_succ]
  refine wpAnyH_take (i := 2) (v := ?r28_vv2) (by (simp only [List.getElem?_toArray, List.getElem?_cons_succ, List.getElem?_cons_zero]; rfl)) (by kernel_rfl) (by kernel_rfl) (by kernel_rfl) (by exact fun _ _ _ h => h) (Or.inl ⟨by rfl, ?r28_hy2⟩) (by assumption) ?r28_rest2
  case r28_hy2 => intro w hSw; (try dsimp only at hSw); (go_simp <;> (with_reducible rfl))
  try simp only [Act.put, List.setIfInBounds_toArray, List.set_cons_zero, List.set_cons_succ]
  refine wpAnyH_take (i := 3) (v := ?r28_vv3) (by (simp only [List.getElem?_toArray, List.getElem?_cons_succ, List.getElem?_cons_zero]; rfl)) (by kernel_rfl) (by kernel_rfl) (by kernel_rfl) (by exact fun _ _ _ h => h) (Or.inl ⟨by rfl, ?r28_hy3⟩) (by assumption) ?r28_rest3
  case r28_hy3 => intro w hSw; (try dsimp only at hSw); (go_simp <;> (with_reducible rfl))
  try simp only [Act.put, List.setIfInBounds_toArray, List.set_cons_zero, List.set_cons_succ]
  refine wpAnyH_take (i := 4) (v := ?r28_vv4) (by (simp only [List.getElem?_toArray, List.getElem?_cons_succ, List.getElem?_cons_zero]; rfl)) (by kernel_rfl) (by kernel_rfl) (by kernel_rfl) (by exact fun _ _ _ h => h) (Or.inl ⟨by rfl, ?r28_hy4⟩) (by assumption) ?r28_rest4
  case r28_hy4 => intro w hSw; (try dsimp only at hSw); refine (exec_load rfl rfl hSw.2.2.2.2).trans ?_; with_reducible rfl
  try simp only [Act.put, List.setIfInBounds_toArray, List.set_cons_zero, List.set_cons_succ]
  refine wpAnyH_take (i := 5) (v := ?r28_vv5) (by (simp only [List.getElem?_toArray, List.getElem?_cons_succ, List.getElem?_cons_zero]; rfl)) (by kernel_rfl) (by kernel_rfl) (by kernel_rfl) (by exact fun _ _ _ h => h) (Or.inl ⟨by rfl, ?r28_hy5⟩) (by assumption) ?r28_rest5
  case r28_hy5 => intro w hSw; (try dsimp only at hSw); (go_simp <;> (with_reducible rfl))
  try simp only [Act.put, List.setIfInBounds_toArray, List.set_cons_zero, List.set_cons_succ]
  refine wpAnyH_take (i := 6) (v := ?r28_vv6) (by (simp only [List.getElem?_toArray, List.getElem?_cons_succ, List.getElem?_cons_zero]; rfl)) (by kernel_rfl) (by kernel_rfl) (by kernel_rfl) (by exact fun _ _ _ h => h) (Or.inl ⟨by rfl, ?r28_hy6⟩) (by assumption) ?r28_rest6
  case r28_hy6 => intro w hSw; (try dsimp only at hSw); (go_simp <;> (with_reducible rfl))
  try simp only [Act.put, List.setIfInBounds_toArray, List.set_cons_zero, List.set_cons_succ]
  refine wpAnyH_ready (rs := [7]) (by kernel_rfl) (by simp) ?_
  refine AllReadyH.cons (by (simp only [List.getElem?_toArray, List.getElem?_cons_succ, List.getElem?_cons_zero]; rfl)) (fun K hK => ?_) AllReadyH.nil
  go_simp
  (go_at_call 78; refine (cloneCell_calls gl _ _ (HZ.out.ext (by first | exact HB.out | exact HB.out.drew)) (by omega)).mono ?_; rintro e w8 ⟨v8, rfl, hO8, hb8⟩; obtain ⟨A8, cap8, rfl, -, -, -⟩ := (hO8.sl Cell.c_len).cell; have hbuild := fun W' => buildG w h L hL.out A8 gl.length cap8 W'; have HK8 := Lib.hid (Bk.ext_at hb8 KR.out rfl); have HG8 := Lib.hid (Bk.ext_at hb8 KG.out rfl); have HT8 := Lib.hid (Bk.ext_at hb8 KT.out rfl); have HB8 := Lib.hid (ext_at hb8 HB.out rfl rfl rfl rfl); have HS8 := Lib.hid (WiS.mk hl HB8.out HG8.out hL.out HT8.out))
  try go_wp2_with fail
  refine hK.out _ _ ?r28_hS7 (fun hHeld => ?r28_r7)
  case r28_hS7 => (try dsimp only); first | assumption | exact HS5.out _ rfl rfl rfl rfl | exact HS8.out | exact HS9.out
  clear hK K
  try simp only [Act.put, List.setIfInBounds_toArray, List.set_cons_zero, List.set_cons_succ]
  refine wpAnyH_take (i := 8) (v := ?r28_vv8) (by (simp only [List.getElem?_toArray, List.getElem?_cons_succ, List.getElem?_cons_zero]; rfl)) (by kernel_rfl) (by kernel_rfl) (by kernel_rfl) (by exact fun _ _ _ h => h) (Or.inl ⟨by rfl, ?r28_hy8⟩) (by assumption) ?r28_rest8
  case r28_hy8 => intro w hSw; (try dsimp only at hSw); refine (exec_build rfl (hbuild _) (by simp only [List.map_toArray, List.map_cons, List.map_nil]; rfl)).trans ?_; with_reducible rfl
  try simp only [Act.put, List.setIfInBounds_toArray, List.set_cons_zero, List.set_cons_succ]
  refine wpAnyH_ready (rs := [9]) (by kernel_rfl) (by simp) ?_
  refine AllReadyH.cons (by (simp only [List.getElem?_toArray, List.getElem?_cons_succ, List.getElem?_cons_zero]; rfl)) (fun K hK => ?_) AllReadyH.nil
  (refine step_store_m rfl 36 _ _ rfl (W.heap.size + 1 + 1) 0 (gdA w h L (.slice A8 gl.length cap8)) rfl rfl _ _ HK8.out (by rw [gdA_size _ _ _ _ hL.out, zG_size]; omega) (by rw [gdA_size _ _ _ _ hL.out]; exact gd_sz _) (gdA_one _ _ _ _ _ _) ?_; intro w9 hK9 hG9; rw [gdA_zero _ _ _ hL.out] at hK9; have HB9 := Lib.hid (HB8.out.grown hG9 HB8.out.size (fun j hj => by injection hj with hj; omega)); have HS9 := Lib.hid (WiS.mk hl HB9.out (HG8.out.grownM hG9 (by omega)) hL.out (HT8.out.grownM hG9 (by omega))))
  refine hK.out _ _ ?r28_hS9 (fun hHeld => ?r28_r9)
  case r28_hS9 => (try dsimp only); first | assumption | exact HS5.out _ rfl rfl rfl rfl | exact HS8.out | exact HS9.out
  clear hK K
  try simp only [Act.put, List.setIfInBounds_toArray, List.set_cons_zero, List.set_cons_succ]
  refine wpAnyH_done (by kernel_rfl) ?_ _
  have hs3 := Lib.hid (show W.heap.size + 1 + 1 < W1.heap.size from KR.out.lt)
  have HO9 := Lib.hid (hO8.grownM hG9 hs3.out)
  have HK9 := Lib.hid hK9
  go_wp2_with fail
  exact cellret Try.results56 rfl (load_gd hL.out HK9.out) rfl ⟨_, rfl, HO9.out.more (show W.heap.size ≤ W1.heap.size from by have := hs3.out; omega), HB9.out⟩
end Go.Proofs.Ytipcmakidifelaa
