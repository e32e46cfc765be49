/-
Grounds in memory, and the smallest functions on them. Conditions: numbers are of their kinds.
-/
import Derived.Test.YthlcmiediedcfaaDoorGrL
import Derived.Test.YthlcmiediedcfaaDoorGen
import Derived.Test.YthlcmiediedcfaaDoorMark2
import Derived.Deep.WholeRow
set_option linter.unusedVariables false
set_option linter.unusedSimpArgs false
set_option maxRecDepth 100000
namespace Go.Proofs.YthlcmiediedcfaaDoor
open Go.RowKit
/-- The 84 cells of a ground. -/
def gdA (w h : Int) (hs : List Int) (z : Value) : Array Value := (Value.int .i8 w :: Value.int .i8 h :: (hs.map (Value.int .i16) ++ [z])).toArray
def gdv (w h : Int) (hs : List Int) (z : Value) : Value := .agg (gdA w h hs z)
theorem gdA_size (w h : Int) (hs : List Int) (z : Value) (hl : hs.length = 81) : (gdA w h hs z).size = 84 := by simp [gdA, hl]
theorem gdA_0 (w h : Int) (hs : List Int) (z : Value) : (gdA w h hs z)[0]? = some (.int .i8 w) := by simp [gdA]
theorem gdA_1 (w h : Int) (hs : List Int) (z : Value) : (gdA w h hs z)[1]? = some (.int .i8 h) := by simp [gdA]
theorem gdA_h (w h : Int) (hs : List Int) (z : Value) (hl : hs.length = 81) (i : Nat) (hi : i < 81) : (gdA w h hs z)[2 + i]? = some (.int .i16 (hs.getD i 0)) := by
  have : 2 + i = i + 1 + 1 := by omega
  rw [this]
  simp [gdA, List.getElem?_append, hl, hi]
theorem gdA_z (w h : Int) (hs : List Int) (z : Value) (hl : hs.length = 81) : (gdA w h hs z)[83]? = some z := by
  simp [gdA, List.getElem?_append, hl]
theorem gdA_one (w h : Int) (hs : List Int) (A : Option Addr) (n c : Nat) : (gdA w h hs (.slice A n c)).all (·.oneCell') = true := by
  unfold gdA
  refine all_oneCell_toArray fun v hv => ?_
  simp only [List.mem_cons, List.mem_append, List.mem_map, List.not_mem_nil, or_false] at hv
  rcases hv with rfl | rfl | ⟨n, _, rfl⟩ | rfl <;> rfl
/-- A whole value out of memory, whatever its type. -/
theorem run_loadVar_any {P : Program} {W : World} {T T' : TypeId} {g : Nat} {cs : Array Value} (hb : Bk W g T' cs) (hagg : (isAgg T).run P W = .ok true W) (hsz : (sizeOf T).run P W = .ok cs.size W) :
    (loadVar T ⟨g, 0, none⟩).run P W = .ok (.agg cs) W := by
  have := run_loadCells_list (P := P) W ⟨g, 0, none⟩ cs.toList (fun j v hv => by
    have hadd : (⟨g, 0, none⟩ : Addr).add j = ⟨g, j, none⟩ := by unfold Addr.add; split <;> simp_all
    rw [hadd]
    exact hb.cell j v (by simpa using hv))
  simp only [loadVar, Sem.run_bind, hagg, Result.andThen, if_true, hsz]
  rw [show cs.size = cs.toList.length by simp, this]
  simp
theorem exec_load {P : Program} {o : Oper} {a : Act} {W : World} {ty : TypeId} {x : Operand} {p : Addr} {v : Value} (ho : o.op = .load ty x) (hx : a.eval x = .pointer (some p)) (h : (loadVar ty p).run P W = .ok v W) :
    (execOp a.eval o).run P W = .ok (.value v) W := by
  unfold execOp
  simp only [ho, hx, Instr.loadAt, Instr.sureAddr, Sem.run_bind, Sem.run_pure, Result.andThen_ok, h]
theorem kp0 (W : World) : Below W.heap.size W W.drew := (Below.refl _ _).drew
theorem kp1 {B : Nat} {W W' : World} (h : Below B W W') : Below B W W'.drew := h.drew
theorem wpList_load_w {P : Program} {ops : Array Oper} {rest : List Oper} {o : Oper} {a : Act} {w : World} {Q : Exit → Act → World → Prop} (hgd : o.guard = none) (ty : TypeId) (x : Operand) (ho : o.op = .load ty x)
    (p : Addr) (hx : a.eval x = .pointer (some p)) (v : Value) (h : (loadVar ty p).run P w = .ok v w) (hK : wpList P ops Q rest (a.put o.dst v) w) : wpList P ops Q (o :: rest) a w := by
  refine wpList_plain hgd fun K' hK' => ?_
  unfold Oper.wp execOp
  simp only [ho, hx, Instr.loadAt, Instr.sureAddr, Sem.run_bind, Sem.run_pure, Result.andThen_ok, h]
  exact hK' _ _ hK
theorem gd_agg (W : World) : (isAgg 54).run Tryd.prog W = .ok true W := by kernel_rfl
theorem gd_sz (W : World) : (sizeOf 54).run Tryd.prog W = .ok 84 W := by kernel_rfl
theorem wrapIn (x : Int) (h0 : -9223372036854775808 ≤ x) (h1 : x ≤ 9223372036854775807) : IntKind.i64.wrap x = x := by rw [IntKind.wrap_i64]; omega
theorem wrap8In (x : Int) (h0 : -128 ≤ x) (h1 : x ≤ 127) : IntKind.i8.wrap x = x := by simp [IntKind.wrap, IntKind.signed, IntKind.bits]; omega
theorem load_gd {W : World} {T' : TypeId} {g : Nat} {w h : Int} {hs : List Int} {z : Value} (hl : hs.length = 81) (hb : Bk W g T' (gdA w h hs z)) : (loadVar 54 ⟨g, 0, none⟩).run Tryd.prog W = .ok (.agg (gdA w h hs z)) W :=
  run_loadVar_any hb (gd_agg W) (by rw [gdA_size _ _ _ _ hl]; exact gd_sz W)
theorem loadAt_gd {W : World} {T' : TypeId} {g : Nat} {w h : Int} {hs : List Int} {z : Value} (hl : hs.length = 81) (hb : Bk W g T' (gdA w h hs z)) : (Instr.loadAt 54 (.pointer (some ⟨g, 0, none⟩))).run Tryd.prog W = .ok (.agg (gdA w h hs z)) W := by
  simp only [Instr.loadAt, Instr.sureAddr, Sem.run_bind, Sem.run_pure, Result.andThen]
  exact load_gd hl hb
theorem frame_calls (w h : Int) (hs : List Int) (hl : hs.length = 81) (z : Value) (W : World) :
    Calls Tryd.prog 120 #[.agg (gdA w h hs z)] W fun e w' => e = .returned (.agg #[.int .i8 w, .int .i8 h, .slice none 0 0]) ∧ Below W.heap.size W w' := by
  have HB := Lib.hid ((Below.refl W.heap.size W).alloc (Nat.le_refl _) (.cells (gdA w h hs z) 54))
  have K := Lib.hid (Bk.new W 54 (gdA w h hs z) W.heap.size rfl)
  have g0 := gdA_0 w h hs z
  have g1 := gdA_1 w h hs z
  go_enter Tryd.func120, Tryd.ntmps120
  go_wp2_with fail
  exact bodyPost_ret (v := .agg #[.int .i8 w, .int .i8 h, .slice none 0 0]) (by simp [results, Tryd.results120, go_sem]) rfl ⟨rfl, HB.out.alloc HB.out.size _⟩
theorem isCell_calls (w h : Int) (w0 : -128 ≤ w) (w1 : w ≤ 127) (h0 : -128 ≤ h) (h1 : h ≤ 127) (A : Option Addr) (n c : Nat) (p : Cell) (hp : p.ok) (W : World) :
    Calls Tryd.prog 121 #[.agg #[.int .i8 w, .int .i8 h, .slice A n c], p.v] W fun e w' => e = .returned (.bool (gpB w h p)) ∧ Below W.heap.size W w' := by
  have HB := Lib.hid (ext_alloc ((Below.refl W.heap.size W).alloc (Nat.le_refl _) (.cells #[.int .i8 w, .int .i8 h, .slice A n c] 38)) (.cells #[.int .i8 p.x, .int .i8 p.y] 98))
  obtain ⟨x0, x1, y0, y1⟩ := hp
  have v0 : IntKind.i64.wrap p.x = p.x := wrapIn _ (by omega) (by omega)
  have v1 : IntKind.i64.wrap p.y = p.y := wrapIn _ (by omega) (by omega)
  have v2 : IntKind.i64.wrap w = w := wrapIn _ (by omega) (by omega)
  have v3 : IntKind.i64.wrap h = h := wrapIn _ (by omega) (by omega)
  have v4 : IntKind.i64.wrap (w - 1) = w - 1 := wrapIn _ (by omega) (by omega)
  have v5 : IntKind.i64.wrap (h - 1) = h - 1 := wrapIn _ (by omega) (by omega)
  have hR := Lib.hid (show gpB w h p = (inB p.x 0 (w - 1) && inB p.y 0 (h - 1)) from by
    rw [Bool.eq_iff_iff, Bool.and_eq_true, inB_true, inB_true, gpB_true]
    omega)
  have qx := Lib.hid (fun W => within_calls p.x 0 (w - 1) W)
  have qy := Lib.hid (fun W => within_calls p.y 0 (h - 1) W)
  unfold Cell.v
  cases hx : inB p.x 0 (w - 1)
  · rw [hx] at hR qx
    clear hx
    go_enter Tryd.func121, Tryd.ntmps121
    go_wp2_with fail
    refine (qx.out _).mono ?_
    rintro e w1 ⟨rfl, rfl⟩
    go_wp2_with fail
    go_ret
    exact ⟨ret_bool hR.out.symm, HB.out⟩
  · rw [hx] at hR qx
    clear hx
    generalize inB p.y 0 (h - 1) = q at *
    go_enter Tryd.func121, Tryd.ntmps121
    go_wp2_with fail
    refine (qx.out _).mono ?_
    rintro e w1 ⟨rfl, rfl⟩
    go_wp2_with fail
    refine (qy.out _).mono ?_
    rintro e w1 ⟨rfl, rfl⟩
    go_wp2_with fail
    go_ret
    exact ⟨ret_bool (by rw [hR.out]; simp), HB.out⟩
/-- What a region finds: a ground whole in block b, a cell in block c. -/
abbrev GdS (W0 : World) (b c : Nat) (w h : Int) (hs : List Int) (z : Value) (p : Cell) (w' : World) : Prop :=
  Below W0.heap.size W0 w' ∧ (loadVar 54 ⟨b, 0, none⟩).run Tryd.prog w' = .ok (.agg (gdA w h hs z)) w' ∧ w'.cell? ⟨c, 0, none⟩ = some (.int .i8 p.x) ∧ w'.cell? ⟨c, 1, none⟩ = some (.int .i8 p.y)
theorem GdS.first {W0 : World} {b c : Nat} {w h : Int} {hs : List Int} {z : Value} {p : Cell} {T T' : TypeId} (hl : hs.length = 81) (hb : Bk W0 b T (gdA w h hs z)) (hc : Bk W0 c T' #[.int .i8 p.x, .int .i8 p.y]) (w' : World) (k : Below W0.heap.size W0 w') : GdS W0 b c w h hs z p w' :=
  ⟨k, load_gd hl (hb.ext k), (hc.ext k).cell 0 _ rfl, (hc.ext k).cell 1 _ rfl⟩
theorem isPoint_calls (w h : Int) (w0 : -128 ≤ w) (w1 : w ≤ 127) (h0 : -128 ≤ h) (h1 : h ≤ 127) (hs : List Int) (hl : hs.length = 81) (z : Value) (p : Cell) (hp : p.ok) (W : World) :
    Calls Tryd.prog 96 #[.agg (gdA w h hs z), p.v] W fun e w' => e = .returned (.bool (gpB w h p)) ∧ Below W.heap.size W w' := by
  have HB := Lib.hid (ext_alloc ((Below.refl W.heap.size W).alloc (Nat.le_refl _) (.cells (gdA w h hs z) 54)) (.cells #[.int .i8 p.x, .int .i8 p.y] 98))
  have K := Lib.hid ((Bk.new W 54 (gdA w h hs z) W.heap.size rfl).alloc (.cells #[.int .i8 p.x, .int .i8 p.y] 98))
  have KP := Lib.hid (Bk.new (W.alloc (.cells (gdA w h hs z) 54)) 98 #[.int .i8 p.x, .int .i8 p.y] (W.heap.size + 1) (by simp))
  have qf := Lib.hid (fun W' => frame_calls w h hs hl z W')
  have qc := Lib.hid (fun W' => isCell_calls w h w0 w1 h0 h1 none 0 0 p hp W')
  unfold Cell.v at *
  go_enter Tryd.func96, Tryd.ntmps96
  go_wp2_with fail
  generalize (W.alloc (.cells (gdA w h hs z) 54)).alloc (.cells #[.int .i8 p.x, .int .i8 p.y] 98) = W1 at *
  have HS := Lib.hid (GdS.first hl K.out KP.out)
  refine wp_region_held_drew (S := (GdS W1 W.heap.size (W.heap.size + 1) w h hs z p)) (by kernel_rfl) ?r1_hS0 (fun hHeld => ?r1_rest)
  case r1_hS0 => (try dsimp only); first | assumption | exact HS.out _ (kp0 _) | exact HS.out _ (Below.refl _ _) | exact HS.out _ (kp1 (And.left (b := _) (by assumption))) | exact HS.out _ (ext_trans (And.left (b := _) (by assumption)) (by assumption))
  refine wpAnyH_take (i := 0) (v := ?r1_vv0) (by (simp only [List.getElem?_toArray, List.getElem?_cons_succ, List.getElem?_cons_zero]; rfl)) (by kernel_rfl) (by kernel_rfl) (by kernel_rfl) (by exact fun _ _ _ h => h) (Or.inl ⟨by rfl, ?r1_hy0⟩) (by assumption) ?r1_rest0
  case r1_hy0 => intro w hSw; (try dsimp only at hSw); refine (exec_load rfl rfl hSw.2.1).trans ?_; with_reducible rfl
  try simp only [Act.put, List.setIfInBounds_toArray, List.set_cons_zero, List.set_cons_succ]
  refine wpAnyH_take (i := 2) (v := ?r1_vv2) (by (simp only [List.getElem?_toArray, List.getElem?_cons_succ, List.getElem?_cons_zero]; rfl)) (by kernel_rfl) (by kernel_rfl) (by kernel_rfl) (by exact fun _ _ _ h => h) (Or.inl ⟨by rfl, ?r1_hy2⟩) (by assumption) ?r1_rest2
  case r1_hy2 => intro w hSw; (try dsimp only at hSw); (go_simp <;> (with_reducible rfl))
  try simp only [Act.put, List.setIfInBounds_toArray, List.set_cons_zero, List.set_cons_succ]
  refine wpAnyH_ready (rs := [1]) (by kernel_rfl) (by simp) ?_
  refine AllReadyH.cons (by (simp only [List.getElem?_toArray, List.getElem?_cons_succ, List.getElem?_cons_zero]; rfl)) (fun K hK => ?_) AllReadyH.nil
  go_simp
  (go_at_call 120; with_reducible refine (qf.out _).mono ?_; rintro e w8 ⟨rfl, hb8⟩)
  try go_wp2_with fail
  refine hK.out _ _ ?r1_hS1 (fun hHeld => ?r1_r1)
  case r1_hS1 => (try dsimp only); first | assumption | exact HS.out _ (kp0 _) | exact HS.out _ (Below.refl _ _) | exact HS.out _ (kp1 (And.left (b := _) (by assumption))) | exact HS.out _ (ext_trans (And.left (b := _) (by assumption)) (by assumption))
  clear hK K
  try simp only [Act.put, List.setIfInBounds_toArray, List.set_cons_zero, List.set_cons_succ]
  refine wpAnyH_ready (rs := [3]) (by kernel_rfl) (by simp) ?_
  refine AllReadyH.cons (by (simp only [List.getElem?_toArray, List.getElem?_cons_succ, List.getElem?_cons_zero]; rfl)) (fun K hK => ?_) AllReadyH.nil
  go_simp
  (go_at_call 121; with_reducible refine (qc.out _).mono ?_; rintro e w9 ⟨rfl, hb9⟩)
  try go_wp2_with fail
  refine hK.out _ _ ?r1_hS3 (fun hHeld => ?r1_r3)
  case r1_hS3 => (try dsimp only); first | assumption | exact HS.out _ (kp0 _) | exact HS.out _ (Below.refl _ _) | exact HS.out _ (kp1 (And.left (b := _) (by assumption))) | exact HS.out _ (ext_trans (And.left (b := _) (by assumption)) (by assumption))
  clear hK K
  try simp only [Act.put, List.setIfInBounds_toArray, List.set_cons_zero, List.set_cons_succ]
  refine wpAnyH_take (i := 4) (v := ?r1_vv4) (by (simp only [List.getElem?_toArray, List.getElem?_cons_succ, List.getElem?_cons_zero]; rfl)) (by kernel_rfl) (by kernel_rfl) (by kernel_rfl) (by exact fun _ _ _ h => h) (Or.inl ⟨by rfl, ?r1_hy4⟩) (by assumption) ?r1_rest4
  case r1_hy4 => intro w hSw; (try dsimp only at hSw); (go_simp <;> (with_reducible rfl))
  try simp only [Act.put, List.setIfInBounds_toArray, List.set_cons_zero, List.set_cons_succ]
  refine wpAnyH_done (by kernel_rfl) ?_ _
  go_wp2_with fail
  go_ret
  exact ⟨rfl, ext_trans HB.out (And.left (b := _) (by assumption))⟩
end Go.Proofs.YthlcmiediedcfaaDoor
