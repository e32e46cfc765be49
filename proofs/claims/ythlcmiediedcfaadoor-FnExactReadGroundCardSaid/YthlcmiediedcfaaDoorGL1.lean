/-
What the laws do with grounds: they copy and compare them. Conditions: slices can be read.
-/
import Derived.Test.YthlcmiediedcfaaDoorGD12
import Derived.Test.YthlcmiediedcfaaDoorLaw
import Derived.Test.YthlcmiediedcfaaDoorOpn
set_option linter.unusedVariables false
set_option linter.unusedSimpArgs false
set_option maxRecDepth 100000
namespace Go.Proofs.YthlcmiediedcfaaDoor
open Go.RowKit
theorem hA_one (hs : List Int) : (hA hs).all (·.oneCell') = true := by
  unfold hA
  refine all_oneCell_toArray fun v hv => ?_
  obtain ⟨n, _, rfl⟩ := List.mem_map.1 hv
  rfl
theorem hA_at (hs : List Int) (i : Nat) (n : Int) (h : hs[i]? = some n) : (hA hs)[i]? = some (.int .i16 n) := by simp [hA, h]
theorem hA_set (hs : List Int) (i : Nat) (n : Int) : (hA hs).setIfInBounds i (.int .i16 n) = hA (hs.set i n) := by
  apply Array.ext'
  simp [hA, List.map_set]
theorem hA_inj {a b : List Int} (h : hA a = hA b) : a = b := by
  have h1 := congrArg Array.toList h
  simp only [hA] at h1
  have hinj : ∀ (x y : List Int), x.map (Value.int .i16) = y.map (Value.int .i16) → x = y := by
    intro x
    induction x with
    | nil => intro y h; cases y with
      | nil => rfl
      | cons b y => simp at h
    | cons a x ih => intro y h; cases y with
      | nil => simp at h
      | cons b y => simp at h; rw [h.1, ih y (by simpa using h.2)]
  exact hinj a b h1
theorem rowA_hA (hs : List Int) (k : Nat) : rowA hs k = hA ((hs.drop (k * 9)).take 9) := rfl
/-! ### Stores of many cells into a block known whole -/
theorem Bk.put {T : TypeId} {g : Nat} : ∀ (us : List Value) (w : World) (cs : Array Value) (o : Nat), Bk w g T cs → Bk (putCells w g o us) g T (writeAt cs.toList o us).toArray ∧ w.grownBy (putCells w g o us) (some g)
  | [], w, cs, o, h => ⟨by simpa [putCells, writeAt] using h, World.grownBy.refl _ _⟩
  | u :: r, w, cs, o, h => by
    have h1 := h.set o u
    have hg : w.grownBy (w.setCell ⟨g, o, none⟩ u) (some g) := ⟨rfl, rfl, rfl, by simp [World.setCell], fun k hk hne => Below.heap_setCell _ _ _ _ (fun e => hne (by rw [e]))⟩
    obtain ⟨h2, h3⟩ := Bk.put r _ _ (o + 1) h1
    refine ⟨?_, hg.trans h3⟩
    have e : (cs.setIfInBounds o u).toList = cs.toList.set o u := by simp
    rw [e] at h2
    exact h2
theorem writeAt_all (L M : List Value) (h : L.length = M.length) : writeAt L 0 M = M := by
  have := writeAt_mid L M h [] []
  simpa using this
theorem wpList_store_m {P : Program} {ops : Array Oper} {rest : List Oper} {op : Oper} {a : Act} {w : World} {Q : Exit → Act → World → Prop} (hgd : op.guard = none) (ty : TypeId) (x y : Operand) (ho : op.op = .store ty x y)
    (g o : Nat) (us : Array Value) (hx : a.eval x = .pointer (some ⟨g, o, none⟩)) (hy : a.eval y = .agg us) (T : TypeId) (cs : Array Value) (hc : Bk w g T cs) (hle : o + us.size ≤ cs.size)
    (hsz : (sizeOf ty).run P w = .ok us.size w) (h1 : us.all (·.oneCell') = true)
    (h : ∀ w', Bk w' g T (writeAt cs.toList o us.toList).toArray → w.grownBy w' (some g) → wpList P ops Q rest (a.put op.dst undef) w') : wpList P ops Q (op :: rest) a w := by
  refine wpList_plain hgd fun _ hK => ?_
  have hst := run_storeCells_cells (P := P) g o us.toList 0 w (fun j hj => by
    have hj' : o + j < cs.size := by simp at hj; omega
    rw [Nat.add_zero, hc.cell (o + j) cs[o + j] (by simp [hj'])]
    rfl) (fun j _ => hc.frz _) (fun v hv => by
    have := Array.all_eq_true_iff_forall_mem.1 h1 v (by simpa using hv)
    exact this)
  simp only [Nat.add_zero] at hst
  have hvc : (Value.agg us).cells = us := rfl
  unfold Oper.wp execOp
  simp only [ho, hx, hy, Instr.storeAt, Instr.sureAddr, storeVar, hvc, Sem.run_bind, Sem.run_pure, Result.andThen_ok, hsz, ne_eq, not_true_eq_false, if_false, hst]
  obtain ⟨h2, h3⟩ := Bk.put us.toList w cs o hc
  rw [setCells_putC]
  exact hK _ _ (h _ h2 h3)
theorem run_loadVar_off {P : Program} {W : World} {T T' : TypeId} {g o n : Nat} {cs us : Array Value} (hb : Bk W g T' cs) (hus : ∀ j v, us[j]? = some v → cs[o + j]? = some v) (hagg : (isAgg T).run P W = .ok true W) (hsz : (sizeOf T).run P W = .ok us.size W) :
    (loadVar T ⟨g, o, none⟩).run P W = .ok (.agg us) W := by
  have := run_loadCells_list (P := P) W ⟨g, o, none⟩ us.toList (fun j v hv => by
    have hadd : (⟨g, o, none⟩ : Addr).add j = ⟨g, o + j, none⟩ := by unfold Addr.add; split <;> simp_all
    rw [hadd]
    exact hb.cell _ v (hus j v (by simpa using hv)))
  simp only [loadVar, Sem.run_bind, hagg, Result.andThen, if_true, hsz]
  rw [show us.size = us.toList.length by simp, this]
  simp
theorem cellret {P : Program} {fn : Func} {t : Nat} {R : Ending → World → Prop} {a : Act} {W : World} {T : TypeId} (hr : fn.results = #[.cell t T]) {p : Nat} (hp : a.tmps.getD t undef = .pointer (some ⟨p, 0, none⟩)) {cs : Array Value}
    (hld : (loadVar T ⟨p, 0, none⟩).run P W = .ok (.agg cs) W) (hd : a.defers = []) (hR : R (.returned (.agg cs)) W) : bodyPost P fn R .ret a W := by
  refine bodyPost_ret (v := .agg cs) ?_ hd hR
  have hp2 : a.tmps[t]?.getD undef = .pointer (some ⟨p, 0, none⟩) := by simpa using hp
  simp [results, hr, hp2, hld, asAddr, Sem.run_bind, Result.andThen]
theorem a9_agg (W : World) : (isAgg 45).run Tryd.prog W = .ok true W := by kernel_rfl
theorem a9_sz (W : World) : (sizeOf 45).run Tryd.prog W = .ok 9 W := by kernel_rfl
theorem a81_agg (W : World) : (isAgg 46).run Tryd.prog W = .ok true W := by kernel_rfl
theorem a81_sz (W : World) : (sizeOf 46).run Tryd.prog W = .ok 81 W := by kernel_rfl
theorem load_a9 {W : World} {g : Nat} {T : TypeId} {xs : List Int} (hl : xs.length = 9) (hb : Bk W g T (hA xs)) : (loadVar 45 ⟨g, 0, none⟩).run Tryd.prog W = .ok (.agg (hA xs)) W :=
  run_loadVar_any hb (a9_agg W) (by rw [hA_size, hl]; exact a9_sz W)
theorem load_a81 {W : World} {g : Nat} {T : TypeId} {xs : List Int} (hl : xs.length = 81) (hb : Bk W g T (hA xs)) : (loadVar 46 ⟨g, 0, none⟩).run Tryd.prog W = .ok (.agg (hA xs)) W :=
  run_loadVar_any hb (a81_agg W) (by rw [hA_size, hl]; exact a81_sz W)
theorem load_rowOf {W : World} {g : Nat} {T : TypeId} {hs : List Int} (hl : hs.length = 81) (k : Nat) (hk : k < 9) (hb : Bk W g T (hA hs)) : (loadVar 45 ⟨g, k * 9, none⟩).run Tryd.prog W = .ok (.agg (rowA hs k)) W := by
  refine run_loadVar_off hb (fun j v hv => ?_) (a9_agg W) (by rw [rowA_size hs hl k hk]; exact a9_sz W) (n := 0)
  have hj : j < 9 := by
    have := (Array.getElem?_eq_some_iff.1 hv).1
    rwa [rowA_size hs hl k hk] at this
  rw [rowA_at hs hl k j hk hj] at hv
  have hx : hs[k * 9 + j]? = some (hs[k * 9 + j]'(by omega)) := List.getElem?_eq_getElem _
  rw [List.getD_eq_getElem?_getD, hx] at hv
  injection hv with hv
  subst hv
  exact hA_at hs _ _ hx
/-! ### Copies of arrays -/
def padL (xs : List Int) (k n : Nat) : List Int := xs.take k ++ List.replicate (n - k) 0
theorem padL_len (xs : List Int) (k n : Nat) (hl : xs.length = n) (hk : k ≤ n) : (padL xs k n).length = n := by simp [padL, hl]; omega
theorem padL_set (xs : List Int) (k n : Nat) (hl : xs.length = n) (hk : k < n) : (padL xs k n).set k (xs[k]'(by omega)) = padL xs (k + 1) n := by
  unfold padL
  obtain ⟨m, hm⟩ : ∃ m, n - k = m + 1 := ⟨n - k - 1, by omega⟩
  have hm2 : n - (k + 1) = m := by omega
  rw [hm, hm2, List.set_append_right _ _ (by simp; omega), List.take_succ_eq_append_getElem (by omega), List.length_take, Nat.min_eq_left (by omega), Nat.sub_self]
  simp only [List.replicate_succ, List.set_cons_zero, List.append_assoc, List.singleton_append]
theorem padL_all (xs : List Int) (n : Nat) (hl : xs.length = n) : padL xs n n = xs := by simp [padL, ← hl]
theorem padL_0 (xs : List Int) (n : Nat) : padL xs 0 n = List.replicate n 0 := by simp [padL]
theorem padL_row (hs : List Int) (k : Nat) (hl : hs.length = 81) (hk : k < 9) : (writeAt (hA (padL hs (k * 9) 81)).toList (k * 9) (rowA hs k).toList).toArray = hA (padL hs ((k + 1) * 9) 81) := by
  have e1 : (hA (padL hs (k * 9) 81)).toList = ((hs.take (k * 9)).map (Value.int .i16)) ++ ((List.replicate 9 0).map (Value.int .i16)) ++ ((List.replicate (81 - (k + 1) * 9) 0).map (Value.int .i16)) := by
    have : List.replicate (81 - k * 9) (0 : Int) = List.replicate 9 0 ++ List.replicate (81 - (k + 1) * 9) 0 := by rw [List.replicate_append_replicate]; congr 1; omega
    simp only [hA, padL, this, List.map_append, List.append_assoc]
  have e2 : (rowA hs k).toList = ((hs.drop (k * 9)).take 9).map (Value.int .i16) := rfl
  have hp : k * 9 = ((hs.take (k * 9)).map (Value.int .i16)).length := by simp [hl]; omega
  rw [e1, e2]
  have h3 := writeAt_mid ((List.replicate 9 (0 : Int)).map (Value.int .i16)) (((hs.drop (k * 9)).take 9).map (Value.int .i16)) (by simp [hl]; omega) ((hs.take (k * 9)).map (Value.int .i16)) ((List.replicate (81 - (k + 1) * 9) (0 : Int)).map (Value.int .i16))
  rw [← hp] at h3
  rw [h3]
  apply Array.ext'
  simp only [hA, padL, ← List.map_append]
  congr 2
  rw [show (k + 1) * 9 = k * 9 + 9 by omega, List.take_add]
def z9 : List Int := List.replicate 9 0
def z81 : List Int := List.replicate 81 0
theorem padL_z9 (xs : List Int) : padL xs 0 9 = z9 := padL_0 xs 9
theorem padL_z81 (xs : List Int) : padL xs 0 81 = z81 := padL_0 xs 81
theorem zeroA9 : (#[.int .i16 0, .int .i16 0, .int .i16 0, .int .i16 0, .int .i16 0, .int .i16 0, .int .i16 0, .int .i16 0, .int .i16 0] : Array Value) = hA z9 := by kernel_rfl
set_option maxHeartbeats 1000000 in
theorem toA9_calls (xs : List Int) (hl : xs.length = 9) (W : World) :
    Calls Tryd.prog 94 #[.agg (hA xs)] W fun e w' => e = .returned (.agg (hA xs)) ∧ Below W.heap.size W w' := by
  have hz := Lib.hid zeroA9
  have K0 := Lib.hid (((Bk.new W 45 (hA xs) W.heap.size rfl).alloc (.cells (hA z9) 45)).alloc (.cells (hA z9) 45))
  have K1 := Lib.hid ((Bk.new (W.alloc (.cells (hA xs) 45)) 45 (hA z9) (W.heap.size + 1) (by simp)).alloc (.cells (hA z9) 45))
  have K2 := Lib.hid (Bk.new ((W.alloc (.cells (hA xs) 45)).alloc (.cells (hA z9) 45)) 45 (hA z9) (W.heap.size + 1 + 1) (by simp))
  have HB := Lib.hid (ext_alloc (ext_alloc ((Below.refl W.heap.size W).alloc (Nat.le_refl _) (.cells (hA xs) 45)) (.cells (hA z9) 45)) (.cells (hA z9) 45))
  rw [← hz.out] at K0 K1 K2 HB
  go_enter Tryd.func94, Tryd.ntmps94
  go_wp2_with fail
  generalize ((W.alloc (.cells (hA xs) 45)).alloc _).alloc _ = W1 at *
  rw [hz.out] at K1 K2
  clear hz
  go_loopw [4] (fun i wr => ∃ k : Nat, k ≤ 9 ∧ i = .int .i64 (k : Int) ∧ Bk wr W.heap.size 45 (hA xs) ∧ Bk wr (W.heap.size + 1) 45 (hA z9) ∧ Bk wr (W.heap.size + 1 + 1) 45 (hA (padL xs k 9)) ∧ Below W.heap.size W wr) (fun i _ => 9 - (intOf i).toNat)
  case atStart => exact ⟨0, by omega, rfl, K0.out, K1.out, by rw [padL_z9 xs]; exact K2.out, HB.out⟩
  case round =>
    obtain ⟨k, hk, rfl, h0, h1, h2, hb⟩ := hrel
    have H0 := Lib.hid h0
    have H1 := Lib.hid h1
    have H2 := Lib.hid h2
    have HBr := Lib.hid hb
    clear h0 h1 h2 hb
    by_cases hlt : k < 9
    · have c0 := H0.out.cell k _ (hA_at xs k xs[k] (List.getElem?_eq_getElem (by omega)))
      have hpl := padL_len xs k 9 hl (by omega)
      have c1 := H2.out.cell k _ (hA_at (padL xs k 9) k ((padL xs k 9)[k]'(by omega)) (List.getElem?_eq_getElem (by omega)))
      have f1 := H2.out.frz k
      have hset := Lib.hid (show (hA (padL xs k 9)).setIfInBounds k (.int .i16 (xs[k]'(by omega))) = hA (padL xs (k + 1) 9) from by rw [hA_set, padL_set xs k 9 hl hlt])
      have hd9 : decide ((k : Int) < 9) = true := by rw [decide_eq_true_eq]; omega
      have hk0 : (0 : Int) ≤ (k : Int) := by omega
      have hk1 : (k : Int) < 9 := by omega
      have hplh := Lib.hid hpl
      generalize (padL xs k 9)[k]'(by omega) = old at *
      clear hpl
      go_wp2_with fail
      go_roundw
      case rel => exact ⟨k + 1, by omega, by go_num, H0.out.oth k _ (by omega), H1.out.oth k _ (by omega), by rw [← hset.out]; exact H2.out.set k _, HBr.out.setCell (by simp <;> omega) _⟩
      case measure => first | (simp [intOf]; done) | (simp [intOf]; omega)
    · obtain rfl : k = 9 := by omega
      simp only [show ((9 : Nat) : Int) = 9 from rfl]
      have hd9 : decide ((9 : Int) < 9) = false := by decide
      rw [padL_all xs 9 hl] at H2
      have ld := load_a9 hl H2.out
      go_wp2_with (first | (refine wpList_load_w rfl 45 (.tmp 3) rfl _ rfl _ ld ?_) | (refine wpList_store_m rfl 45 (.tmp 2) (.tmp 14) rfl _ 0 (hA xs) rfl rfl _ _ H1.out (by simp [hA_size, z9, z81, hl]) (by rw [hA_size, hl]; exact a9_sz _) (hA_one xs) ?_))
      intro w5 hK5 hG5
      have hE : (writeAt (hA z9).toList 0 (hA xs).toList).toArray = hA xs := by rw [writeAt_all _ _ (by simp [hA, z9, z81, hl])]
      rw [hE] at hK5
      have HB5 := Lib.hid (HBr.out.grown hG5 HBr.out.size (fun j hj => by injection hj with hj; omega))
      have HK5 := Lib.hid hK5
      clear hG5 hK5 hE ld
      go_wp2_with fail
      exact cellret Tryd.results94 rfl (load_a9 hl HK5.out) rfl ⟨rfl, HB5.out⟩
theorem zeroA81 : Tryd.zeroCells46 = hA z81 := by kernel_rfl
set_option maxHeartbeats 1000000 in
theorem toA81_calls (hs : List Int) (hl : hs.length = 81) (W : World) :
    Calls Tryd.prog 55 #[.agg (hA hs)] W fun e w' => e = .returned (.agg (hA hs)) ∧ Below W.heap.size W w' := by
  have hz := Lib.hid zeroA81
  have K0 := Lib.hid (((Bk.new W 46 (hA hs) W.heap.size rfl).alloc (.cells (hA z81) 46)).alloc (.cells (hA z81) 46))
  have K1 := Lib.hid ((Bk.new (W.alloc (.cells (hA hs) 46)) 46 (hA z81) (W.heap.size + 1) (by simp)).alloc (.cells (hA z81) 46))
  have K2 := Lib.hid (Bk.new ((W.alloc (.cells (hA hs) 46)).alloc (.cells (hA z81) 46)) 46 (hA z81) (W.heap.size + 1 + 1) (by simp))
  have HB := Lib.hid (ext_alloc (ext_alloc ((Below.refl W.heap.size W).alloc (Nat.le_refl _) (.cells (hA hs) 46)) (.cells (hA z81) 46)) (.cells (hA z81) 46))
  rw [← hz.out] at K0 K1 K2 HB
  go_enter Tryd.func55, Tryd.ntmps55
  go_wp2_with fail
  generalize ((W.alloc (.cells (hA hs) 46)).alloc _).alloc _ = W1 at *
  rw [hz.out] at K1 K2
  clear hz
  go_loopw [4] (fun i wr => ∃ k : Nat, k ≤ 9 ∧ i = .int .i64 (k : Int) ∧ Bk wr W.heap.size 46 (hA hs) ∧ Bk wr (W.heap.size + 1) 46 (hA z81) ∧ Bk wr (W.heap.size + 1 + 1) 46 (hA (padL hs (k * 9) 81)) ∧ Below W.heap.size W wr) (fun i _ => 9 - (intOf i).toNat)
  case atStart => exact ⟨0, by omega, rfl, K0.out, K1.out, by rw [Nat.zero_mul, padL_z81 hs]; exact K2.out, HB.out⟩
  case round =>
    obtain ⟨k, hk, rfl, h0, h1, h2, hb⟩ := hrel
    have H0 := Lib.hid h0
    have H1 := Lib.hid h1
    have H2 := Lib.hid h2
    have HBr := Lib.hid hb
    clear h0 h1 h2 hb
    by_cases hlt : k < 9
    · have ld := load_rowOf hl k hlt H0.out
      have qt := Lib.hid (fun W' => toA9_calls ((hs.drop (k * 9)).take 9) (by simp [hl]; omega) W')
      rw [← rowA_hA] at qt
      have hrow := Lib.hid (padL_row hs k hl hlt)
      have hd9 : decide ((k : Int) < 9) = true := by rw [decide_eq_true_eq]; omega
      have hk0 : (0 : Int) ≤ (k : Int) := by omega
      have hk1 : (k : Int) < 9 := by omega
      go_wp2_with (refine wpList_load_w rfl 45 (.tmp 11) rfl _ rfl _ ld ?_)
      refine (qt.out _).mono ?_
      rintro e w4 ⟨rfl, hb4⟩
      have H24 := Lib.hid (H2.out.ext hb4)
      have H14 := Lib.hid (H1.out.ext hb4)
      have H04 := Lib.hid (H0.out.ext hb4)
      have HB4 := Lib.hid (ext_trans HBr.out hb4)
      clear hb4 ld
      go_wp2_with (refine wpList_store_m rfl 45 (.tmp 14) (.tmp 13) rfl _ (k * 9) (rowA hs k) rfl rfl _ _ H24.out (by rw [rowA_size hs hl k hlt, hA_size, padL_len hs (k * 9) 81 hl (by omega)]; omega) (by rw [rowA_size hs hl k hlt]; exact a9_sz _) (rowA_one hs k) ?_)
      intro w5 hK5 hG5
      rw [hrow.out] at hK5
      have HK5 := Lib.hid hK5
      have H05 := Lib.hid (show Bk w5 W.heap.size _ _ from (hG5.block _ H04.out.lt (fun e => by injection e with e; omega)).trans H04.out)
      have H15 := Lib.hid (show Bk w5 (W.heap.size + 1) _ _ from (hG5.block _ H14.out.lt (fun e => by injection e with e; omega)).trans H14.out)
      have HB5 := Lib.hid (HB4.out.grown hG5 HB4.out.size (fun j hj => by injection hj with hj; omega))
      clear hK5 hG5
      go_wp2_with fail
      go_roundw
      case rel => exact ⟨k + 1, by omega, by go_num, H05.out, H15.out, HK5.out, HB5.out⟩
      case measure => first | (simp [intOf]; done) | (simp [intOf]; omega)
    · obtain rfl : k = 9 := by omega
      simp only [show ((9 : Nat) : Int) = 9 from rfl]
      have hd9 : decide ((9 : Int) < 9) = false := by decide
      rw [show 9 * 9 = 81 from rfl, padL_all hs 81 hl] at H2
      have ld := load_a81 hl H2.out
      go_wp2_with (first | (refine wpList_load_w rfl 46 (.tmp 3) rfl _ rfl _ ld ?_) | (refine wpList_store_m rfl 46 (.tmp 2) (.tmp 15) rfl _ 0 (hA hs) rfl rfl _ _ H1.out (by simp [hA_size, z9, z81, hl]) (by rw [hA_size, hl]; exact a81_sz _) (hA_one hs) ?_))
      intro w5 hK5 hG5
      have hE : (writeAt (hA z81).toList 0 (hA hs).toList).toArray = hA hs := by rw [writeAt_all _ _ (by simp [hA, z9, z81, hl])]
      rw [hE] at hK5
      have HB5 := Lib.hid (HBr.out.grown hG5 HBr.out.size (fun j hj => by injection hj with hj; omega))
      have HK5 := Lib.hid hK5
      clear hG5 hK5 hE ld
      go_wp2_with fail
      exact cellret Tryd.results55 rfl (load_a81 hl HK5.out) rfl ⟨rfl, HB5.out⟩
theorem eqA9_calls (xs : List Int) (hl : xs.length = 9) (W : World) :
    Calls Tryd.prog 100 #[.agg (hA xs), .agg (hA xs)] W fun e w' => e = .returned (.bool true) ∧ Below W.heap.size W w' := by
  have K0 := Lib.hid ((Bk.new W 45 (hA xs) W.heap.size rfl).alloc (.cells (hA xs) 45))
  have K1 := Lib.hid (Bk.new (W.alloc (.cells (hA xs) 45)) 45 (hA xs) (W.heap.size + 1) (by simp))
  have HB := Lib.hid (ext_alloc ((Below.refl W.heap.size W).alloc (Nat.le_refl _) (.cells (hA xs) 45)) (.cells (hA xs) 45))
  go_enter Tryd.func100, Tryd.ntmps100
  go_wp2_with fail
  generalize (W.alloc (.cells (hA xs) 45)).alloc (.cells (hA xs) 45) = W1 at *
  go_loopw [5] (fun i wr => ∃ k : Nat, k ≤ 9 ∧ i = .int .i64 (k : Int) ∧ Below W1.heap.size W1 wr) (fun i _ => 9 - (intOf i).toNat)
  case atStart => exact ⟨0, by omega, rfl, Below.refl _ _⟩
  case round =>
    obtain ⟨k, hk, rfl, hb⟩ := hrel
    have HBr := Lib.hid hb
    by_cases hlt : k < 9
    · have c0 := (K0.out.ext hb).cell k _ (hA_at xs k xs[k] (List.getElem?_eq_getElem (by omega)))
      have c1 := (K1.out.ext hb).cell k _ (hA_at xs k xs[k] (List.getElem?_eq_getElem (by omega)))
      have hd9 : decide ((k : Int) < 9) = true := by rw [decide_eq_true_eq]; omega
      have hk0 : (0 : Int) ≤ (k : Int) := by omega
      have hk1 : (k : Int) < 9 := by omega
      generalize xs[k] = n at *
      have hn : (n != n) = false := by simp
      have wk : wrap64 ((k : Int) + 1) = (k : Int) + 1 := wr64 (by omega) (by omega)
      clear hb
      go_wp2_with fail
      go_quiet (fail)
      go_wp2_with fail
      go_roundw
      case rel => exact ⟨k + 1, by omega, by go_num, ext_drewN HBr.out _⟩
      case measure => first | (simp [intOf]; done) | (simp [intOf]; omega)
    · obtain rfl : k = 9 := by omega
      simp only [show ((9 : Nat) : Int) = 9 from rfl]
      have hd9 : decide ((9 : Int) < 9) = false := by decide
      go_wp2_with fail
      go_ret
      exact ⟨rfl, ext_trans HB.out HBr.out⟩
abbrev EqS (W0 : World) (b c o : Nat) (row : Array Value) (w' : World) : Prop :=
  Below W0.heap.size W0 w' ∧ (loadVar 45 ⟨b, o, none⟩).run Tryd.prog w' = .ok (.agg row) w' ∧ (loadVar 45 ⟨c, o, none⟩).run Tryd.prog w' = .ok (.agg row) w'
theorem eqA81_calls (hs : List Int) (hl : hs.length = 81) (W : World) :
    Calls Tryd.prog 62 #[.agg (hA hs), .agg (hA hs)] W fun e w' => e = .returned (.bool true) ∧ Below W.heap.size W w' := by
  have K0 := Lib.hid ((Bk.new W 46 (hA hs) W.heap.size rfl).alloc (.cells (hA hs) 46))
  have K1 := Lib.hid (Bk.new (W.alloc (.cells (hA hs) 46)) 46 (hA hs) (W.heap.size + 1) (by simp))
  have HB := Lib.hid (ext_alloc ((Below.refl W.heap.size W).alloc (Nat.le_refl _) (.cells (hA hs) 46)) (.cells (hA hs) 46))
  go_enter Tryd.func62, Tryd.ntmps62
  go_wp2_with fail
  generalize (W.alloc (.cells (hA hs) 46)).alloc (.cells (hA hs) 46) = W1 at *
  go_loopw [5] (fun i wr => ∃ k : Nat, k ≤ 9 ∧ i = .int .i64 (k : Int) ∧ Below W1.heap.size W1 wr) (fun i _ => 9 - (intOf i).toNat)
  case atStart => exact ⟨0, by omega, rfl, Below.refl _ _⟩
  case round =>
    obtain ⟨k, hk, rfl, hb⟩ := hrel
    have HBr := Lib.hid hb
    by_cases hlt : k < 9
    · have qe := Lib.hid (fun W' => eqA9_calls ((hs.drop (k * 9)).take 9) (by simp [hl]; omega) W')
      rw [← rowA_hA] at qe
      have HS := Lib.hid (show ∀ w', Below wr.heap.size wr w' → EqS wr W.heap.size (W.heap.size + 1) (k * 9) (rowA hs k) w' from fun w' h => ⟨h, load_rowOf hl k hlt ((K0.out.ext hb).ext h), load_rowOf hl k hlt ((K1.out.ext hb).ext h)⟩)
      have hd9 : decide ((k : Int) < 9) = true := by rw [decide_eq_true_eq]; omega
      have hk0 : (0 : Int) ≤ (k : Int) := by omega
      have hk1 : (k : Int) < 9 := by omega
      clear hb
      go_wp2_with fail
      refine wp_region_held_drew (S := (EqS wr W.heap.size (W.heap.size + 1) (k * 9) (rowA hs k))) (by kernel_rfl) ?r19_hS0 (fun hHeld => ?r19_rest)
      case r19_hS0 => (try dsimp only); first | assumption | exact HS.out _ (kp0 _) | exact HS.out _ (Below.refl _ _) | exact HS.out _ (kp1 (And.left (b := _) (by assumption))) | exact HS.out _ (ext_trans (And.left (b := _) (by assumption)) (by assumption))
      refine wpAnyH_take (i := 0) (v := ?r19_vv0) (by (simp only [List.getElem?_toArray, List.getElem?_cons_succ, List.getElem?_cons_zero]; rfl)) (by kernel_rfl) (by kernel_rfl) (by kernel_rfl) (by exact fun _ _ _ h => h) (Or.inl ⟨by rfl, ?r19_hy0⟩) (by assumption) ?r19_rest0
      case r19_hy0 => intro w hSw; (try dsimp only at hSw); (go_simp <;> (with_reducible rfl))
      try simp only [Act.put, List.setIfInBounds_toArray, List.set_cons_zero, List.set_cons_succ]
      refine wpAnyH_take (i := 1) (v := ?r19_vv1) (by (simp only [List.getElem?_toArray, List.getElem?_cons_succ, List.getElem?_cons_zero]; rfl)) (by kernel_rfl) (by kernel_rfl) (by kernel_rfl) (by exact fun _ _ _ h => h) (Or.inl ⟨by rfl, ?r19_hy1⟩) (by assumption) ?r19_rest1
      case r19_hy1 => intro w hSw; (try dsimp only at hSw); (go_simp <;> (with_reducible rfl))
      try simp only [Act.put, List.setIfInBounds_toArray, List.set_cons_zero, List.set_cons_succ]
      refine wpAnyH_take (i := 2) (v := ?r19_vv2) (by (simp only [List.getElem?_toArray, List.getElem?_cons_succ, List.getElem?_cons_zero]; rfl)) (by kernel_rfl) (by kernel_rfl) (by kernel_rfl) (by exact fun _ _ _ h => h) (Or.inl ⟨by rfl, ?r19_hy2⟩) (by assumption) ?r19_rest2
      case r19_hy2 => intro w hSw; (try dsimp only at hSw); refine (exec_load rfl rfl hSw.2.1).trans ?_; with_reducible rfl
      try simp only [Act.put, List.setIfInBounds_toArray, List.set_cons_zero, List.set_cons_succ]
      refine wpAnyH_take (i := 3) (v := ?r19_vv3) (by (simp only [List.getElem?_toArray, List.getElem?_cons_succ, List.getElem?_cons_zero]; rfl)) (by kernel_rfl) (by kernel_rfl) (by kernel_rfl) (by exact fun _ _ _ h => h) (Or.inl ⟨by rfl, ?r19_hy3⟩) (by assumption) ?r19_rest3
      case r19_hy3 => intro w hSw; (try dsimp only at hSw); (go_simp <;> (with_reducible rfl))
      try simp only [Act.put, List.setIfInBounds_toArray, List.set_cons_zero, List.set_cons_succ]
      refine wpAnyH_take (i := 4) (v := ?r19_vv4) (by (simp only [List.getElem?_toArray, List.getElem?_cons_succ, List.getElem?_cons_zero]; rfl)) (by kernel_rfl) (by kernel_rfl) (by kernel_rfl) (by exact fun _ _ _ h => h) (Or.inl ⟨by rfl, ?r19_hy4⟩) (by assumption) ?r19_rest4
      case r19_hy4 => intro w hSw; (try dsimp only at hSw); (go_simp <;> (with_reducible rfl))
      try simp only [Act.put, List.setIfInBounds_toArray, List.set_cons_zero, List.set_cons_succ]
      refine wpAnyH_take (i := 5) (v := ?r19_vv5) (by (simp only [List.getElem?_toArray, List.getElem?_cons_succ, List.getElem?_cons_zero]; rfl)) (by kernel_rfl) (by kernel_rfl) (by kernel_rfl) (by exact fun _ _ _ h => h) (Or.inl ⟨by rfl, ?r19_hy5⟩) (by assumption) ?r19_rest5
      case r19_hy5 => intro w hSw; (try dsimp only at hSw); refine (exec_load rfl rfl hSw.2.2).trans ?_; with_reducible rfl
      try simp only [Act.put, List.setIfInBounds_toArray, List.set_cons_zero, List.set_cons_succ]
      refine wpAnyH_ready (rs := [6]) (by kernel_rfl) (by simp) ?_
      refine AllReadyH.cons (by (simp only [List.getElem?_toArray, List.getElem?_cons_succ, List.getElem?_cons_zero]; rfl)) (fun K hK => ?_) AllReadyH.nil
      go_simp
      (go_at_call 100; with_reducible refine (qe.out _).mono ?_; rintro e w8 ⟨rfl, hb8⟩)
      try go_wp2_with fail
      refine hK.out _ _ ?r19_hS6 (fun hHeld => ?r19_r6)
      case r19_hS6 => (try dsimp only); first | assumption | exact HS.out _ (kp0 _) | exact HS.out _ (Below.refl _ _) | exact HS.out _ (kp1 (And.left (b := _) (by assumption))) | exact HS.out _ (ext_trans (And.left (b := _) (by assumption)) (by assumption))
      clear hK K
      try simp only [Act.put, List.setIfInBounds_toArray, List.set_cons_zero, List.set_cons_succ]
      refine wpAnyH_take (i := 7) (v := ?r19_vv7) (by (simp only [List.getElem?_toArray, List.getElem?_cons_succ, List.getElem?_cons_zero]; rfl)) (by kernel_rfl) (by kernel_rfl) (by kernel_rfl) (by exact fun _ _ _ h => h) (Or.inl ⟨by rfl, ?r19_hy7⟩) (by assumption) ?r19_rest7
      case r19_hy7 => intro w hSw; (try dsimp only at hSw); (go_simp <;> (with_reducible rfl))
      try simp only [Act.put, List.setIfInBounds_toArray, List.set_cons_zero, List.set_cons_succ]
      refine wpAnyH_done (by kernel_rfl) ?_ _
      go_wp2_with fail
      go_roundw
      case rel => exact ⟨k + 1, by omega, by go_num, ext_trans HBr.out (And.left (b := _) (by assumption))⟩
      case measure => first | (simp [intOf]; done) | (simp [intOf]; omega)
    · obtain rfl : k = 9 := by omega
      simp only [show ((9 : Nat) : Int) = 9 from rfl]
      have hd9 : decide ((9 : Int) < 9) = false := by decide
      go_wp2_with fail
      go_ret
      exact ⟨rfl, ext_trans HB.out HBr.out⟩
end Go.Proofs.YthlcmiediedcfaaDoor
