/-
Own rows of cells: Clone, DeleteFunc. Conditions: the rows are short. (Turned from the rows of pairs.)
-/
import Derived.Test.YteflpdfajfljfaaAP
import Derived.Test.YteflpdfajfljfaaGen
import Derived.Lib.SliceRun
set_option linter.unusedVariables false
set_option linter.unusedSimpArgs false
set_option maxRecDepth 100000
namespace Go.Proofs.Yteflpdfajfljfaa
open Go.RowKit
theorem appCell : AppK Cell.c 2 2 43 36 := AppK.mk' (.agg #[.int .i8 0, .int .i8 0]) (by omega) Cell.c_len (by intro x u hu; simp [Cell.c] at hu; rcases hu with rfl | rfl <;> rfl) Try.underlying43 (by kernel_rfl) rfl
def RetRowC {α : Type} (W : World) (E : TypeId) (c : α → List Value) (sz : Nat) (xs : List α) (e : Ending) (w' : World) : Prop := ∃ v, e = .returned v ∧ Own w' W.heap.size E c sz v xs ∧ Below W.heap.size W w'
theorem cloneCell_calls (xs : List Cell) (v : Value) (W : World) (hs : Sl W W.heap.size Cell.c 2 v xs) (hn : xs.length ≤ 1000000) :
    Calls Try.prog 191 #[v] W (RetRowC W 36 Cell.c 2 xs) := by
  have HS := Lib.hid hs
  obtain ⟨A, cap, rfl, hl, hm, hcell⟩ := hs.cell
  clear hs
  have hO0 := Lib.hid (Own.empty (α := Cell) (c := Cell.c) (sz := 2) (E := 36) W W.heap.size W.heap.size rfl (Nat.le_refl _))
  have HB := Lib.hid ((Below.refl W.heap.size W).alloc (Nat.le_refl _) (.cells #[] 36))
  have heq := fun w' => Lib.run_eql_slice_nil (P := Try.prog) w' 43 36 A xs.length cap 0 0 Try.underlying43
  cases A with
  | none =>
    have h0 : xs = [] := by
      cases xs with
      | nil => rfl
      | cons y ys => obtain ⟨b, o, he, _⟩ := hcell 0 (by simp); exact absurd he (by simp)
    subst h0
    clear hcell
    simp only [Option.isNone_none, List.length_nil] at *
    go_enter Try.func191, Try.ntmps191
    go_wp2_with fail
    go_ret
    exact ⟨_, rfl, Own.nil_ _ _ _ _ _, Below.refl _ _⟩
  | some ad =>
    clear hcell
    simp only [Option.isNone_some] at heq
    go_enter Try.func191, Try.ntmps191
    go_wp2_with (at_builtin; refine push_app appCell rfl _ _ rfl W.heap.size [] xs _ _ rfl rfl hO0.out (HS.out.ext HB.out) (by simp; omega) (by simp; omega) HB.out.size ?_)
    intro v3 w3 hO3 hG3 hat
    have hb3 := Lib.hid (HB.out.grown hG3 HB.out.size (fun j hj => hO0.out.base j hj))
    have hO3 := Lib.hid hO3
    clear hG3 hat
    go_wp2_with fail
    go_ret
    exact ⟨_, rfl, by simpa using hO3.out, hb3.out⟩
/-! ### Rows that are cut, and cleared behind the cut -/
theorem setCells_putC (g : Nat) : ∀ (us : List Value) (w : World) (j : Nat), w.setCells g j us = putCells w g j us
  | [], _, _ => rfl
  | u :: r, w, j => by
    show (w.setCell ⟨g, j, none⟩ u).setCells g (j + 1) r = putCells (w.setCell ⟨g, j, none⟩ u) g (j + 1) r
    exact setCells_putC g r _ _
theorem writeAt_outC (us : List Value) : ∀ (L : List Value) (j : Nat), L.length ≤ j → writeAt L j us = L := by
  induction us with
  | nil => exact fun _ _ _ => rfl
  | cons u r ih =>
    intro L j h
    show writeAt (L.set j u) (j + 1) r = L
    rw [List.set_eq_of_length_le h]
    exact ih L (j + 1) (by omega)
section
variable {α : Type} {w : World} {B E sz g n cap k : Nat} {c : α → List Value} {xs : List α}
theorem Own.cutHiC (hc : ∀ x, (c x).length = sz) (h : Own w B E c sz (.slice (some ⟨g, 0, none⟩) n cap) xs) (hk : k ≤ xs.length) : Own w B E c sz (.slice (some ⟨g, 0, none⟩) k cap) (xs.take k) := by
  have hl : (xs.take k).length = k := by rw [List.length_take]; omega
  refine ⟨?_⟩
  rw [hl]
  rcases h.out.2 with ⟨h0, _⟩ | ⟨g', cap', cur, hv, hg, hh, hn, hm, hs, ht⟩
  · cases h0
  · injection hv with e1 e2 e3
    injection e1 with e1
    injection e1 with e1
    subst e1; subst e3
    have hf : ((xs.take k).flatMap c).length = k * sz := by rw [flatMap_length_const c sz hc, hl]
    refine ⟨hf, .inr ⟨g, cap, cur, rfl, hg, hh, by omega, hm, hs, ?_⟩⟩
    have e0 : xs.flatMap c = (xs.take k).flatMap c ++ (xs.drop k).flatMap c := by rw [← List.flatMap_append, List.take_append_drop]
    have h1 : (xs.flatMap c).take (k * sz) = (xs.take k).flatMap c := by rw [e0, ← hf, List.take_left']; rfl
    rw [← h1, ← ht, List.take_take, Nat.min_eq_left (Nat.mul_le_mul_right _ hk)]
theorem Own.clearBehindC (hc : ∀ x, (c x).length = sz) (h : Own w B E c sz (.slice (some ⟨g, 0, none⟩) k cap) xs) (us : List Value) :
    Own (w.setCells g (k * sz) us) B E c sz (.slice (some ⟨g, 0, none⟩) k cap) xs ∧ w.grownBy (w.setCells g (k * sz) us) (some g) := by
  have hn : k = xs.length := by
    rcases h.out.2 with ⟨h0, _⟩ | ⟨g', cap', cur, hv, _⟩
    · cases h0
    · injection hv
  subst hn
  obtain ⟨h1, h2⟩ := putCells_own us w (xs.length * sz) _ h.out
  rw [setCells_putC]
  refine ⟨⟨?_⟩, h2⟩
  rwa [writeAt_outC _ _ _ (by rw [flatMap_length_const c sz hc]; exact Nat.le_refl _)] at h1
end
theorem sizeCell_run (W : World) : (sizeOf (Try.prog.elem 43)).run Try.prog W = .ok 2 W := by kernel_rfl
theorem hiCell_run (A : Option Addr) (n cap k : Nat) (hk : k ≤ cap) (W : World) : (Instr.sliceAt 43 (.slice A n cap) none (some (.int .i64 (k : Int))) none).run Try.prog W = .ok (.slice A k cap) W := by
  rw [run_sliceAt_slice (P := Try.prog) W 43 _ _ _ _ (by kernel_rfl), run_slice_h (P := Try.prog) W 43 A n cap (by kernel_rfl) .i64 (k : Int) (by omega) (by omega), sizeCell_run]
  cases A <;> simp [Result.andThen, sliced, Addr.add]
theorem loCell_run (g n cap k : Nat) (hk : k < n) (hn : n ≤ cap) (W : World) : (Instr.sliceAt 43 (.slice (some ⟨g, 0, none⟩) n cap) (some (.int .i64 (k : Int))) none none).run Try.prog W = .ok (.slice (some ⟨g, k * 2, none⟩) (n - k) (cap - k)) W := by
  rw [run_sliceAt_slice (P := Try.prog) W 43 _ _ _ _ (by kernel_rfl), run_slice_l (P := Try.prog) W 43 (some ⟨g, 0, none⟩) n cap (by kernel_rfl) .i64 (k : Int) (by omega) (by omega), sizeCell_run]
  have : cap ≠ k := by omega
  cases k <;> simp [Result.andThen, sliced, Addr.add, this]
theorem zeroCell_run (w : World) : (zeroValue 36).run Try.prog w = .ok (.agg #[.int .i8 0, .int .i8 0]) w := by kernel_rfl
theorem clearCell_run (w : World) (ty : TypeId) (g o n c : Nat) (hn : 0 < n) (hc : ∀ j, j < n * 2 → (w.cell? ⟨g, o + j, none⟩).isSome = true) (hf : ∀ j, w.frozen? ⟨g, j, none⟩ = false) :
    ∃ us, (Builtin.clear_ #[43] ty #[.slice (some ⟨g, o, none⟩) n c]).run Try.prog w = .ok (.tuple #[]) (w.setCells g o us) := by
  refine ⟨(Builtin.zeroCells #[.int .i8 0, .int .i8 0] n).toList, ?_⟩
  have hl : (Builtin.zeroCells #[.int .i8 0, .int .i8 0] n).toList.length = n * 2 := by simp [Builtin.zeroCells]
  have hst := run_storeCells_cells (P := Try.prog) g o (Builtin.zeroCells #[.int .i8 0, .int .i8 0] n).toList 0 w (by rw [hl]; simpa using hc) (fun j _ => hf _) (by
    intro v hv
    simp only [Builtin.zeroCells, List.mem_map, Array.toList_map, List.size_toArray, List.length_cons, List.length_nil] at hv
    obtain ⟨i, _, rfl⟩ := hv
    have : i % 2 < 2 := Nat.mod_lt _ (by omega)
    rcases (show i % 2 = 0 ∨ i % 2 = 1 by omega) with h | h <;> simp [h] <;> rfl)
  simp only [Nat.add_zero] at hst
  obtain ⟨m, rfl⟩ : ∃ m, n = m + 1 := ⟨n - 1, by omega⟩
  simp [Builtin.clear_, run_underlying Try.underlying43, zeroCell_run, Value.cells, hst]
/-- The function with number g answers 'p x' in every world that is w but for new blocks and for what a row holds. -/
def TellsRC {α : Type} (P : Program) (g : FuncId) (lb : Array Value) (enc : α → Value) (p : α → Bool) (w : World) (row : Option Nat) (x : α) : Prop :=
  ∀ W, w.grownBy W row → Calls P g (#[enc x] ++ lb) W fun e W' => e = .returned (.bool (p x)) ∧ Below W.heap.size W W'
theorem grown_of_belowC {w W : World} (h : Below w.heap.size w W) (row : Option Nat) : w.grownBy W row := ⟨h.os, h.tape, h.output, h.size, fun k hk _ => h.block k hk⟩
theorem TellsRC.tells {α : Type} {P : Program} {g : FuncId} {lb : Array Value} {enc : α → Value} {p : α → Bool} {w : World} {row : Option Nat} {x : α} (h : TellsRC P g lb enc p w row x) : Tells P g lb enc p w x := fun W hW => h W (grown_of_belowC hW row)
theorem filt_keepC (p : Cell → Bool) (xs ys : List Cell) (i j : Nat) (hj : j < xs.length) (hi : i < ys.length) (h : ys.take i = (xs.take j).filter fun x => !p x) (hp : p xs[j] = false) : (ys.set i xs[j]).take (i + 1) = (xs.take (j + 1)).filter fun x => !p x := by
  rw [List.take_succ_eq_append_getElem (by rw [List.length_set]; omega), List.take_set_of_le (Nat.le_refl i), h, List.getElem_set_self, List.take_succ_eq_append_getElem hj, List.filter_append, List.filter_cons_of_pos (by simp [hp])]; rfl
theorem filt_skipC (p : Cell → Bool) (xs : List Cell) (j : Nat) (hj : j < xs.length) (hp : p xs[j] = true) : (xs.take (j + 1)).filter (fun x => !p x) = (xs.take j).filter fun x => !p x := by
  rw [List.take_succ_eq_append_getElem hj, List.filter_append, List.filter_cons_of_neg (by simp [hp])]; simp
theorem drop_set_keepC {α : Type} (ys : List α) (i j : Nat) (x : α) (h : i < j) : (ys.set i x).drop j = ys.drop j := by
  rw [List.drop_set, if_pos h]
theorem drop_atC {α : Type} (xs ys : List α) (j : Nat) (h : ys.drop j = xs.drop j) (hj : j < xs.length) : ys[j]? = some xs[j] := by
  have h1 : (ys.drop j)[0]? = (xs.drop j)[0]? := by rw [h]
  rw [List.getElem?_drop, List.getElem?_drop, Nat.add_zero, List.getElem?_eq_getElem hj] at h1
  exact h1
theorem drop_succ_ofC {α : Type} (xs ys : List α) (j : Nat) (h : ys.drop j = xs.drop j) : ys.drop (j + 1) = xs.drop (j + 1) := by
  rw [← List.drop_drop, ← List.drop_drop (i := 1) (j := j), h]
theorem filt_noneC {α : Type} (p : α → Bool) (xs : List α) (h : xs.any p = false) : xs.filter (fun x => !p x) = xs := by
  rw [List.filter_eq_self]
  intro x hx
  rw [List.any_eq_false] at h
  simpa using h x hx
theorem findI_casesC {α : Type} (p : α → Bool) (xs : List α) : (findI p xs = -1 ∧ xs.any p = false) ∨ ∃ k : Nat, findI p xs = (k : Int) ∧ ∃ hk : k < xs.length, p xs[k] = true ∧ (xs.take k).filter (fun x => !p x) = xs.take k := by
  have hg := findI_ge p xs
  unfold findI at *
  cases h : xs.findIdx? p with
  | none =>
    left
    rw [h] at hg
    exact ⟨rfl, by rw [← hg]; rfl⟩
  | some k =>
    right
    obtain ⟨hk, hp, hno⟩ := List.findIdx?_eq_some_iff_getElem.1 h
    refine ⟨k, rfl, hk, hp, ?_⟩
    rw [List.filter_eq_self]
    intro x hx
    obtain ⟨i, hi, rfl⟩ := List.getElem_of_mem hx
    rw [List.length_take] at hi
    have := hno i (by omega)
    rw [List.getElem_take]
    simpa using this
set_option maxHeartbeats 4000000 in
theorem deleteFuncCell (xs : List Cell) (g0 cap : Nat) (B : Nat) (W : World) (hO : Own W B 36 Cell.c 2 (.slice (some ⟨g0, 0, none⟩) xs.length cap) xs) (hB : B ≤ W.heap.size) (f : FuncId) (lb : Array Value) (p : Cell → Bool) (eg : Enters Try.prog f)
    (hf : ∀ x ∈ xs, TellsRC Try.prog f lb Cell.v p W (some g0) x) :
    Calls Try.prog 152 #[.slice (some ⟨g0, 0, none⟩) xs.length cap, .func (.func f) #[] lb] W fun e w' => e = .returned (.slice (some ⟨g0, 0, none⟩) (xs.filter fun x => !p x).length cap) ∧ Own w' B 36 Cell.c 2 (.slice (some ⟨g0, 0, none⟩) (xs.filter fun x => !p x).length cap) (xs.filter fun x => !p x) ∧ W.grownBy w' (some g0) := by
  have hsl := hO.sl Cell.c_len
  obtain ⟨A, cap', hv, hl, hm, -⟩ := hsl.cell
  obtain ⟨rfl, rfl⟩ : some (⟨g0, 0, none⟩ : Addr) = A ∧ cap = cap' := by injection hv with e1 e2 e3; exact ⟨e1, e3⟩
  have qi := Lib.hid (indexFuncCell xs _ W hsl f lb p eg (fun x hx => (hf x hx).tells))
  have HO := Lib.hid hO
  have HF := Lib.hid hf
  have HFC := Lib.hid (findI_casesC p xs)
  have hg0 := Lib.hid (hO.lt g0 rfl)
  clear hv hsl hO hf
  rcases HFC.out with ⟨h1, h2⟩ | ⟨k0, h1, hk0, hp0, htk⟩
  · have hE := Lib.hid (filt_noneC p xs h2)
    rw [h1] at qi
    rw [hE.out]
    clear h1 h2 HFC
    go_enter Try.func152, Try.ntmps152
    go_wp2_with fail
    refine qi.out.mono ?_
    rintro e w1 ⟨rfl, hb1⟩
    have HO1 := Lib.hid (HO.out.ext hb1)
    have HG1 := Lib.hid (grown_of_belowC hb1 (some g0))
    clear hb1
    go_wp2_with fail
    go_ret
    exact ⟨rfl, HO1.out, HG1.out⟩
  · rw [h1] at qi
    have hne : ((k0 : Int) == -1) = false := by rw [beq_eq_false_iff_ne]; omega
    have HP0 := Lib.hid hp0
    have HTK := Lib.hid (show xs.take k0 = (xs.take (k0 + 1)).filter fun x => !p x from by rw [filt_skipC p xs k0 hk0 hp0, htk])
    clear h1 HFC hp0 htk
    obtain ⟨R, hR0⟩ : ∃ R, R = xs.filter fun x => !p x := ⟨_, rfl⟩
    rw [← hR0]
    have hR := Lib.hid hR0
    clear hR0
    go_enter Try.func152, Try.ntmps152
    go_wp2_with fail
    refine qi.out.mono ?_
    rintro e w1 ⟨rfl, hb1⟩
    have HO1 := Lib.hid (HO.out.ext hb1)
    have HG1 := Lib.hid (grown_of_belowC hb1 (some g0))
    have hs1 := Lib.hid hb1.size
    clear hb1
    go_wp2_with fail
    go_loopw [5, 6, 7] (fun s5 s6 _ wr => ∃ (i j : Nat) (ys : List Cell), s5 = .int .i64 (i : Int) ∧ s6 = .int .i64 (j : Int) ∧ j ≤ xs.length ∧ i < j ∧ ys.length = xs.length ∧ (ys.take i = (xs.take j).filter fun x => !p x) ∧ ys.drop j = xs.drop j ∧ Own wr B 36 Cell.c 2 (.slice (some ⟨g0, 0, none⟩) xs.length cap) ys ∧ W.grownBy wr (some g0)) (fun _ s6 _ _ => xs.length - (intOf s6).toNat)
    case atStart => exact ⟨k0, k0 + 1, xs, rfl, by go_num, by omega, by omega, rfl, HTK.out, rfl, HO1.out, HG1.out⟩
    case round =>
      obtain ⟨i, j, ys, rfl, rfl, hj, hij, hyl, htk, hdr, hO, hG⟩ := hrel
      have HY := Lib.hid hyl
      have HT := Lib.hid htk
      have HD := Lib.hid hdr
      have HOr := Lib.hid hO
      have HGr := Lib.hid hG
      clear hyl htk hdr hO hG
      by_cases hlt : j < xs.length
      · have hat := Lib.hid (drop_atC xs ys j HD.out hlt)
        have hx := Lib.hid (HF.out xs[j] (List.getElem_mem hlt))
        have hkeep := Lib.hid (show p xs[j] = false → (ys.set i xs[j]).take (i + 1) = (xs.take (j + 1)).filter fun x => !p x from fun h => filt_keepC p xs ys i j hlt (by have := HY.out; omega) HT.out h)
        have hskip := Lib.hid (show p xs[j] = true → (xs.take (j + 1)).filter (fun x => !p x) = (xs.take j).filter fun x => !p x from fun h => filt_skipC p xs j hlt h)
        have hds := Lib.hid (drop_succ_ofC xs ys j HD.out)
        obtain ⟨hBg, hgl, hce, hfz⟩ := HOr.out.at_ Cell.c_len (by have := HY.out; omega)
        obtain ⟨yi, hyi⟩ : ∃ y, ys[i]? = some y := ⟨ys[i]'(by have := HY.out; omega), by rw [List.getElem?_eq_getElem]⟩
        generalize xs[j] = x at *
        have c0 : wr.cell? ⟨g0, j * 2, none⟩ = some (.int .i8 x.x) := by simpa using hce j x hat.out 0 _ rfl
        have c1 : wr.cell? ⟨g0, j * 2 + 1, none⟩ = some (.int .i8 x.y) := by simpa using hce j x hat.out 1 _ rfl
        have hj8 : (0 : Int) ≤ (j : Int) := by omega
        have hj9 : (j : Int) < (xs.length : Int) := by omega
        have hi8 : (0 : Int) ≤ (i : Int) := by omega
        have hi9 : (i : Int) < (xs.length : Int) := by omega
        clear hce hfz
        have hba := Lib.hid ((Below.refl wr.heap.size wr).alloc (Nat.le_refl _) (.cells #[.int .i8 x.x, .int .i8 x.y] 36))
        have KV := Lib.hid (Bk.new wr 36 #[.int .i8 x.x, .int .i8 x.y] wr.heap.size rfl)
        unfold Cell.v at hx
        go_wp2_with fail
        generalize wr.alloc (.cells #[.int .i8 x.x, .int .i8 x.y] 36) = wa at *
        have HGa := Lib.hid (HGr.out.trans (grown_of_belowC hba.out (some g0)))
        have HOa := Lib.hid (HOr.out.ext hba.out)
        rw [eg, Oper.upon_enter]
        refine (hx.out _ HGa.out).mono ?_
        rintro e w3 ⟨rfl, hb3⟩
        have HG3 := Lib.hid (HGa.out.trans (grown_of_belowC hb3 (some g0)))
        have HO3 := Lib.hid (HOa.out.ext hb3)
        have K3 := Lib.hid (KV.out.ext hb3)
        clear hb3 c0 c1
        have v0 := K3.out.cell 0 _ rfl
        have v1 := K3.out.cell 1 _ rfl
        cases hp : p x
        · have hkp := Lib.hid (hkeep.out hp)
          clear hp hkeep hskip
          obtain ⟨hBg3, hgl3, hce, hfz⟩ := HO3.out.at_ Cell.c_len (by have := HY.out; omega)
          have q0 : w3.cell? ⟨g0, i * 2, none⟩ = some (.int .i8 yi.x) := by simpa using hce i yi hyi 0 _ rfl
          have q1 : w3.cell? ⟨g0, i * 2 + 1, none⟩ = some (.int .i8 yi.y) := by simpa using hce i yi hyi 1 _ rfl
          clear hce hyi
          go_wp2_with fail
          obtain ⟨hO4, hG4⟩ := HO3.out.put Cell.c_len i (by have := HY.out; omega) x
          go_roundw
          case rel => exact ⟨i + 1, j + 1, ys.set i x, by go_num, by go_num, by omega, by omega, by rw [List.length_set]; exact HY.out, hkp.out, by rw [drop_set_keepC _ _ _ _ (by omega)]; exact hds.out, hO4, HG3.out.trans hG4⟩
          case measure => first | (simp [intOf]; done) | (simp [intOf]; omega)
        · have hsp := Lib.hid (hskip.out hp)
          clear hp hkeep hskip hyi
          go_wp2_with fail
          go_roundw
          case rel => exact ⟨i, j + 1, ys, rfl, by go_num, by omega, by omega, HY.out, by rw [hsp.out]; exact HT.out, hds.out, HO3.out, HG3.out⟩
          case measure => first | (simp [intOf]; done) | (simp [intOf]; omega)
      · obtain rfl : j = xs.length := by omega
        have hR2 := Lib.hid (show R = ys.take i from by rw [hR.out, HT.out, List.take_length])
        have hRl := Lib.hid (show R.length = i from by rw [hR2.out, List.length_take]; have := HY.out; omega)
        obtain ⟨hBg, hgl, hce, hfz⟩ := HOr.out.at_ Cell.c_len (by have := HY.out; omega)
        obtain ⟨us, hcl⟩ := clearCell_run wr 0 g0 (i * 2) (xs.length - i) (cap - i) (by omega) (fun q hq => by
          have hq1 : i + q / 2 < ys.length := by have := HY.out; omega
          have h1 := hce (i + q / 2) ys[i + q / 2] (List.getElem?_eq_getElem hq1)
          rcases (show q % 2 = 0 ∨ q % 2 = 1 by omega) with h | h
          · have := h1 0 _ rfl
            rw [show i * 2 + q = (i + q / 2) * 2 + 0 by omega, this]; rfl
          · have := h1 1 _ rfl
            rw [show i * 2 + q = (i + q / 2) * 2 + 1 by omega, this]; rfl) hfz
        have hcl2 : ∀ ty, (Builtin.clear_ #[43] ty #[.slice (some ⟨g0, i * 2, none⟩) (xs.length - i) (cap - i)]).run Try.prog wr = .ok (.tuple #[]) (wr.setCells g0 (i * 2) us) := fun ty => hcl
        have hHi := fun W => hiCell_run (some ⟨g0, 0, none⟩) xs.length cap i (by omega) W
        have hLo := fun W => loCell_run g0 xs.length cap i hij (by omega) W
        obtain ⟨hO5, hG5⟩ := (HOr.out.cutHiC Cell.c_len (show i ≤ ys.length from by have := HY.out; omega)).clearBehindC Cell.c_len us
        have HO5 := Lib.hid hO5
        have HG5 := Lib.hid (HGr.out.trans hG5)
        clear hO5 hG5 hce hfz hcl
        generalize wr.setCells g0 (i * 2) us = w5 at *
        have hjd : decide ((xs.length : Int) < (xs.length : Int)) = false := by simp
        go_wp2_with fail
        go_ret
        exact ⟨by rw [hRl.out]; rfl, by rw [hRl.out, hR2.out]; exact HO5.out, HG5.out⟩
end Go.Proofs.Yteflpdfajfljfaa
