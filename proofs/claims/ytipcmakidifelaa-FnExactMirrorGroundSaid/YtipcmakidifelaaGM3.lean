/-
MirrorGround, of the reference. Conditions: numbers are of their kinds; slices can be read.
-/
import Derived.Test.YtipcmakidifelaaGM2
set_option linter.unusedVariables false
set_option linter.unusedSimpArgs false
set_option maxRecDepth 100000
namespace Go.Proofs.Ytipcmakidifelaa
open Go.RowKit
theorem bk_cell1 {w : World} {g : Nat} {T : TypeId} {x : Cell} (h : Bk w g T #[.int .i8 x.x, .int .i8 x.y]) : Sl w w.heap.size Cell.c 2 (.slice (some ⟨g, 0, none⟩) 1 1) [x] := by
  refine ⟨_, 1, rfl, Nat.le_refl _, by simp, fun _ => ⟨g, 0, rfl, h.lt, fun i y hy j u hu => ?_⟩⟩
  match i, hy with
  | 0, hy =>
    simp at hy
    subst hy
    match j, hu with
    | 0, hu => simp [Cell.c] at hu; subst hu; exact h.cell 0 _ rfl
    | 1, hu => simp [Cell.c] at hu; subst hu; exact h.cell 1 _ rfl
    | j + 2, hu => simp [Cell.c] at hu
  | i + 1, hy => simp at hy
theorem build2G (w h : Int) (W : World) : (Instr.build 36 #[(0, .int .i8 w), (1, .int .i8 h)]).run Try.prog W = .ok (.agg (gdA w h z81 (.slice none 0 0))) W := by kernel_rfl
theorem wpList_build_w {P : Program} {ops : Array Oper} {rest : List Oper} {o : Oper} {a : Act} {w : World} {Q : Exit → Act → World → Prop} (hgd : o.guard = none) (ty : TypeId) (parts : Array (Nat × Operand)) (ho : o.op = .build ty parts) (ps : Array (Nat × Value)) (v : Value)
    (h : (Instr.build ty ps).run P w = .ok v w) (hx : (parts.map fun (i, x) => (i, a.eval x)) = ps) (hK : wpList P ops Q rest (a.put o.dst v) w) : wpList P ops Q (o :: rest) a w := by
  refine wpList_plain hgd fun K' hK' => ?_
  unfold Oper.wp
  rw [exec_build ho h hx]
  exact hK' _ _ hK
theorem Bk.grownW {w w' : World} {g : Nat} {T : TypeId} {cs : Array Value} {vb : Option Nat} (h : Bk w g T cs) (hG : w.grownBy w' vb) (hne : vb = some g → False) : Bk w' g T cs := (hG.block g h.lt (fun e => hne e.symm)).trans h
theorem Bk.grownQ {h0 : Array Obj} {w1 w' : World} {g : Nat} {T : TypeId} {cs : Array Value} {vb : Option Nat} (hG : w1.grownBy w' vb) (H : ∀ w2 : World, w2.heap = h0 → Bk w2 g T cs) (he : w1.heap = h0) (hne : vb = some g → False) : Bk w' g T cs := (H w1 he).grownW hG hne
theorem below_grownQ {h0 : Array Obj} {a w0 w1 w' : World} {vb : Option Nat} (hG : w1.grownBy w' vb) (H : ∀ w2 : World, w2.heap = h0 → w2.os = w0.os → w2.tape = w0.tape → w2.output = w0.output → Below a.heap.size a w2) (he : w1.heap = h0) (h1 : w1.os = w0.os) (h2 : w1.tape = w0.tape) (h3 : w1.output = w0.output) (hj : ∀ j, vb = some j → a.heap.size ≤ j) : Below a.heap.size a w' := (H w1 he h1 h2 h3).grown hG (H w1 he h1 h2 h3).size hj
theorem Own.grownQ {α : Type} {h0 : Array Obj} {w1 w' : World} {B : Nat} {E : TypeId} {c : α → List Value} {sz : Nat} {v : Value} {xs : List α} {vb : Option Nat} (hG : w1.grownBy w' vb) (H : ∀ w2 : World, w2.heap = h0 → Own w2 B E c sz v xs) (he : w1.heap = h0) (hd : ∀ j, v.ownBlock = some j → vb = some j → False) : Own w' B E c sz v xs := (H w1 he).keep fun j hj => hG.block j ((H w1 he).lt j hj) (fun e => hd j hj e.symm)
theorem size_grownQ {h0 : Array Obj} {w1 w' : World} {n : Nat} {vb : Option Nat} (hG : w1.grownBy w' vb) (H : n ≤ h0.size) (he : w1.heap = h0) : n ≤ w'.heap.size := Nat.le_trans (by rw [he]; exact H) hG.size
theorem gdA_seth (w h : Int) (L : List Int) (hl : L.length = 81) (z : Value) (a b : Nat) (ha : a < 9) (hb : b < 9) (n : Int) : (gdA w h L z).setIfInBounds (2 + b * 9 + a) (.int .i16 n) = gdA w h (L.set (idxC ⟨(a : Int), (b : Int)⟩) n) z := by
  apply Array.ext'
  rw [idxC_nat]
  have e : 2 + b * 9 + a = (b * 9 + a) + 1 + 1 := by omega
  simp only [gdA, e, Array.toList_setIfInBounds, List.cons_append, List.nil_append, List.set_cons_succ]
  rw [List.set_append_left _ _ (by simp; omega), List.map_set]
abbrev MgS (b2 o : Nat) (q : Cell) (w' : World) : Prop := w'.cell? ⟨b2, o, none⟩ = some (.int .i8 q.x) ∧ w'.cell? ⟨b2, o + 1, none⟩ = some (.int .i8 q.y)
abbrev MrS (b2 o nb g i : Nat) (q m : Cell) (n : Int) (w' : World) : Prop := w'.cell? ⟨b2, o, none⟩ = some (.int .i8 q.x) ∧ w'.cell? ⟨b2, o + 1, none⟩ = some (.int .i8 q.y) ∧ w'.cell? ⟨nb, 0, none⟩ = some (.int .i8 m.x) ∧ w'.cell? ⟨nb, 1, none⟩ = some (.int .i8 m.y) ∧ w'.cell? ⟨g, i, none⟩ = some (.int .i16 n)
theorem MrS.at_ {w w' : World} {b2 o nb g i : Nat} {q m : Cell} {n : Int} (h : MrS b2 o nb g i q m n w) (he : w'.heap = w.heap) : MrS b2 o nb g i q m n w' := by
  have hc : ∀ p, w'.cell? p = w.cell? p := fun p => by simp only [World.cell?, he]
  exact ⟨(hc _).trans h.1, (hc _).trans h.2.1, (hc _).trans h.2.2.1, (hc _).trans h.2.2.2.1, (hc _).trans h.2.2.2.2⟩
theorem MrS.set {w : World} {b2 o nb g i : Nat} {q m : Cell} {n : Int} (h : MrS b2 o nb g i q m n w) (X o' : Nat) (u : Value) (h1 : b2 ≠ X) (h2 : nb ≠ X) (h3 : g ≠ X) : MrS b2 o nb g i q m n (w.setCell ⟨X, o', none⟩ u) := by
  have hc : ∀ b, b ≠ X → ∀ o, (w.setCell ⟨X, o', none⟩ u).cell? ⟨b, o, none⟩ = w.cell? ⟨b, o, none⟩ := fun b hb o => by simp only [World.cell?, Below.heap_setCell w ⟨X, o', none⟩ u b hb]
  exact ⟨(hc _ h1 _).trans h.1, (hc _ h1 _).trans h.2.1, (hc _ h2 _).trans h.2.2.1, (hc _ h2 _).trans h.2.2.2.1, (hc _ h3 _).trans h.2.2.2.2⟩
theorem MgS.at_ {w w' : World} {b2 o : Nat} {q : Cell} (h : MgS b2 o q w) (he : w'.heap = w.heap) : MgS b2 o q w' := by
  have hc : ∀ p, w'.cell? p = w.cell? p := fun p => by simp only [World.cell?, he]
  exact ⟨(hc _).trans h.1, (hc _).trans h.2⟩
theorem MgS.mk2 {T : TypeId} {w' : World} {B : Nat} {xs : List Cell} {b2 o2 cap : Nat} (h : Own w' B T Cell.c 2 (.slice (some ⟨b2, o2, none⟩) xs.length cap) xs) (k : Nat) (hk : k < xs.length) : MgS b2 (o2 + k * 2) xs[k] w' := by
  obtain ⟨A, c, hv, -, -, hcell⟩ := (h.sl Cell.c_len).cell
  obtain ⟨b, o, hA, hb, h0, h1⟩ := hcell k hk
  injection hv with e1 e2 e3
  subst hA
  injection e1 with e1
  injection e1 with e1 e4
  subst e1; subst e4
  exact ⟨h0, h1⟩
theorem MgS.set {w : World} {b2 o : Nat} {q : Cell} (h : MgS b2 o q w) (g o' : Nat) (u : Value) (hne : b2 ≠ g) : MgS b2 o q (w.setCell ⟨g, o', none⟩ u) := by
  have hb := Below.heap_setCell w ⟨g, o', none⟩ u b2 hne
  have hc : ∀ o, (w.setCell ⟨g, o', none⟩ u).cell? ⟨b2, o, none⟩ = w.cell? ⟨b2, o, none⟩ := fun o => by simp only [World.cell?, hb]
  exact ⟨(hc _).trans h.1, (hc _).trans h.2⟩
set_option maxHeartbeats 2000000 in
theorem specMirrorGround_calls (w h : Int) (hs : List Int) (gl : List Cell) (z : Value) (W : World) (hq : GdIn W w h hs gl z) :
    Calls Try.prog 29 #[.agg (gdA w h hs z)] W (RetG1 W (mirG w h hs gl)) := by
  have hB := ext_alloc ((Below.refl W.heap.size W).alloc (Nat.le_refl _) (.cells (gdA w h hs z) 36)) (.cells Try.zeroCells36 36)
  have HB := Lib.hid hB
  have KG := Lib.hid ((Bk.new W 36 (gdA w h hs z) W.heap.size rfl).alloc (.cells Try.zeroCells36 36))
  have KR := Lib.hid (Bk.new (W.alloc (.cells (gdA w h hs z) 36)) 36 Try.zeroCells36 (W.heap.size + 1) (by simp))
  have hl := hq.hl
  have HQ := Lib.hid hq
  have qo := Lib.hid (sOkG_calls W.heap.size _ w h hq.w0 hq.w1 hq.h0 hq.h1 hs hq.hl hq.h16 gl z hq.ok _ KG.out (hq.sl.ext hB))
  have hzg := Lib.hid zeroG
  clear hB hq
  go_enter Try.func29, Try.ntmps29
  go_wp2_with fail
  refine qo.out.mono ?_
  rintro e w1 ⟨rfl, hb1⟩
  have HB1 := Lib.hid (ext_trans HB.out hb1)
  have KG1 := Lib.hid (KG.out.ext hb1)
  have KR1 := Lib.hid (KR.out.ext hb1)
  clear hb1 qo
  cases hk : gOk w h hs gl
  · have hE := Lib.hid (show mirG w h hs gl = ⟨⟨0, 0, z81, []⟩, 0, 1⟩ from if_neg (by rw [hk]; decide))
    clear hk
    go_wp2_with (refine wpList_store_m rfl 36 (.tmp 2) (.tmp 10) rfl _ 0 Try.zeroCells36 rfl rfl _ _ KR1.out (by omega) (by rw [zG_size]; exact gd_sz _) (by rw [hzg.out]; exact gdA_one _ _ _ _ _ _) ?_)
    intro w9 hK9 hG9
    rw [writeAt_all _ _ rfl] at hK9
    have HK9 := Lib.hid (show Bk w9 (W.heap.size + 1) 36 (gdA 0 0 z81 (.slice none 0 0)) from by rw [← hzg.out]; simpa using hK9)
    have HB9 := Lib.hid (HB1.out.grown hG9 HB1.out.size (fun j hj => by injection hj with hj; omega))
    clear hK9 hG9
    go_wp2_with fail
    exact cellret2 Try.results29 rfl rfl (load_gd z81_len HK9.out) rfl ⟨.slice none 0 0, by rw [hE.out]; rfl, by rw [hE.out]; exact Own.nil_ _ _ _ _ _, HB9.out⟩
  · have hE := Lib.hid (show mirG w h hs gl = ⟨⟨w, h, mirH w h hs, mirL w h gl⟩, 0, 0⟩ from if_pos hk)
    have ok := gOk_ok hk
    have hml := Lib.hid (mirL_len hk)
    clear hk
    have ok1 := ok.w0
    have ok2 := ok.w1
    have ok3 := ok.h0
    have ok4 := ok.h1
    have k0 := KG1.out.cell 0 _ (gdA_0 _ _ _ _)
    have k1 := KG1.out.cell 1 _ (gdA_1 _ _ _ _)
    have hbd := build2G w h w1
    have KX1 := Lib.hid (Bk.new w1 36 Try.zeroCells36 w1.heap.size rfl)
    have KG1a := Lib.hid (KG1.out.alloc (.cells Try.zeroCells36 36))
    have KR1a := Lib.hid (KR1.out.alloc (.cells Try.zeroCells36 36))
    have HB1a := Lib.hid (HB1.out.alloc HB1.out.size (.cells Try.zeroCells36 36))
    have hWX := Lib.hid (show W.heap.size + 1 < w1.heap.size from KR1.out.lt)
    go_wp2_with (first | (refine wpList_build_w rfl 36 _ rfl _ _ hbd (by simp only [List.map_toArray, List.map_cons, List.map_nil]; rfl) ?_) | (refine wpList_store_m rfl 36 (.tmp 4) (.tmp 15) rfl _ 0 (gdA w h z81 (.slice none 0 0)) rfl rfl _ _ KX1.out (by rw [gdA_size _ _ _ _ z81_len, zG_size]; omega) (by rw [gdA_size _ _ _ _ z81_len]; exact gd_sz _) (gdA_one _ _ _ _ _ _) ?_))
    intro w2 hK2 hG2
    rw [gdA_zero _ _ _ z81_len] at hK2
    have KX2 := Lib.hid hK2
    have KG2 := Lib.hid (KG1a.out.grownM hG2 (by have := hWX.out; omega))
    have KR2 := Lib.hid (KR1a.out.grownM hG2 (by have := hWX.out; omega))
    have HB2 := Lib.hid (HB1a.out.grown hG2 HB1a.out.size (fun j hj => by injection hj with hj; have := hWX.out; omega))
    clear hK2 hG2 KX1 KG1 KR1 KG1a KR1a HB1 HB1a k0 k1 hbd
    generalize w1.heap.size = X at *
    have hX2 := Lib.hid KX2.out.lt
    have e1 : ((w.toNat : Nat) : Int) = w := by omega
    have e2 : ((h.toNat : Nat) : Int) = h := by omega
    have qa := Lib.hid (sAll_calls W.heap.size 36 w.toNat h.toNat (by omega) (by omega) hs z w2 (by rw [e1, e2]; exact KG2.out))
    have hpt := Lib.hid (fun c (hcm : c ∈ ptsG w.toNat h.toNat) => show gpB w h c = true from by have := ptsG_pt _ _ c hcm; rwa [e1, e2] at this)
    have hmm := Lib.hid (fun c (hc : gpB w h c = true) => show c ∈ ptsG w.toNat h.toNat from mem_ptsG _ _ _ (by rw [e1, e2]; exact hc))
    have hpl := Lib.hid (show (ptsG w.toNat h.toNat).length ≤ 81 from by
      rw [ptsG_len]
      have : h.toNat * w.toNat ≤ 9 * 9 := Nat.mul_le_mul (by omega) (by omega)
      omega)
    have hmL := Lib.hid (show mirL w h gl = (ptsG w.toNat h.toNat).filter (fun p => decide (mirC w p ∈ gl)) from rfl)
    generalize ptsG w.toNat h.toNat = xs at *
    clear e1 e2
    go_wp2_with fail
    refine qa.out.mono ?_
    rintro e w3 ⟨v3, rfl, hO3, hb3⟩
    obtain ⟨A3, cap3, rfl, -, -, -⟩ := (hO3.sl Cell.c_len).cell
    have HL3 := Lib.hid hO3
    have HB3 := Lib.hid (ext_trans HB2.out hb3)
    have KG3 := Lib.hid (KG2.out.ext hb3)
    have KR3 := Lib.hid (KR2.out.ext hb3)
    have KX3 := Lib.hid (KX2.out.ext hb3)
    have hXB := Lib.hid KX3.out.lt
    have hdis := Lib.hid (fun j (hj : (Value.slice A3 xs.length cap3).ownBlock = some j) => hO3.lt j hj)
    clear hO3 hb3 qa HB2 KG2 KR2 KX2
    obtain ⟨B0, hB0⟩ : ∃ B0, B0 = w3.heap.size := ⟨_, rfl⟩
    rw [← hB0] at hXB hdis
    have HB0 := Lib.hid (show B0 ≤ w3.heap.size from Nat.le_of_eq hB0)
    clear hB0
    go_wp2_with fail
    go_loopw [6] (fun i wr => ∃ (k : Nat) (L : List Int) (v : Value), k ≤ xs.length ∧ i = .int .i64 (k : Int) ∧ L.length = 81 ∧ (∀ i, i < 81 → gpB w h (cellOf i) = false → L.getD i 0 = 0) ∧ (∀ j (hj : j < xs.length), j < k → htL L xs[j] = htL hs (mirC w xs[j])) ∧ Own wr B0 38 Cell.c 2 v ((xs.take k).filter (fun p => decide (mirC w p ∈ gl))) ∧ Bk wr X 36 (gdA w h L v) ∧ Bk wr W.heap.size 36 (gdA w h hs z) ∧ Bk wr (W.heap.size + 1) 36 Try.zeroCells36 ∧ Own wr w2.heap.size 38 Cell.c 2 (.slice A3 xs.length cap3) xs ∧ Below W.heap.size W wr ∧ B0 ≤ wr.heap.size) (fun i _ => xs.length - (intOf i).toNat)
    case atStart => exact ⟨0, z81, .slice none 0 0, by omega, rfl, z81_len', zeros_zero w h, fun j hj hj2 => by omega, by simpa using Own.nil_ _ _ _ _ _, KX3.out, KG3.out, KR3.out, HL3.out, HB3.out, HB0.out⟩
    case round =>
      clear KX3 KG3 KR3 HL3 HB3 HB0
      obtain ⟨k, L, v, hk, rfl, hLl, hz0, hin, hO, hX, hG, hR, hP, hb, hsz⟩ := hrel
      have hLl := Lib.hid hLl
      have HZ0 := Lib.hid hz0
      have HIN := Lib.hid hin
      have HO := Lib.hid hO
      have HX := Lib.hid hX
      have HG := Lib.hid hG
      have HR := Lib.hid hR
      have HP := Lib.hid hP
      have HBr := Lib.hid hb
      have hBW := Lib.hid hsz
      clear hz0 hin hO hX hG hR hP hb hsz
      have hp81 := hpl.out
      by_cases hlt : k < xs.length
      · obtain ⟨A4, cap4, hv, -, -, hcell⟩ := (HP.out.sl Cell.c_len).cell
        obtain ⟨rfl, rfl⟩ : A3 = A4 ∧ cap3 = cap4 := by injection hv with e1 e2 e3; exact ⟨e1, e3⟩
        obtain ⟨b2, o2, rfl, hbb, c0, c1⟩ := hcell k hlt
        have hst := Lib.hid (fill_step (f := fun c => htL hs (mirC w c)) ok2 ok4 hLl.out HZ0.out hpt.out k hlt HIN.out)
        have hfi := Lib.hid (filt_take_succ (fun p => decide (mirC w p ∈ gl)) xs k hlt)
        have hle := Lib.hid (show ((xs.take k).filter (fun p => decide (mirC w p ∈ gl))).length ≤ 81 from Nat.le_trans (List.length_filter_le _ _) (by simp; omega))
        have hqpt := Lib.hid (hpt.out xs[k] (List.getElem_mem hlt))
        have hkd : decide ((k : Int) < (xs.length : Int)) = true := by rw [decide_eq_true_eq]; omega
        have hk0 : (0 : Int) ≤ (k : Int) := by omega
        have hk1 : (k : Int) < (xs.length : Int) := by omega
        obtain ⟨q, hqe⟩ : ∃ q, xs[k] = q := ⟨_, rfl⟩
        have hqe2 := Lib.hid hqe
        rw [hqe] at hst hqpt c0 c1 hfi
        clear hcell hv hqe
        obtain ⟨a, b, ha, hb, rfl⟩ := pt_nat ok2 ok4 hqpt.out
        have hmp := mir_pt hqpt.out
        have hax := (gpB_true.1 hqpt.out)
        simp only at hax
        obtain ⟨a2, ha2⟩ : ∃ a2 : Nat, w - 1 - (a : Int) = (a2 : Int) := ⟨(w - 1 - (a : Int)).toNat, by omega⟩
        have hme : mirC w ⟨(a : Int), (b : Int)⟩ = ⟨(a2 : Int), (b : Int)⟩ := by unfold mirC; rw [ha2]
        rw [hme] at hmp
        simp only [hme] at hst hfi
        have ha29 : a2 < 9 := by omega
        have w8a : IntKind.i8.wrap (w - 1) = w - 1 := wrap8In _ (by omega) (by omega)
        have w8b : IntKind.i8.wrap (w - 1 - (a : Int)) = (a2 : Int) := by rw [ha2]; exact wrap8In _ (by omega) (by omega)
        clear hax ha2 hme
        have HG5 := Lib.hid (HG.out.alloc (.cells #[.int .i8 0, .int .i8 0] 38))
        have HP5 := Lib.hid (HP.out.alloc (.cells #[.int .i8 0, .int .i8 0] 38))
        have HN5 := Lib.hid (Bk.new wr 38 #[.int .i8 0, .int .i8 0] wr.heap.size rfl)
        have hba := (Below.refl wr.heap.size wr).alloc (Nat.le_refl _) (.cells #[.int .i8 0, .int .i8 0] 38)
        have hbb2 : b2 < wr.heap.size := hbb
        have d0 := (hba.cell (p := ⟨b2, _, none⟩) hbb2).trans c0
        have d1 := (hba.cell (p := ⟨b2, _, none⟩) hbb2).trans c1
        have g0 := HG5.out.cell 0 _ (gdA_0 _ _ _ _)
        have g0w := HG.out.cell 0 _ (gdA_0 _ _ _ _)
        have n0 := HN5.out.cell 0 _ rfl
        have n1 := HN5.out.cell 1 _ rfl
        have f0 := HN5.out.frz 0
        have f1 := HN5.out.frz 1
        clear hba
        go_wp2_with fail
        go_region
        all_goals
          go_wp2_with fail
          clear d0 d1 g0 g0w n0 n1 f0 f1 c0 c1 HG5 HP5 HN5
          have HO6 := Lib.hid (own_at (w' := (wr.alloc (.cells #[.int .i8 (a2 : Int), .int .i8 (b : Int)] 38)).drew) (HO.out.alloc _) rfl)
          have HP6 := Lib.hid (own_at (w' := (wr.alloc (.cells #[.int .i8 (a2 : Int), .int .i8 (b : Int)] 38)).drew) (HP.out.alloc _) rfl)
          have HX6 := Lib.hid ((HX.out.alloc (.cells #[.int .i8 (a2 : Int), .int .i8 (b : Int)] 38)).drw)
          have HG6 := Lib.hid ((HG.out.alloc (.cells #[.int .i8 (a2 : Int), .int .i8 (b : Int)] 38)).drw)
          have HR6 := Lib.hid ((HR.out.alloc (.cells #[.int .i8 (a2 : Int), .int .i8 (b : Int)] 38)).drw)
          have HN6 := Lib.hid ((Bk.new wr 38 #[.int .i8 (a2 : Int), .int .i8 (b : Int)] wr.heap.size rfl).drw)
          have HB6 := Lib.hid ((HBr.out.alloc HBr.out.size (.cells #[.int .i8 (a2 : Int), .int .i8 (b : Int)] 38)).drew)
          have hsz6 := Lib.hid (show B0 ≤ ((wr.alloc (.cells #[.int .i8 (a2 : Int), .int .i8 (b : Int)] 38)).drew).heap.size from Nat.le_trans hBW.out (show wr.heap.size ≤ (wr.alloc (.cells #[.int .i8 (a2 : Int), .int .i8 (b : Int)] 38)).heap.size from by simp))
          have hXn := Lib.hid (show X < wr.heap.size from HX.out.lt)
          generalize (wr.alloc (.cells #[.int .i8 (a2 : Int), .int .i8 (b : Int)] 38)).drew = w6 at *
          generalize wr.heap.size = nb at *
          clear HO HP HX HG HR HBr hBW hbb2 hbb
          have hS6 := MgS.mk2 HP6.out k hlt
          rw [hqe2.out] at hS6
          obtain ⟨c0, c1⟩ := hS6
          have n0 := HN6.out.cell 0 _ rfl
          have n1 := HN6.out.cell 1 _ rfl
          have i0 : (a : Int) < 9 := by omega
          have i1 : (b : Int) < 9 := by omega
          have i2 : (a2 : Int) < 9 := by omega
          have hh := HG6.out.ht hl a2 b ha29 hb
          have hx := HX6.out.ht hLl.out a b ha hb
          have fx := HX6.out.frz (2 + b * 9 + a)
          have hLl2 := Lib.hid hst.out.1
          have hse := Lib.hid (fun n => gdA_seth w h L hLl.out v a b ha hb n)
          generalize htL hs ⟨(a2 : Int), (b : Int)⟩ = n at *
          generalize htL L ⟨(a : Int), (b : Int)⟩ = old at *
          have hmr : MrS b2 (o2 + k * 2) nb W.heap.size (2 + b * 9 + a2) ⟨(a : Int), (b : Int)⟩ ⟨(a2 : Int), (b : Int)⟩ n w6 := ⟨c0, c1, n0, n1, hh⟩
          have HSr := Lib.hid (fun (w' : World) (he : w'.heap = w6.heap) => hmr.at_ he)
          have hms := hmr.set X (2 + b * 9 + a) (.int .i16 n) (fun e => by have h1 := HP6.out.base b2 rfl; have h2 := hX2.out; omega) (by have := hXn.out; omega) (by have := hWX.out; omega)
          have HSs := Lib.hid (fun (w' : World) (he : w'.heap = (w6.setCell ⟨X, 2 + b * 9 + a, none⟩ (.int .i16 n)).heap) => hms.at_ he)
          clear hmr hms
          refine wp_region_held_drew (S := (MrS b2 (o2 + k * 2) nb W.heap.size (2 + b * 9 + a2) ⟨(a : Int), (b : Int)⟩ ⟨(a2 : Int), (b : Int)⟩ n)) (by kernel_rfl) ?r1_hS0 (fun hHeld => ?r1_rest)
          case r1_hS0 => (try dsimp only); first | assumption | exact HSr.out _ rfl | exact HSs.out _ rfl
          refine wpAnyH_take (i := 0) (v := ?r1_vv0) (by (simp only [List.getElem?_toArray, List.getElem?_cons_succ, List.getElem?_cons_zero]; rfl)) (by kernel_rfl) (by kernel_rfl) (by kernel_rfl) (by exact fun _ _ _ h => h) (Or.inl ⟨by rfl, ?r1_hy0⟩) (by assumption) ?r1_rest0
          case r1_hy0 => intro w hSw; (try dsimp only at hSw); (go_simp <;> (with_reducible rfl))
          try simp only [Act.put, List.setIfInBounds_toArray, List.set_cons_zero, List.set_cons_succ]
          refine wpAnyH_take (i := 1) (v := ?r1_vv1) (by (simp only [List.getElem?_toArray, List.getElem?_cons_succ, List.getElem?_cons_zero]; rfl)) (by kernel_rfl) (by kernel_rfl) (by kernel_rfl) (by exact fun _ _ _ h => h) (Or.inl ⟨by rfl, ?r1_hy1⟩) (by assumption) ?r1_rest1
          case r1_hy1 => intro w hSw; (try dsimp only at hSw); (go_simp <;> (with_reducible rfl))
          try simp only [Act.put, List.setIfInBounds_toArray, List.set_cons_zero, List.set_cons_succ]
          refine wpAnyH_take (i := 2) (v := ?r1_vv2) (by (simp only [List.getElem?_toArray, List.getElem?_cons_succ, List.getElem?_cons_zero]; rfl)) (by kernel_rfl) (by kernel_rfl) (by kernel_rfl) (by exact fun _ _ _ h => h) (Or.inl ⟨by rfl, ?r1_hy2⟩) (by assumption) ?r1_rest2
          case r1_hy2 => intro w hSw; (try dsimp only at hSw); (go_simp <;> (with_reducible rfl))
          try simp only [Act.put, List.setIfInBounds_toArray, List.set_cons_zero, List.set_cons_succ]
          refine wpAnyH_take (i := 3) (v := ?r1_vv3) (by (simp only [List.getElem?_toArray, List.getElem?_cons_succ, List.getElem?_cons_zero]; rfl)) (by kernel_rfl) (by kernel_rfl) (by kernel_rfl) (by exact fun _ _ _ h => h) (Or.inl ⟨by rfl, ?r1_hy3⟩) (by assumption) ?r1_rest3
          case r1_hy3 => intro w hSw; (try dsimp only at hSw); (go_simp <;> (with_reducible rfl))
          try simp only [Act.put, List.setIfInBounds_toArray, List.set_cons_zero, List.set_cons_succ]
          refine wpAnyH_take (i := 4) (v := ?r1_vv4) (by (simp only [List.getElem?_toArray, List.getElem?_cons_succ, List.getElem?_cons_zero]; rfl)) (by kernel_rfl) (by kernel_rfl) (by kernel_rfl) (by exact fun _ _ _ h => h) (Or.inl ⟨by rfl, ?r1_hy4⟩) (by assumption) ?r1_rest4
          case r1_hy4 => intro w hSw; (try dsimp only at hSw); (go_simp <;> (with_reducible rfl))
          try simp only [Act.put, List.setIfInBounds_toArray, List.set_cons_zero, List.set_cons_succ]
          refine wpAnyH_take (i := 5) (v := ?r1_vv5) (by (simp only [List.getElem?_toArray, List.getElem?_cons_succ, List.getElem?_cons_zero]; rfl)) (by kernel_rfl) (by kernel_rfl) (by kernel_rfl) (by exact fun _ _ _ h => h) (Or.inl ⟨by rfl, ?r1_hy5⟩) (by assumption) ?r1_rest5
          case r1_hy5 => intro w hSw; (try dsimp only at hSw); (go_simp <;> (with_reducible rfl))
          try simp only [Act.put, List.setIfInBounds_toArray, List.set_cons_zero, List.set_cons_succ]
          refine wpAnyH_take (i := 6) (v := ?r1_vv6) (by (simp only [List.getElem?_toArray, List.getElem?_cons_succ, List.getElem?_cons_zero]; rfl)) (by kernel_rfl) (by kernel_rfl) (by kernel_rfl) (by exact fun _ _ _ h => h) (Or.inl ⟨by rfl, ?r1_hy6⟩) (by assumption) ?r1_rest6
          case r1_hy6 => intro w hSw; (try dsimp only at hSw); (go_simp <;> (with_reducible rfl))
          try simp only [Act.put, List.setIfInBounds_toArray, List.set_cons_zero, List.set_cons_succ]
          refine wpAnyH_take (i := 7) (v := ?r1_vv7) (by (simp only [List.getElem?_toArray, List.getElem?_cons_succ, List.getElem?_cons_zero]; rfl)) (by kernel_rfl) (by kernel_rfl) (by kernel_rfl) (by exact fun _ _ _ h => h) (Or.inl ⟨by rfl, ?r1_hy7⟩) (by assumption) ?r1_rest7
          case r1_hy7 => intro w hSw; (try dsimp only at hSw); (go_simp <;> (with_reducible rfl))
          try simp only [Act.put, List.setIfInBounds_toArray, List.set_cons_zero, List.set_cons_succ]
          refine wpAnyH_take (i := 8) (v := ?r1_vv8) (by (simp only [List.getElem?_toArray, List.getElem?_cons_succ, List.getElem?_cons_zero]; rfl)) (by kernel_rfl) (by kernel_rfl) (by kernel_rfl) (by exact fun _ _ _ h => h) (Or.inl ⟨by rfl, ?r1_hy8⟩) (by assumption) ?r1_rest8
          case r1_hy8 => intro w hSw; (try dsimp only at hSw); (go_simp <;> (with_reducible rfl))
          try simp only [Act.put, List.setIfInBounds_toArray, List.set_cons_zero, List.set_cons_succ]
          refine wpAnyH_take (i := 9) (v := ?r1_vv9) (by (simp only [List.getElem?_toArray, List.getElem?_cons_succ, List.getElem?_cons_zero]; rfl)) (by kernel_rfl) (by kernel_rfl) (by kernel_rfl) (by exact fun _ _ _ h => h) (Or.inl ⟨by rfl, ?r1_hy9⟩) (by assumption) ?r1_rest9
          case r1_hy9 => intro w hSw; (try dsimp only at hSw); (go_simp <;> (with_reducible rfl))
          try simp only [Act.put, List.setIfInBounds_toArray, List.set_cons_zero, List.set_cons_succ]
          refine wpAnyH_take (i := 10) (v := ?r1_vv10) (by (simp only [List.getElem?_toArray, List.getElem?_cons_succ, List.getElem?_cons_zero]; rfl)) (by kernel_rfl) (by kernel_rfl) (by kernel_rfl) (by exact fun _ _ _ h => h) (Or.inl ⟨by rfl, ?r1_hy10⟩) (by assumption) ?r1_rest10
          case r1_hy10 => intro w hSw; (try dsimp only at hSw); (go_simp <;> (with_reducible rfl))
          try simp only [Act.put, List.setIfInBounds_toArray, List.set_cons_zero, List.set_cons_succ]
          refine wpAnyH_take (i := 11) (v := ?r1_vv11) (by (simp only [List.getElem?_toArray, List.getElem?_cons_succ, List.getElem?_cons_zero]; rfl)) (by kernel_rfl) (by kernel_rfl) (by kernel_rfl) (by exact fun _ _ _ h => h) (Or.inl ⟨by rfl, ?r1_hy11⟩) (by assumption) ?r1_rest11
          case r1_hy11 => intro w hSw; (try dsimp only at hSw); (go_simp <;> (with_reducible rfl))
          try simp only [Act.put, List.setIfInBounds_toArray, List.set_cons_zero, List.set_cons_succ]
          refine wpAnyH_take (i := 12) (v := ?r1_vv12) (by (simp only [List.getElem?_toArray, List.getElem?_cons_succ, List.getElem?_cons_zero]; rfl)) (by kernel_rfl) (by kernel_rfl) (by kernel_rfl) (by exact fun _ _ _ h => h) (Or.inl ⟨by rfl, ?r1_hy12⟩) (by assumption) ?r1_rest12
          case r1_hy12 => intro w hSw; (try dsimp only at hSw); (go_simp <;> (with_reducible rfl))
          try simp only [Act.put, List.setIfInBounds_toArray, List.set_cons_zero, List.set_cons_succ]
          refine wpAnyH_take (i := 13) (v := ?r1_vv13) (by (simp only [List.getElem?_toArray, List.getElem?_cons_succ, List.getElem?_cons_zero]; rfl)) (by kernel_rfl) (by kernel_rfl) (by kernel_rfl) (by exact fun _ _ _ h => h) (Or.inl ⟨by rfl, ?r1_hy13⟩) (by assumption) ?r1_rest13
          case r1_hy13 => intro w hSw; (try dsimp only at hSw); (go_simp <;> (with_reducible rfl))
          try simp only [Act.put, List.setIfInBounds_toArray, List.set_cons_zero, List.set_cons_succ]
          refine wpAnyH_take (i := 14) (v := ?r1_vv14) (by (simp only [List.getElem?_toArray, List.getElem?_cons_succ, List.getElem?_cons_zero]; rfl)) (by kernel_rfl) (by kernel_rfl) (by kernel_rfl) (by exact fun _ _ _ h => h) (Or.inl ⟨by rfl, ?r1_hy14⟩) (by assumption) ?r1_rest14
          case r1_hy14 => intro w hSw; (try dsimp only at hSw); (go_simp <;> (with_reducible rfl))
          try simp only [Act.put, List.setIfInBounds_toArray, List.set_cons_zero, List.set_cons_succ]
          refine wpAnyH_take (i := 15) (v := ?r1_vv15) (by (simp only [List.getElem?_toArray, List.getElem?_cons_succ, List.getElem?_cons_zero]; rfl)) (by kernel_rfl) (by kernel_rfl) (by kernel_rfl) (by exact fun _ _ _ h => h) (Or.inl ⟨by rfl, ?r1_hy15⟩) (by assumption) ?r1_rest15
          case r1_hy15 => intro w hSw; (try dsimp only at hSw); (go_simp <;> (with_reducible rfl))
          try simp only [Act.put, List.setIfInBounds_toArray, List.set_cons_zero, List.set_cons_succ]
          refine wpAnyH_take (i := 16) (v := ?r1_vv16) (by (simp only [List.getElem?_toArray, List.getElem?_cons_succ, List.getElem?_cons_zero]; rfl)) (by kernel_rfl) (by kernel_rfl) (by kernel_rfl) (by exact fun _ _ _ h => h) (Or.inl ⟨by rfl, ?r1_hy16⟩) (by assumption) ?r1_rest16
          case r1_hy16 => intro w hSw; (try dsimp only at hSw); (go_simp <;> (with_reducible rfl))
          try simp only [Act.put, List.setIfInBounds_toArray, List.set_cons_zero, List.set_cons_succ]
          refine wpAnyH_take (i := 17) (v := ?r1_vv17) (by (simp only [List.getElem?_toArray, List.getElem?_cons_succ, List.getElem?_cons_zero]; rfl)) (by kernel_rfl) (by kernel_rfl) (by kernel_rfl) (by exact fun _ _ _ h => h) (Or.inl ⟨by rfl, ?r1_hy17⟩) (by assumption) ?r1_rest17
          case r1_hy17 => intro w hSw; (try dsimp only at hSw); (go_simp <;> (with_reducible rfl))
          try simp only [Act.put, List.setIfInBounds_toArray, List.set_cons_zero, List.set_cons_succ]
          refine wpAnyH_take (i := 18) (v := ?r1_vv18) (by (simp only [List.getElem?_toArray, List.getElem?_cons_succ, List.getElem?_cons_zero]; rfl)) (by kernel_rfl) (by kernel_rfl) (by kernel_rfl) (by exact fun _ _ _ h => h) (Or.inl ⟨by rfl, ?r1_hy18⟩) (by assumption) ?r1_rest18
          case r1_hy18 => intro w hSw; (try dsimp only at hSw); (go_simp <;> (with_reducible rfl))
          try simp only [Act.put, List.setIfInBounds_toArray, List.set_cons_zero, List.set_cons_succ]
          refine wpAnyH_take (i := 19) (v := ?r1_vv19) (by (simp only [List.getElem?_toArray, List.getElem?_cons_succ, List.getElem?_cons_zero]; rfl)) (by kernel_rfl) (by kernel_rfl) (by kernel_rfl) (by exact fun _ _ _ h => h) (Or.inl ⟨by rfl, ?r1_hy19⟩) (by assumption) ?r1_rest19
          case r1_hy19 => intro w hSw; (try dsimp only at hSw); (go_simp <;> (with_reducible rfl))
          try simp only [Act.put, List.setIfInBounds_toArray, List.set_cons_zero, List.set_cons_succ]
          refine wpAnyH_take (i := 20) (v := ?r1_vv20) (by (simp only [List.getElem?_toArray, List.getElem?_cons_succ, List.getElem?_cons_zero]; rfl)) (by kernel_rfl) (by kernel_rfl) (by kernel_rfl) (by exact fun _ _ _ h => h) (Or.inl ⟨by rfl, ?r1_hy20⟩) (by assumption) ?r1_rest20
          case r1_hy20 => intro w hSw; (try dsimp only at hSw); (go_simp <;> (with_reducible rfl))
          try simp only [Act.put, List.setIfInBounds_toArray, List.set_cons_zero, List.set_cons_succ]
          refine wpAnyH_ready (rs := [21]) (by kernel_rfl) (by simp) ?_
          refine AllReadyH.cons (by (simp only [List.getElem?_toArray, List.getElem?_cons_succ, List.getElem?_cons_zero]; rfl)) (fun K hK => ?_) AllReadyH.nil
          go_simp
          skip
          try go_wp2_with fail
          refine hK.out _ _ ?r1_hS21 (fun hHeld => ?r1_r21)
          case r1_hS21 => (try dsimp only); first | assumption | exact HSr.out _ rfl | exact HSs.out _ rfl
          clear hK K
          try simp only [Act.put, List.setIfInBounds_toArray, List.set_cons_zero, List.set_cons_succ]
          refine wpAnyH_done (by kernel_rfl) ?_ _
          all_goals
            repeat clear hHeld
            have HX7 := Lib.hid ((HX6.out.set (2 + b * 9 + a) (.int .i16 n)).drw)
            rw [hse.out] at HX7
            have HG7 := Lib.hid ((HG6.out.oth (g' := X) (2 + b * 9 + a) (.int .i16 n) (by have := hWX.out; omega)).drw)
            have HR7 := Lib.hid ((HR6.out.oth (g' := X) (2 + b * 9 + a) (.int .i16 n) (by have := hWX.out; omega)).drw)
            have HN7 := Lib.hid ((HN6.out.oth (g' := X) (2 + b * 9 + a) (.int .i16 n) (by have := hXn.out; omega)).drw)
            have HO7 := Lib.hid (own_at (w' := (w6.setCell ⟨X, 2 + b * 9 + a, none⟩ (.int .i16 n)).drew) (HO6.out.keep (w' := w6.setCell ⟨X, 2 + b * 9 + a, none⟩ (.int .i16 n)) (fun j hj => by have h1 := HO6.out.base j hj; have h2 := hXB.out; rw [Below.heap_setCell _ _ _ _ (show j ≠ _ by simp; omega)])) rfl)
            have HP7 := Lib.hid (own_at (w' := (w6.setCell ⟨X, 2 + b * 9 + a, none⟩ (.int .i16 n)).drew) (HP6.out.keep (w' := w6.setCell ⟨X, 2 + b * 9 + a, none⟩ (.int .i16 n)) (fun j hj => by have h1 := HP6.out.base j hj; have h2 := hX2.out; rw [Below.heap_setCell _ _ _ _ (show j ≠ _ by simp; omega)])) rfl)
            have HB7 := Lib.hid ((HB6.out.setCell (p := ⟨X, 2 + b * 9 + a, none⟩) (by have := hWX.out; simp; omega) (.int .i16 n)).drew)
            have hsz7 := Lib.hid (show B0 ≤ ((w6.setCell ⟨X, 2 + b * 9 + a, none⟩ (.int .i16 n)).drew).heap.size from by have := hsz6.out; simpa [World.setCell] using this)
            generalize (w6.setCell ⟨X, 2 + b * 9 + a, none⟩ (.int .i16 n)).drew = w7 at *
            clear c0 c1 n0 n1 hh hx fx HX6 HG6 HR6 HN6 HO6 HP6 HB6 hsz6
            have n0 := HN7.out.cell 0 _ rfl
            have n1 := HN7.out.cell 1 _ rfl
            go_wp2_with fail
            have qg := Lib.hid (show Calls Try.prog 58 #[.pointer (some ⟨W.heap.size, 0, none⟩), .agg #[.int .i8 (a2 : Int), .int .i8 (b : Int)]] w7 _ from sgully_calls W.heap.size _ w h hs hl gl z ⟨(a2 : Int), (b : Int)⟩ w7 HG7.out (HQ.out.sl.ext HB7.out))
            have hfi2 := Lib.hid ((findI_ge (fun y => y == (⟨(a2 : Int), (b : Int)⟩ : Cell)) gl).trans (any_eq_mem gl ⟨(a2 : Int), (b : Int)⟩))
            refine qg.out.mono ?_
            rintro e w8 ⟨rfl, hb8⟩
            have HX8 := Lib.hid (HX7.out.ext hb8)
            have HG8 := Lib.hid (HG7.out.ext hb8)
            have HR8 := Lib.hid (HR7.out.ext hb8)
            have HO8 := Lib.hid (HO7.out.ext hb8)
            have HP8 := Lib.hid (HP7.out.ext hb8)
            have HB8 := Lib.hid (ext_trans HB7.out hb8)
            have hsz8 := Lib.hid (Nat.le_trans hsz7.out hb8.size)
            clear hb8 n0 n1 HX7 HG7 HR7 HN7 HO7 HP7 HB7 hsz7 qg
            generalize findI (fun y => y == (⟨(a2 : Int), (b : Int)⟩ : Cell)) gl = fi at *
            by_cases hin : (⟨(a2 : Int), (b : Int)⟩ : Cell) ∈ gl
            · have hd : decide (0 ≤ fi) = true := hfi2.out.trans (decide_eq_true hin)
              have hfi3 := Lib.hid (hfi.out.trans (if_pos (decide_eq_true hin)))
              clear hin
              generalize (xs.take k).filter (fun p => decide (mirC w p ∈ gl)) = out at *
              have cx := HX8.out.cell 83 _ (gdA_z _ _ _ _ hLl2.out)
              have HXa := Lib.hid (HX8.out.alloc (.cells #[.int .i8 (a : Int), .int .i8 (b : Int)] 38))
              have cxa := HXa.out.cell 83 _ (gdA_z _ _ _ _ hLl2.out)
              have HX8a := Lib.hid (fun (w' : World) (he : w'.heap = (w8.alloc (.cells #[.int .i8 (a : Int), .int .i8 (b : Int)] 38)).heap) => HXa.out.at_ he)
              have HG8a := Lib.hid (fun (w' : World) (he : w'.heap = (w8.alloc (.cells #[.int .i8 (a : Int), .int .i8 (b : Int)] 38)).heap) => (HG8.out.alloc (.cells #[.int .i8 (a : Int), .int .i8 (b : Int)] 38)).at_ he)
              have HR8a := Lib.hid (fun (w' : World) (he : w'.heap = (w8.alloc (.cells #[.int .i8 (a : Int), .int .i8 (b : Int)] 38)).heap) => (HR8.out.alloc (.cells #[.int .i8 (a : Int), .int .i8 (b : Int)] 38)).at_ he)
              have HO8a := Lib.hid (fun (w' : World) (he : w'.heap = (w8.alloc (.cells #[.int .i8 (a : Int), .int .i8 (b : Int)] 38)).heap) => own_at (HO8.out.alloc (.cells #[.int .i8 (a : Int), .int .i8 (b : Int)] 38)) he)
              have HP8a := Lib.hid (fun (w' : World) (he : w'.heap = (w8.alloc (.cells #[.int .i8 (a : Int), .int .i8 (b : Int)] 38)).heap) => own_at (HP8.out.alloc (.cells #[.int .i8 (a : Int), .int .i8 (b : Int)] 38)) he)
              have HB8a := Lib.hid (fun (w' : World) (he : w'.heap = (w8.alloc (.cells #[.int .i8 (a : Int), .int .i8 (b : Int)] 38)).heap) (h1 : w'.os = w8.os) (h2 : w'.tape = w8.tape) (h3 : w'.output = w8.output) => below_at (HB8.out.alloc HB8.out.size (.cells #[.int .i8 (a : Int), .int .i8 (b : Int)] 38)) he h1 h2 h3)
              have hBa := Lib.hid (fun (w' : World) (he : w'.heap = (w8.alloc (.cells #[.int .i8 (a : Int), .int .i8 (b : Int)] 38)).heap) => show B0 ≤ w'.heap.size from by rw [he]; exact Nat.le_trans hsz8.out (by simp))
              have hBa8 := Lib.hid (show w8.heap.size ≤ (w8.alloc (.cells #[.int .i8 (a : Int), .int .i8 (b : Int)] 38)).heap.size from by simp)
              have hS8 := MgS.mk2 HP8.out k hlt
              rw [hqe2.out] at hS8
              have HSa := Lib.hid (fun (w' : World) (he : w'.heap = w8.heap) => hS8.at_ he)
              have hS8a := MgS.mk2 (HP8.out.alloc (.cells #[.int .i8 (a : Int), .int .i8 (b : Int)] 38)) k hlt
              rw [hqe2.out] at hS8a
              have HSb := Lib.hid (fun (w' : World) (he : w'.heap = (w8.alloc (.cells #[.int .i8 (a : Int), .int .i8 (b : Int)] 38)).heap) => hS8a.at_ he)
              have hbX := Lib.hid (show b2 ≠ X from fun e => by have h1 := HP8.out.base b2 rfl; have h2 := hX2.out; omega)
              clear hS8 hS8a HXa
              go_wp2_with fail
              refine wp_region_held_drew (S := (MgS b2 (o2 + k * 2) ⟨(a : Int), (b : Int)⟩)) (by kernel_rfl) ?r2_1_hS0 (fun hHeld => ?r2_1_rest)
              case r2_1_hS0 => (try dsimp only); first | assumption | exact HSa.out _ rfl | exact HSb.out _ rfl | exact HS9.out | exact HSz.out _ rfl
              refine wpAnyH_take (i := 0) (v := ?r2_2_vv) (by (simp only [List.getElem?_toArray, List.getElem?_cons_succ, List.getElem?_cons_zero]; rfl)) (by kernel_rfl) (by kernel_rfl) (by kernel_rfl) (by exact fun _ _ _ h => h) (Or.inl ⟨by rfl, ?r2_2_hy⟩) (by assumption) ?r2_2_rest
              case r2_2_hy => intro w hSw; (try dsimp only at hSw); (go_simp <;> (with_reducible rfl))
              try simp only [Act.put, List.setIfInBounds_toArray, List.set_cons_zero, List.set_cons_succ]
              refine wpAnyH_take (i := 2) (v := ?r2_3_vv) (by (simp only [List.getElem?_toArray, List.getElem?_cons_succ, List.getElem?_cons_zero]; rfl)) (by kernel_rfl) (by kernel_rfl) (by kernel_rfl) (by exact fun _ _ _ h => h) (Or.inl ⟨by rfl, ?r2_3_hy⟩) (by assumption) ?r2_3_rest
              case r2_3_hy => intro w hSw; (try dsimp only at hSw); (go_simp <;> (with_reducible rfl))
              try simp only [Act.put, List.setIfInBounds_toArray, List.set_cons_zero, List.set_cons_succ]
              refine wpAnyH_take (i := 3) (v := ?r2_4_vv) (by (simp only [List.getElem?_toArray, List.getElem?_cons_succ, List.getElem?_cons_zero]; rfl)) (by kernel_rfl) (by kernel_rfl) (by kernel_rfl) (by exact fun _ _ _ h => h) (Or.inl ⟨by rfl, ?r2_4_hy⟩) (by assumption) ?r2_4_rest
              case r2_4_hy => intro w hSw; (try dsimp only at hSw); (go_simp <;> (with_reducible rfl))
              try simp only [Act.put, List.setIfInBounds_toArray, List.set_cons_zero, List.set_cons_succ]
              refine wpAnyH_take (i := 4) (v := ?r2_5_vv) (by (simp only [List.getElem?_toArray, List.getElem?_cons_succ, List.getElem?_cons_zero]; rfl)) (by kernel_rfl) (by kernel_rfl) (by kernel_rfl) (by exact fun _ _ _ h => h) (Or.inl ⟨by rfl, ?r2_5_hy⟩) (by assumption) ?r2_5_rest
              case r2_5_hy => intro w hSw; (try dsimp only at hSw); (go_simp <;> (with_reducible rfl))
              try simp only [Act.put, List.setIfInBounds_toArray, List.set_cons_zero, List.set_cons_succ]
              refine wpAnyH_take (i := 5) (v := ?r2_6_vv) (by (simp only [List.getElem?_toArray, List.getElem?_cons_succ, List.getElem?_cons_zero]; rfl)) (by kernel_rfl) (by kernel_rfl) (by kernel_rfl) (by exact fun _ _ _ h => h) (Or.inl ⟨by rfl, ?r2_6_hy⟩) (by assumption) ?r2_6_rest
              case r2_6_hy => intro w hSw; (try dsimp only at hSw); (go_simp <;> (with_reducible rfl))
              try simp only [Act.put, List.setIfInBounds_toArray, List.set_cons_zero, List.set_cons_succ]
              refine wpAnyH_ready (rs := [1, 6]) (by kernel_rfl) (by simp) ?_
              refine (AllReadyH.cons (by (simp only [List.getElem?_toArray, List.getElem?_cons_succ, List.getElem?_cons_zero]; rfl)) (fun K hK => ?_) (AllReadyH.cons (by (simp only [List.getElem?_toArray, List.getElem?_cons_succ, List.getElem?_cons_zero]; rfl)) (fun K hK => ?_) AllReadyH.nil))
              · go_simp
                skip
                try go_wp2_with fail
                refine hK.out _ _ ?r2_7_hS (fun hHeld => ?r2_7_r)
                case r2_7_hS => (try dsimp only); first | assumption | exact HSa.out _ rfl | exact HSb.out _ rfl | exact HS9.out | exact HSz.out _ rfl
                clear hK K
                try simp only [Act.put, List.setIfInBounds_toArray, List.set_cons_zero, List.set_cons_succ]
                refine wpAnyH_ready (rs := [6]) (by kernel_rfl) (by simp) ?_
                refine (AllReadyH.cons (by (simp only [List.getElem?_toArray, List.getElem?_cons_succ, List.getElem?_cons_zero]; rfl)) (fun K hK => ?_) AllReadyH.nil)
                go_simp
                skip
                try go_wp2_with fail
                refine hK.out _ _ ?r2_8_hS (fun hHeld => ?r2_8_r)
                case r2_8_hS => (try dsimp only); first | assumption | exact HSa.out _ rfl | exact HSb.out _ rfl | exact HS9.out | exact HSz.out _ rfl
                clear hK K
                try simp only [Act.put, List.setIfInBounds_toArray, List.set_cons_zero, List.set_cons_succ]
                refine wpAnyH_ready (rs := [7]) (by kernel_rfl) (by simp) ?_
                refine (AllReadyH.cons (by (simp only [List.getElem?_toArray, List.getElem?_cons_succ, List.getElem?_cons_zero]; rfl)) (fun K hK => ?_) AllReadyH.nil)
                (refine step_app appCell rfl _ _ rfl B0 out [⟨(a : Int), (b : Int)⟩] v _ rfl rfl (HO8a.out _ rfl) (by first | exact bk_cell1 (Bk.new _ _ _ _ rfl) | exact bk_cell1 (Bk.drw (Bk.new _ _ _ _ rfl))) (by have := hle.out; simp; omega) (by have := hle.out; simp; omega) (hBa.out _ rfl) ?_; intro v9 w9 hO9 hG9 hat; obtain ⟨A9, cap9, rfl, -, -, -⟩ := (hO9.sl Cell.c_len).cell; rw [List.length_append, List.length_singleton] at hO9 ⊢; have HO9 := Lib.hid hO9; have HX9 := Lib.hid (Bk.grownQ hG9 HX8a.out rfl (fun e => by have := HO8.out.base _ e; have := hXB.out; omega)); have HB9 := Lib.hid (below_grownQ hG9 HB8a.out rfl rfl rfl rfl (fun j hj => by have := HO8.out.base _ hj; have := hXB.out; have := hWX.out; omega)); have HG9 := Lib.hid (Bk.grownQ hG9 HG8a.out rfl (fun e => by have := HO8.out.base _ e; have := hXB.out; have := hWX.out; omega)); have HR9 := Lib.hid (Bk.grownQ hG9 HR8a.out rfl (fun e => by have := HO8.out.base _ e; have := hXB.out; have := hWX.out; omega)); have HP9 := Lib.hid (Own.grownQ hG9 HP8a.out rfl (fun j hj e => by have h1 := HO8.out.base _ e; have h2 := hdis.out j hj; omega)); have hsz9 := Lib.hid (Nat.le_trans hsz8.out (size_grownQ hG9 hBa8.out rfl)); have cx9 := HX9.out.cell 83 _ (gdA_z _ _ _ _ hLl2.out); have fx9 := HX9.out.frz 83; have hS9 := MgS.mk2 HP9.out k hlt; rw [hqe2.out] at hS9; have HS9 := Lib.hid hS9; clear hS9 hO9 hG9 hat)
                refine hK.out _ _ ?r2_9_hS (fun hHeld => ?r2_9_r)
                case r2_9_hS => (try dsimp only); first | assumption | exact HSa.out _ rfl | exact HSb.out _ rfl | exact HS9.out | exact HSz.out _ rfl
                clear hK K
                try simp only [Act.put, List.setIfInBounds_toArray, List.set_cons_zero, List.set_cons_succ]
                refine wpAnyH_take (i := 8) (v := ?r2_10_vv) (by (simp only [List.getElem?_toArray, List.getElem?_cons_succ, List.getElem?_cons_zero]; rfl)) (by kernel_rfl) (by kernel_rfl) (by kernel_rfl) (by exact fun _ _ _ h => h) (Or.inl ⟨by rfl, ?r2_10_hy⟩) (by assumption) ?r2_10_rest
                case r2_10_hy => intro w hSw; (try dsimp only at hSw); (go_simp <;> (with_reducible rfl))
                try simp only [Act.put, List.setIfInBounds_toArray, List.set_cons_zero, List.set_cons_succ]
                refine wpAnyH_ready (rs := [9]) (by kernel_rfl) (by simp) ?_
                refine (AllReadyH.cons (by (simp only [List.getElem?_toArray, List.getElem?_cons_succ, List.getElem?_cons_zero]; rfl)) (fun K hK => ?_) AllReadyH.nil)
                go_simp
                (have HSz := Lib.hid (fun (w' : World) (he : w'.heap = (w9.setCell ⟨X, 83, none⟩ (Value.slice A9 (out.length + 1) cap9)).heap) => (HS9.out.set X 83 (Value.slice A9 (out.length + 1) cap9) hbX.out).at_ he))
                try go_wp2_with fail
                refine hK.out _ _ ?r2_11_hS (fun hHeld => ?r2_11_r)
                case r2_11_hS => (try dsimp only); first | assumption | exact HSa.out _ rfl | exact HSb.out _ rfl | exact HS9.out | exact HSz.out _ rfl
                clear hK K
                try simp only [Act.put, List.setIfInBounds_toArray, List.set_cons_zero, List.set_cons_succ]
                refine wpAnyH_done (by kernel_rfl) ?_ _
                go_wp2_with fail
                have HXz := Lib.hid (HX9.out.set 83 (Value.slice A9 (out.length + 1) cap9))
                rw [gdA_set83 w h _ hLl2.out] at HXz
                have HOz := Lib.hid (show Own (w9.setCell ⟨X, 83, none⟩ (Value.slice A9 (out.length + 1) cap9)) B0 38 Cell.c 2 (Value.slice A9 (out.length + 1) cap9) _ from HO9.out.keep (fun j hj => by have h1 := HO9.out.base j hj; have h2 := hXB.out; rw [Below.heap_setCell _ _ _ _ (show j ≠ _ by simp; omega)]))
                have HPz := Lib.hid (show Own (w9.setCell ⟨X, 83, none⟩ (Value.slice A9 (out.length + 1) cap9)) w2.heap.size 38 Cell.c 2 _ xs from HP9.out.keep (fun j hj => by have h1 := HP9.out.base j hj; have h2 := hX2.out; rw [Below.heap_setCell _ _ _ _ (show j ≠ _ by simp; omega)]))
                have HGz := Lib.hid (HG9.out.oth (g' := X) 83 (Value.slice A9 (out.length + 1) cap9) (by have := hWX.out; omega))
                have HRz := Lib.hid (HR9.out.oth (g' := X) 83 (Value.slice A9 (out.length + 1) cap9) (by have := hWX.out; omega))
                have HBz := Lib.hid (HB9.out.setCell (p := ⟨X, 83, none⟩) (by have := hWX.out; simp; omega) (Value.slice A9 (out.length + 1) cap9))
                go_roundw
                case rel => exact ⟨k + 1, _, (Value.slice A9 (out.length + 1) cap9), by omega, by go_num, hst.out.1, hst.out.2.1, hst.out.2.2, by rw [hfi3.out]; exact own_at HOz.out rfl, HXz.out.at_ rfl, HGz.out.at_ rfl, HRz.out.at_ rfl, own_at HPz.out rfl, below_at HBz.out rfl rfl rfl rfl, (by have := hsz9.out; simpa [World.setCell] using this)⟩
                case measure => first | (simp [intOf]; done) | (simp [intOf]; omega)
              · go_simp
                skip
                try go_wp2_with fail
                refine hK.out _ _ ?r2_12_hS (fun hHeld => ?r2_12_r)
                case r2_12_hS => (try dsimp only); first | assumption | exact HSa.out _ rfl | exact HSb.out _ rfl | exact HS9.out | exact HSz.out _ rfl
                clear hK K
                try simp only [Act.put, List.setIfInBounds_toArray, List.set_cons_zero, List.set_cons_succ]
                refine wpAnyH_ready (rs := [1]) (by kernel_rfl) (by simp) ?_
                refine (AllReadyH.cons (by (simp only [List.getElem?_toArray, List.getElem?_cons_succ, List.getElem?_cons_zero]; rfl)) (fun K hK => ?_) AllReadyH.nil)
                go_simp
                skip
                try go_wp2_with fail
                refine hK.out _ _ ?r2_13_hS (fun hHeld => ?r2_13_r)
                case r2_13_hS => (try dsimp only); first | assumption | exact HSa.out _ rfl | exact HSb.out _ rfl | exact HS9.out | exact HSz.out _ rfl
                clear hK K
                try simp only [Act.put, List.setIfInBounds_toArray, List.set_cons_zero, List.set_cons_succ]
                refine wpAnyH_ready (rs := [7]) (by kernel_rfl) (by simp) ?_
                refine (AllReadyH.cons (by (simp only [List.getElem?_toArray, List.getElem?_cons_succ, List.getElem?_cons_zero]; rfl)) (fun K hK => ?_) AllReadyH.nil)
                (refine step_app appCell rfl _ _ rfl B0 out [⟨(a : Int), (b : Int)⟩] v _ rfl rfl (HO8a.out _ rfl) (by first | exact bk_cell1 (Bk.new _ _ _ _ rfl) | exact bk_cell1 (Bk.drw (Bk.new _ _ _ _ rfl))) (by have := hle.out; simp; omega) (by have := hle.out; simp; omega) (hBa.out _ rfl) ?_; intro v9 w9 hO9 hG9 hat; obtain ⟨A9, cap9, rfl, -, -, -⟩ := (hO9.sl Cell.c_len).cell; rw [List.length_append, List.length_singleton] at hO9 ⊢; have HO9 := Lib.hid hO9; have HX9 := Lib.hid (Bk.grownQ hG9 HX8a.out rfl (fun e => by have := HO8.out.base _ e; have := hXB.out; omega)); have HB9 := Lib.hid (below_grownQ hG9 HB8a.out rfl rfl rfl rfl (fun j hj => by have := HO8.out.base _ hj; have := hXB.out; have := hWX.out; omega)); have HG9 := Lib.hid (Bk.grownQ hG9 HG8a.out rfl (fun e => by have := HO8.out.base _ e; have := hXB.out; have := hWX.out; omega)); have HR9 := Lib.hid (Bk.grownQ hG9 HR8a.out rfl (fun e => by have := HO8.out.base _ e; have := hXB.out; have := hWX.out; omega)); have HP9 := Lib.hid (Own.grownQ hG9 HP8a.out rfl (fun j hj e => by have h1 := HO8.out.base _ e; have h2 := hdis.out j hj; omega)); have hsz9 := Lib.hid (Nat.le_trans hsz8.out (size_grownQ hG9 hBa8.out rfl)); have cx9 := HX9.out.cell 83 _ (gdA_z _ _ _ _ hLl2.out); have fx9 := HX9.out.frz 83; have hS9 := MgS.mk2 HP9.out k hlt; rw [hqe2.out] at hS9; have HS9 := Lib.hid hS9; clear hS9 hO9 hG9 hat)
                refine hK.out _ _ ?r2_14_hS (fun hHeld => ?r2_14_r)
                case r2_14_hS => (try dsimp only); first | assumption | exact HSa.out _ rfl | exact HSb.out _ rfl | exact HS9.out | exact HSz.out _ rfl
                clear hK K
                try simp only [Act.put, List.setIfInBounds_toArray, List.set_cons_zero, List.set_cons_succ]
                refine wpAnyH_take (i := 8) (v := ?r2_15_vv) (by (simp only [List.getElem?_toArray, List.getElem?_cons_succ, List.getElem?_cons_zero]; rfl)) (by kernel_rfl) (by kernel_rfl) (by kernel_rfl) (by exact fun _ _ _ h => h) (Or.inl ⟨by rfl, ?r2_15_hy⟩) (by assumption) ?r2_15_rest
                case r2_15_hy => intro w hSw; (try dsimp only at hSw); (go_simp <;> (with_reducible rfl))
                try simp only [Act.put, List.setIfInBounds_toArray, List.set_cons_zero, List.set_cons_succ]
                refine wpAnyH_ready (rs := [9]) (by kernel_rfl) (by simp) ?_
                refine (AllReadyH.cons (by (simp only [List.getElem?_toArray, List.getElem?_cons_succ, List.getElem?_cons_zero]; rfl)) (fun K hK => ?_) AllReadyH.nil)
                go_simp
                (have HSz := Lib.hid (fun (w' : World) (he : w'.heap = (w9.setCell ⟨X, 83, none⟩ (Value.slice A9 (out.length + 1) cap9)).heap) => (HS9.out.set X 83 (Value.slice A9 (out.length + 1) cap9) hbX.out).at_ he))
                try go_wp2_with fail
                refine hK.out _ _ ?r2_16_hS (fun hHeld => ?r2_16_r)
                case r2_16_hS => (try dsimp only); first | assumption | exact HSa.out _ rfl | exact HSb.out _ rfl | exact HS9.out | exact HSz.out _ rfl
                clear hK K
                try simp only [Act.put, List.setIfInBounds_toArray, List.set_cons_zero, List.set_cons_succ]
                refine wpAnyH_done (by kernel_rfl) ?_ _
                go_wp2_with fail
                have HXz := Lib.hid (HX9.out.set 83 (Value.slice A9 (out.length + 1) cap9))
                rw [gdA_set83 w h _ hLl2.out] at HXz
                have HOz := Lib.hid (show Own (w9.setCell ⟨X, 83, none⟩ (Value.slice A9 (out.length + 1) cap9)) B0 38 Cell.c 2 (Value.slice A9 (out.length + 1) cap9) _ from HO9.out.keep (fun j hj => by have h1 := HO9.out.base j hj; have h2 := hXB.out; rw [Below.heap_setCell _ _ _ _ (show j ≠ _ by simp; omega)]))
                have HPz := Lib.hid (show Own (w9.setCell ⟨X, 83, none⟩ (Value.slice A9 (out.length + 1) cap9)) w2.heap.size 38 Cell.c 2 _ xs from HP9.out.keep (fun j hj => by have h1 := HP9.out.base j hj; have h2 := hX2.out; rw [Below.heap_setCell _ _ _ _ (show j ≠ _ by simp; omega)]))
                have HGz := Lib.hid (HG9.out.oth (g' := X) 83 (Value.slice A9 (out.length + 1) cap9) (by have := hWX.out; omega))
                have HRz := Lib.hid (HR9.out.oth (g' := X) 83 (Value.slice A9 (out.length + 1) cap9) (by have := hWX.out; omega))
                have HBz := Lib.hid (HB9.out.setCell (p := ⟨X, 83, none⟩) (by have := hWX.out; simp; omega) (Value.slice A9 (out.length + 1) cap9))
                go_roundw
                case rel => exact ⟨k + 1, _, (Value.slice A9 (out.length + 1) cap9), by omega, by go_num, hst.out.1, hst.out.2.1, hst.out.2.2, by rw [hfi3.out]; exact own_at HOz.out rfl, HXz.out.at_ rfl, HGz.out.at_ rfl, HRz.out.at_ rfl, own_at HPz.out rfl, below_at HBz.out rfl rfl rfl rfl, (by have := hsz9.out; simpa [World.setCell] using this)⟩
                case measure => first | (simp [intOf]; done) | (simp [intOf]; omega)
            · have hd : decide (0 ≤ fi) = false := hfi2.out.trans (decide_eq_false hin)
              have hfi3 := Lib.hid (hfi.out.trans (if_neg (by rw [decide_eq_true_eq]; exact hin)))
              clear hin
              go_wp2_with fail
              go_roundw
              case rel => exact ⟨k + 1, _, v, by omega, by go_num, hst.out.1, hst.out.2.1, hst.out.2.2, by rw [hfi3.out]; exact HO8.out, HX8.out, HG8.out, HR8.out, HP8.out, HB8.out, hsz8.out⟩
              case measure => first | (simp [intOf]; done) | (simp [intOf]; omega)
      · obtain rfl : k = xs.length := by omega
        have hkd : decide ((xs.length : Int) < (xs.length : Int)) = false := by rw [decide_eq_false_iff_not]; omega
        have hfill := Lib.hid (fill_end (w := w) (h := h) (f := fun c => htL hs (mirC w c)) hLl.out HZ0.out (fun c hc => by
          obtain ⟨i, hi, rfl⟩ := List.getElem_of_mem (hmm.out c hc)
          exact HIN.out i hi hi))
        rw [show mirH w h hs = L from hfill.out.symm] at hE
        rw [List.take_length, ← hmL.out] at HO
        clear hfill hmL hmm HZ0 HIN hpt
        generalize mirL w h gl = gl2 at *
        obtain ⟨Av, capv, rfl, -, -, -⟩ := (HO.out.sl Cell.c_len).cell
        have ldx := load_gd hLl.out HX.out
        go_wp2_with (first | (refine wpList_load_w rfl 36 (.tmp 4) rfl _ rfl _ ldx ?_) | (refine wpList_store_m rfl 36 (.tmp 2) (.tmp 71) rfl _ 0 (gdA w h L (.slice Av gl2.length capv)) rfl rfl _ _ HR.out (by rw [gdA_size _ _ _ _ hLl.out, zG_size]; omega) (by rw [gdA_size _ _ _ _ hLl.out]; exact gd_sz _) (gdA_one _ _ _ _ _ _) ?_))
        intro w9 hK9 hG9
        rw [gdA_zero _ _ _ hLl.out] at hK9
        have HK9 := Lib.hid hK9
        have HB9 := Lib.hid (HBr.out.grown hG9 HBr.out.size (fun j hj => by injection hj with hj; omega))
        have HO9 := Lib.hid (HO.out.grownM hG9 (by have := hXB.out; have := hWX.out; omega))
        clear hK9 hG9 ldx
        go_wp2_with fail
        exact cellret2 Try.results29 rfl rfl (load_gd hLl.out HK9.out) rfl ⟨_, by rw [hE.out]; rfl, by rw [hE.out]; exact HO9.out.more (by have := hXB.out; have := hWX.out; omega), HB9.out⟩
end Go.Proofs.Ytipcmakidifelaa
