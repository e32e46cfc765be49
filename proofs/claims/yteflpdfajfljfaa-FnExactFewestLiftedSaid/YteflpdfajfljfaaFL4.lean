/-
All cells that can be come to without a further slab, of the program. Conditions: the square is valid, the cells are its own.
-/
import Derived.Test.YteflpdfajfljfaaFL3
set_option linter.unusedVariables false
set_option linter.unusedSimpArgs false
set_option maxRecDepth 100000
namespace Go.Proofs.Yteflpdfajfljfaa
open Go.RowKit
/-- Two rows do not share a block. -/
def DisS (r v : Value) : Prop := ∀ j, r.ownBlock = some j → v.ownBlock = some j → False
theorem own_atS {α : Type} {w w' : World} {B : Nat} {E : TypeId} {c : α → List Value} {sz : Nat} {v : Value} {xs : List α} (h : Own w B E c sz v xs) (he : w'.heap = w.heap) : Own w' B E c sz v xs := h.keep (fun k _ => by rw [he])
theorem below_atS {B : Nat} {a w w' : World} (h : Below B a w) (he : w'.heap = w.heap) (h1 : w'.os = w.os) (h2 : w'.tape = w.tape) (h3 : w'.output = w.output) : Below B a w' := ⟨h1.trans h.os, h2.trans h.tape, h3.trans h.output, by rw [he]; exact h.size, fun k hk => by rw [he]; exact h.block k hk⟩
theorem ext_atS {a w w1 w2 : World} (k : Below w1.heap.size w1 w2) (h : Below a.heap.size a w) (he : w1.heap = w.heap) (h1 : w1.os = w.os) (h2 : w1.tape = w.tape) (h3 : w1.output = w.output) : Below a.heap.size a w2 := ext_trans (below_atS h he h1 h2 h3) k
theorem Bk.ext_atS {w w1 w2 : World} {g : Nat} {T : TypeId} {cs : Array Value} (k : Below w1.heap.size w1 w2) (h : Bk w g T cs) (he : w1.heap = w.heap) : Bk w2 g T cs := Bk.ext (show Bk w1 g T cs from by unfold Bk at *; rw [he]; exact h) k
theorem Own.ext_atS {α : Type} {w w1 w2 : World} {B : Nat} {E : TypeId} {c : α → List Value} {sz : Nat} {v : Value} {xs : List α} (k : Below w1.heap.size w1 w2) (h : Own w B E c sz v xs) (he : w1.heap = w.heap) : Own w2 B E c sz v xs := (own_atS h he).ext k
theorem MapC.ext_atS {w w1 w2 : World} {g : Nat} {f : Cell → Option Int} (k : Below w1.heap.size w1 w2) (h : MapC w g f) (he : w1.heap = w.heap) : MapC w2 g f := (h.at_S he).ext k
abbrev RcS (W0 : World) (b c o : Nat) (w h : Int) (z : Value) (p : Cell) (w' : World) : Prop :=
  Below W0.heap.size W0 w' ∧ w'.cell? ⟨b, 0, none⟩ = some (.int .i8 w) ∧ w'.cell? ⟨b, 1, none⟩ = some (.int .i8 h) ∧ w'.cell? ⟨b, 2, none⟩ = some z ∧ w'.cell? ⟨c, o, none⟩ = some (.int .i8 p.x) ∧ w'.cell? ⟨c, o + 1, none⟩ = some (.int .i8 p.y)
theorem RcS.keep {W0 w1 w2 : World} {b c o : Nat} {w h : Int} {z : Value} {p : Cell} (hb : b < W0.heap.size) (hc : c < W0.heap.size) (hS : RcS W0 b c o w h z p w1) (k : Below w1.heap.size w1 w2) : RcS W0 b c o w h z p w2 := by
  obtain ⟨h0, h1, h2, h3, h4, h5⟩ := hS
  have q : ∀ o, w2.cell? ⟨b, o, none⟩ = w1.cell? ⟨b, o, none⟩ := fun o => k.cell (p := ⟨b, o, none⟩) (Nat.lt_of_lt_of_le hb h0.size)
  have r : ∀ o, w2.cell? ⟨c, o, none⟩ = w1.cell? ⟨c, o, none⟩ := fun o => k.cell (p := ⟨c, o, none⟩) (Nat.lt_of_lt_of_le hc h0.size)
  exact ⟨ext_trans h0 k, (q _).trans h1, (q _).trans h2, (q _).trans h3, (r _).trans h4, (r _).trans h5⟩
abbrev RdS (W0 : World) (b c o d : Nat) (w h : Int) (z : Value) (p x : Cell) (w' : World) : Prop :=
  RcS W0 b c o w h z p w' ∧ w'.cell? ⟨d, 0, none⟩ = some (.int .i8 x.x) ∧ w'.cell? ⟨d, 1, none⟩ = some (.int .i8 x.y)
theorem RdS.keep {W0 w1 w2 : World} {b c o d : Nat} {w h : Int} {z : Value} {p x : Cell} (hb : b < W0.heap.size) (hc : c < W0.heap.size) (hd : d < W0.heap.size) (hS : RdS W0 b c o d w h z p x w1) (k : Below w1.heap.size w1 w2) : RdS W0 b c o d w h z p x w2 := by
  obtain ⟨h0, h1, h2⟩ := hS
  have r : ∀ o, w2.cell? ⟨d, o, none⟩ = w1.cell? ⟨d, o, none⟩ := fun o => k.cell (p := ⟨d, o, none⟩) (Nat.lt_of_lt_of_le hd h0.1.size)
  exact ⟨h0.keep hb hc k, (r _).trans h1, (r _).trans h2⟩
set_option maxHeartbeats 8000000 in
theorem reach_callsS (w h : Int) (z : Value) (sl : List Slab) (L0 : List Cell) (v : Value) (hv : sqOk w h sl = true) (hL : ∀ c ∈ L0, gpB w h c = true) (hn : L0.length ≤ 100000) (W : World) (hq : SqIn W w h z sl) (hs : Sl W W.heap.size Cell.c 2 v L0) :
    Calls Try.prog 146 #[sqv w h z, v] W fun e w' => (∃ u R, e = .returned u ∧ Own w' W.heap.size 36 Cell.c 2 u R ∧ (∀ c, c ∈ R ↔ R0 w h (cvS sl) (fun x => x ∈ L0) c) ∧ R.length ≤ L0.length + 144) ∧ Below W.heap.size W w' := by
  obtain ⟨⟨hw0, hw1⟩, ⟨hh0, hh1⟩, -⟩ := sqOk_edges hv
  obtain ⟨A, cap, hz, -, -, -⟩ := hq.sl.slab
  subst hz
  have HQ0 := Lib.hid hq
  have HL := Lib.hid hL
  have qn := Lib.hid (fun c (hc : gpB w h c = true) W' hq' => nextS_calls w h (.slice A sl.length cap) sl c (gpB_true.1 hc).1 (by have := gpB_true.1 hc; omega) (gpB_true.1 hc).2.2.1 (by have := gpB_true.1 hc; omega) W' hq')
  have qe := Lib.hid (fun a b (ha : gpB w h a = true) (hb : gpB w h b = true) W' hq' => entered_calls w h (.slice A sl.length cap) sl a b (gp_okS hw1 hh1 ha) (gp_okS hw1 hh1 hb) W' hq')
  have qc := Lib.hid (fun (R : List Cell) (u : Value) (x : Cell) W' (hs' : Sl W' W'.heap.size Cell.c 2 u R) => containsCell R u x W' hs')
  have KG := Lib.hid (Bk.new W 34 #[.int .i8 w, .int .i8 h, .slice A sl.length cap] W.heap.size rfl)
  have HB := (Below.refl W.heap.size W).alloc (Nat.le_refl _) (.cells #[.int .i8 w, .int .i8 h, .slice A sl.length cap] 34)
  have q0 := Lib.hid (cloneCell_calls L0 v _ (hs.ext HB) (by omega))
  replace HB := Lib.hid HB
  have HI0 := Lib.hid (ReI.zero w h (cvS sl) L0)
  have hlen := Lib.hid (fun R i (q : ReI w h (cvS sl) L0 R i) => q.len hw1 hh1 hL)
  have hptR := Lib.hid (fun R i (q : ReI w h (cvS sl) L0 R i) => q.pt hL)
  clear hq hs hL
  generalize hcv : cvS sl = cv at *
  unfold sqv Cell.v at *
  go_enter Try.func146, Try.ntmps146
  go_wp2_with fail
  refine q0.out.mono ?_
  rintro e w1 ⟨v1, rfl, hO1, hb1⟩
  have HB1 := Lib.hid (ext_trans HB.out hb1)
  have HG1 := Lib.hid (KG.out.ext hb1)
  have HO1 := Lib.hid (hO1.more (B' := W.heap.size + 1) (by simp))
  clear hO1 hb1 q0 HB KG
  go_wp2_with fail
  go_loopw [5, 6] (fun o i wr => ∃ (k : Nat) (R : List Cell), k ≤ R.length ∧ i = .int .i64 (k : Int) ∧ ReI w h cv L0 R k ∧ Own wr (W.heap.size + 1) 36 Cell.c 2 o R ∧ Bk wr W.heap.size 34 #[.int .i8 w, .int .i8 h, .slice A sl.length cap] ∧ Below W.heap.size W wr) (fun _ i _ => L0.length + 145 - (intOf i).toNat)
  case atStart => exact ⟨0, L0, by omega, rfl, HI0.out, HO1.out, HG1.out, HB1.out⟩
  case round =>
    clear HI0 HO1 HG1 HB1
    obtain ⟨k, R, hk, rfl, hI, hO, hG, hb⟩ := hrel
    have HI := Lib.hid hI
    have HO := Lib.hid hO
    have HG := Lib.hid hG
    have HBr := Lib.hid hb
    have hRl := hlen.out R k hI
    clear hI hO hG hb
    obtain ⟨A2, cap2, rfl, -, -, hcell⟩ := (HO.out.sl Cell.c_len).cell
    by_cases hlt : k < R.length
    · obtain ⟨b1, o1, rfl, hbb, c0, c1⟩ := hcell k hlt
      clear hcell
      have hk0 : (0 : Int) ≤ (k : Int) := by omega
      have hk1 : (k : Int) < (R.length : Int) := by omega
      have hkd : decide ((k : Int) < (R.length : Int)) = true := by rw [decide_eq_true_eq]; omega
      have hapt := Lib.hid (hptR.out R k HI.out R[k] (List.getElem_mem hlt))
      have hat := Lib.hid (show R[k]? = some R[k] from List.getElem?_eq_getElem hlt)
      obtain ⟨a, hae⟩ : ∃ a, R[k] = a := ⟨_, rfl⟩
      rw [hae] at hapt hat c0 c1
      clear hae
      have g0 := HG.out.cell 0 _ rfl
      have g1 := HG.out.cell 1 _ rfl
      have g2 := HG.out.cell 2 _ rfl
      have hlg := HG.out.lt
      have hS : RcS wr W.heap.size b1 (o1 + k * 2) w h (.slice A sl.length cap) a wr := ⟨Below.refl _ _, g0, g1, g2, c0, c1⟩
      have qa := Lib.hid (fun W' (hk : Below wr.heap.size wr W') => qn.out a hapt.out W' ((HQ0.out.ext HBr.out).ext hk))
      have hyl := Lib.hid (around_lenS w h a)
      have hyp := Lib.hid (fun c (hc : c ∈ aroundL w h a) => around_pt hc)
      have hymem := Lib.hid (fun c (hc : c ∈ aroundL w h a) => hc)
      have HJ0 := Lib.hid (fun ys => ReJ.zero (ys := ys) HI.out hat.out)
      have hfin := Lib.hid (fun R' (q : ReJ w h cv L0 R' k a (aroundL w h a) (aroundL w h a).length) => q.fin)
      have hyput := Lib.hid (fun R' j (hj : j < (aroundL w h a).length) (q : ReJ w h cv L0 R' k a (aroundL w h a) j) he hn => q.put hj (List.getElem_mem hj) he hn)
      replace HJ0 := Lib.hid (HJ0.out (aroundL w h a))
      clear g0 g1 g2 c0 c1
      generalize aroundL w h a = ys at *
      go_wp2_with fail
      refine wp_region_held_drew (S := (RcS wr W.heap.size b1 (o1 + k * 2) w h (.slice A sl.length cap) a)) (by kernel_rfl) ?r18_hS0 (fun hHeld => ?r18_rest)
      case r18_hS0 => (try dsimp only); first | assumption | exact RcS.keep hlg hbb (by assumption) ((Below.refl _ _).drew) | exact RcS.keep hlg hbb (by assumption) (by assumption)
      refine wpAnyH_take (i := 0) (v := ?r18_vv0) (by (simp only [List.getElem?_toArray, List.getElem?_cons_succ, List.getElem?_cons_zero]; rfl)) (by kernel_rfl) (by kernel_rfl) (by kernel_rfl) (by exact fun _ _ _ h => h) (Or.inl ⟨by rfl, ?r18_hy0⟩) (by assumption) ?r18_rest0
      case r18_hy0 => intro w hSw; (try dsimp only at hSw); (go_simp <;> (with_reducible rfl))
      try simp only [Act.put, List.setIfInBounds_toArray, List.set_cons_zero, List.set_cons_succ]
      refine wpAnyH_take (i := 1) (v := ?r18_vv1) (by (simp only [List.getElem?_toArray, List.getElem?_cons_succ, List.getElem?_cons_zero]; rfl)) (by kernel_rfl) (by kernel_rfl) (by kernel_rfl) (by exact fun _ _ _ h => h) (Or.inl ⟨by rfl, ?r18_hy1⟩) (by assumption) ?r18_rest1
      case r18_hy1 => intro w hSw; (try dsimp only at hSw); (go_simp <;> (with_reducible rfl))
      try simp only [Act.put, List.setIfInBounds_toArray, List.set_cons_zero, List.set_cons_succ]
      refine wpAnyH_take (i := 2) (v := ?r18_vv2) (by (simp only [List.getElem?_toArray, List.getElem?_cons_succ, List.getElem?_cons_zero]; rfl)) (by kernel_rfl) (by kernel_rfl) (by kernel_rfl) (by exact fun _ _ _ h => h) (Or.inl ⟨by rfl, ?r18_hy2⟩) (by assumption) ?r18_rest2
      case r18_hy2 => intro w hSw; (try dsimp only at hSw); (go_simp <;> (with_reducible rfl))
      try simp only [Act.put, List.setIfInBounds_toArray, List.set_cons_zero, List.set_cons_succ]
      refine wpAnyH_take (i := 3) (v := ?r18_vv3) (by (simp only [List.getElem?_toArray, List.getElem?_cons_succ, List.getElem?_cons_zero]; rfl)) (by kernel_rfl) (by kernel_rfl) (by kernel_rfl) (by exact fun _ _ _ h => h) (Or.inl ⟨by rfl, ?r18_hy3⟩) (by assumption) ?r18_rest3
      case r18_hy3 => intro w hSw; (try dsimp only at hSw); (go_simp <;> (with_reducible rfl))
      try simp only [Act.put, List.setIfInBounds_toArray, List.set_cons_zero, List.set_cons_succ]
      refine wpAnyH_take (i := 4) (v := ?r18_vv4) (by (simp only [List.getElem?_toArray, List.getElem?_cons_succ, List.getElem?_cons_zero]; rfl)) (by kernel_rfl) (by kernel_rfl) (by kernel_rfl) (by exact fun _ _ _ h => h) (Or.inl ⟨by rfl, ?r18_hy4⟩) (by assumption) ?r18_rest4
      case r18_hy4 => intro w hSw; (try dsimp only at hSw); (go_simp <;> (with_reducible rfl))
      try simp only [Act.put, List.setIfInBounds_toArray, List.set_cons_zero, List.set_cons_succ]
      refine wpAnyH_take (i := 7) (v := ?r18_vv7) (by (simp only [List.getElem?_toArray, List.getElem?_cons_succ, List.getElem?_cons_zero]; rfl)) (by kernel_rfl) (by kernel_rfl) (by kernel_rfl) (by exact fun _ _ _ h => h) (Or.inl ⟨by rfl, ?r18_hy7⟩) (by assumption) ?r18_rest7
      case r18_hy7 => intro w hSw; (try dsimp only at hSw); (go_simp <;> (with_reducible rfl))
      try simp only [Act.put, List.setIfInBounds_toArray, List.set_cons_zero, List.set_cons_succ]
      refine wpAnyH_ready (rs := [5]) (by kernel_rfl) (by simp) ?_
      refine AllReadyH.cons (by (simp only [List.getElem?_toArray, List.getElem?_cons_succ, List.getElem?_cons_zero]; rfl)) (fun K hK => ?_) AllReadyH.nil
      go_simp
      (go_at_call 86; (with_reducible refine (qa.out _ (And.left (b := _) (by assumption))).mono ?_); rintro e w6 ⟨v6, rfl, hO6, hb6⟩; obtain ⟨A4', cap4, rfl, -, -, -⟩ := (hO6.sl Cell.c_len).cell)
      try go_wp2_with fail
      refine hK.out _ _ ?r18_hS5 (fun hHeld => ?r18_r5)
      case r18_hS5 => (try dsimp only); first | assumption | exact RcS.keep hlg hbb (by assumption) ((Below.refl _ _).drew) | exact RcS.keep hlg hbb (by assumption) (by assumption)
      clear hK K
      try simp only [Act.put, List.setIfInBounds_toArray, List.set_cons_zero, List.set_cons_succ]
      refine wpAnyH_take (i := 6) (v := ?r18_vv6) (by (simp only [List.getElem?_toArray, List.getElem?_cons_succ, List.getElem?_cons_zero]; rfl)) (by kernel_rfl) (by kernel_rfl) (by kernel_rfl) (by exact fun _ _ _ h => h) (Or.inl ⟨by rfl, ?r18_hy6⟩) (by assumption) ?r18_rest6
      case r18_hy6 => intro w hSw; (try dsimp only at hSw); (go_simp <;> (with_reducible rfl))
      try simp only [Act.put, List.setIfInBounds_toArray, List.set_cons_zero, List.set_cons_succ]
      refine wpAnyH_done (by kernel_rfl) ?_ _
      have HB6 := Lib.hid (ext_atS hb6 HBr.out rfl rfl rfl rfl)
      have HG6 := Lib.hid (Bk.ext_atS hb6 HG.out rfl)
      have HO6 := Lib.hid (Own.ext_atS hb6 HO.out rfl)
      have HY6 := Lib.hid hO6
      have hDis := Lib.hid (show DisS (.slice A4' ys.length cap4) (.slice (some ⟨b1, o1, none⟩) R.length cap2) from fun j h1 h2 => by
        have e1 := hO6.base j h1
        have e2 := HO.out.lt j h2
        simp at e1
        omega)
      have HR6 := Lib.hid (hRl)
      clear hS hO6 HG HO HBr hbb hb6 hRl hk0 hk1 hkd
      repeat clear hHeld
      generalize wr.drew.heap.size = B6 at *
      go_wp2_with fail
      go_loopw [5, 24] (fun o i wr => ∃ (j : Nat) (R : List Cell), j ≤ ys.length ∧ i = .int .i64 (j : Int) ∧ ReJ w h cv L0 R k a ys j ∧ DisS (.slice A4' ys.length cap4) o ∧ Own wr (W.heap.size + 1) 36 Cell.c 2 o R ∧ Own wr B6 36 Cell.c 2 (.slice A4' ys.length cap4) ys ∧ Bk wr W.heap.size 34 #[.int .i8 w, .int .i8 h, .slice A sl.length cap] ∧ Below W.heap.size W wr) (fun _ i _ => ys.length - (intOf i).toNat)
      case atStart => exact ⟨0, R, by omega, rfl, HJ0.out, hDis.out, HO6.out, HY6.out, HG6.out, HB6.out⟩
      case round =>
        clear HJ0 hDis HO6 HY6 HG6 HB6 HR6 hlt hat HI
        obtain ⟨j, R', hj, rfl, hJ, hD, hO, hY, hG, hb⟩ := hrel
        have HJ := Lib.hid hJ
        have HD := Lib.hid hD
        have HO := Lib.hid hO
        have HY := Lib.hid hY
        have HG := Lib.hid hG
        have HBr := Lib.hid hb
        have hRl := hlen.out R' k hJ.re
        clear hJ hD hO hY hG hb
        obtain ⟨A3, cap3, rfl, -, -, hcell3⟩ := (HO.out.sl Cell.c_len).cell
        have hy4 := hyl.out
        by_cases hjl : j < ys.length
        · obtain ⟨A5, cap5, hvv, -, -, hcell⟩ := (HY.out.sl Cell.c_len).cell
          obtain ⟨rfl, rfl⟩ : A4' = A5 ∧ cap4 = cap5 := by injection hvv with e1 e2 e3; exact ⟨e1, e3⟩
          obtain ⟨b2, o2, rfl, hbb2, c0, c1⟩ := hcell j hjl
          clear hcell hvv
          obtain ⟨hkR, hka⟩ := List.getElem?_eq_some_iff.1 HJ.out.at_
          obtain ⟨b3, o3, rfl, hbb3, d0, d1⟩ := hcell3 k hkR
          rw [hka] at d0 d1
          clear hcell3 hka
          have hj0 : (0 : Int) ≤ (j : Int) := by omega
          have hj1 : (j : Int) < (ys.length : Int) := by omega
          have hjd : decide ((j : Int) < (ys.length : Int)) = true := by rw [decide_eq_true_eq]; omega
          have hk0 : (0 : Int) ≤ (k : Int) := by omega
          have hk1 : (k : Int) < (R'.length : Int) := by omega
          have hcpt := Lib.hid (hyp.out ys[j] (List.getElem_mem hjl))
          have hskip := Lib.hid (HJ.out.skip hjl)
          have hput := Lib.hid (hyput.out R' j hjl HJ.out)
          obtain ⟨d, hde⟩ : ∃ d, ys[j] = d := ⟨_, rfl⟩
          rw [hde] at hcpt hskip hput c0 c1
          clear hde
          have hok := Lib.hid (gp_okS hw1 hh1 hcpt.out)
          have HB7 := Lib.hid (HBr.out.alloc HBr.out.size (.cells #[.int .i8 d.x, .int .i8 d.y] 36))
          have HG7 := Lib.hid (HG.out.alloc (.cells #[.int .i8 d.x, .int .i8 d.y] 36))
          have HO7 := Lib.hid (HO.out.alloc (.cells #[.int .i8 d.x, .int .i8 d.y] 36))
          have HY7 := Lib.hid (HY.out.alloc (.cells #[.int .i8 d.x, .int .i8 d.y] 36))
          have HD7 := Lib.hid (Bk.new wr 36 #[.int .i8 d.x, .int .i8 d.y] wr.heap.size rfl)
          have hba := (Below.refl wr.heap.size wr).alloc (Nat.le_refl _) (.cells #[.int .i8 d.x, .int .i8 d.y] 36)
          have d0' := (hba.cell (p := ⟨b3, _, none⟩) hbb3).trans d0
          have d1' := (hba.cell (p := ⟨b3, _, none⟩) hbb3).trans d1
          have hS : RdS (wr.alloc (.cells #[.int .i8 d.x, .int .i8 d.y] 36)) W.heap.size b3 (o3 + k * 2) wr.heap.size w h (.slice A sl.length cap) a d (wr.alloc (.cells #[.int .i8 d.x, .int .i8 d.y] 36)) := ⟨⟨Below.refl _ _, HG7.out.cell 0 _ rfl, HG7.out.cell 1 _ rfl, HG7.out.cell 2 _ rfl, d0', d1'⟩, HD7.out.cell 0 _ rfl, HD7.out.cell 1 _ rfl⟩
          have hlg7 := HG7.out.lt
          have hnb7 := HD7.out.lt
          have hbb7 : b3 < (wr.alloc (.cells #[.int .i8 d.x, .int .i8 d.y] 36)).heap.size := Nat.lt_of_lt_of_le hbb3 hba.size
          have q2 := Lib.hid (fun W' (hk : Below (wr.alloc (.cells #[.int .i8 d.x, .int .i8 d.y] 36)).heap.size (wr.alloc (.cells #[.int .i8 d.x, .int .i8 d.y] 36)) W') => qe.out a d hapt.out hcpt.out W' ((HQ0.out.ext HB7.out).ext hk))
          have q3 := Lib.hid (fun W' (hk : Below (wr.alloc (.cells #[.int .i8 d.x, .int .i8 d.y] 36)).heap.size (wr.alloc (.cells #[.int .i8 d.x, .int .i8 d.y] 36)) W') => qc.out R' (.slice (some ⟨b3, o3, none⟩) R'.length cap3) d W' ((HO7.out.ext hk).sl Cell.c_len))
          have hmem7 := HD7.out.cell 0 _ rfl
          clear HO HY HG HBr d0 d1 d0' d1' hba hmem7
          go_wp2_with fail
          generalize wr.alloc (.cells #[.int .i8 d.x, .int .i8 d.y] 36) = w7 at *
          generalize wr.heap.size = NB at *
          clear c0 c1
          by_cases hen : entI cv a d = 0
          · rw [hen] at q2
            by_cases hmem : d ∈ R'
            · have HN := Lib.hid (hskip.out (fun _ => hmem))
              have hmd : decide (d ∈ R') = true := decide_eq_true hmem
              rw [hmd] at q3
              clear hskip hput hen hmem hmd
              refine wp_region_held_drew (S := (RdS w7 W.heap.size b3 (o3 + k * 2) NB w h (.slice A sl.length cap) a d)) (by kernel_rfl) ?r19_hS0 (fun hHeld => ?r19_rest)
              case r19_hS0 => (try dsimp only); first | assumption | exact RdS.keep hlg7 hbb7 hnb7 (by assumption) ((Below.refl _ _).drew) | exact RdS.keep hlg7 hbb7 hnb7 (by assumption) (by assumption)
              refine wpAnyH_take (i := 0) (v := ?r19_vv0) (by (simp only [List.getElem?_toArray, List.getElem?_cons_succ, List.getElem?_cons_zero]; rfl)) (by kernel_rfl) (by kernel_rfl) (by kernel_rfl) (by exact fun _ _ _ h => h) (Or.inl ⟨by rfl, ?r19_hy0⟩) (by assumption) ?r19_rest0
              case r19_hy0 => intro w hSw; (try dsimp only at hSw); (go_simp <;> (with_reducible rfl))
              try simp only [Act.put, List.setIfInBounds_toArray, List.set_cons_zero, List.set_cons_succ]
              refine wpAnyH_take (i := 1) (v := ?r19_vv1) (by (simp only [List.getElem?_toArray, List.getElem?_cons_succ, List.getElem?_cons_zero]; rfl)) (by kernel_rfl) (by kernel_rfl) (by kernel_rfl) (by exact fun _ _ _ h => h) (Or.inl ⟨by rfl, ?r19_hy1⟩) (by assumption) ?r19_rest1
              case r19_hy1 => intro w hSw; (try dsimp only at hSw); (go_simp <;> (with_reducible rfl))
              try simp only [Act.put, List.setIfInBounds_toArray, List.set_cons_zero, List.set_cons_succ]
              refine wpAnyH_take (i := 2) (v := ?r19_vv2) (by (simp only [List.getElem?_toArray, List.getElem?_cons_succ, List.getElem?_cons_zero]; rfl)) (by kernel_rfl) (by kernel_rfl) (by kernel_rfl) (by exact fun _ _ _ h => h) (Or.inl ⟨by rfl, ?r19_hy2⟩) (by assumption) ?r19_rest2
              case r19_hy2 => intro w hSw; (try dsimp only at hSw); (go_simp <;> (with_reducible rfl))
              try simp only [Act.put, List.setIfInBounds_toArray, List.set_cons_zero, List.set_cons_succ]
              refine wpAnyH_take (i := 3) (v := ?r19_vv3) (by (simp only [List.getElem?_toArray, List.getElem?_cons_succ, List.getElem?_cons_zero]; rfl)) (by kernel_rfl) (by kernel_rfl) (by kernel_rfl) (by exact fun _ _ _ h => h) (Or.inl ⟨by rfl, ?r19_hy3⟩) (by assumption) ?r19_rest3
              case r19_hy3 => intro w hSw; (try dsimp only at hSw); (go_simp <;> (with_reducible rfl))
              try simp only [Act.put, List.setIfInBounds_toArray, List.set_cons_zero, List.set_cons_succ]
              refine wpAnyH_take (i := 4) (v := ?r19_vv4) (by (simp only [List.getElem?_toArray, List.getElem?_cons_succ, List.getElem?_cons_zero]; rfl)) (by kernel_rfl) (by kernel_rfl) (by kernel_rfl) (by exact fun _ _ _ h => h) (Or.inl ⟨by rfl, ?r19_hy4⟩) (by assumption) ?r19_rest4
              case r19_hy4 => intro w hSw; (try dsimp only at hSw); (go_simp <;> (with_reducible rfl))
              try simp only [Act.put, List.setIfInBounds_toArray, List.set_cons_zero, List.set_cons_succ]
              refine wpAnyH_take (i := 5) (v := ?r19_vv5) (by (simp only [List.getElem?_toArray, List.getElem?_cons_succ, List.getElem?_cons_zero]; rfl)) (by kernel_rfl) (by kernel_rfl) (by kernel_rfl) (by exact fun _ _ _ h => h) (Or.inl ⟨by rfl, ?r19_hy5⟩) (by assumption) ?r19_rest5
              case r19_hy5 => intro w hSw; (try dsimp only at hSw); (go_simp <;> (with_reducible rfl))
              try simp only [Act.put, List.setIfInBounds_toArray, List.set_cons_zero, List.set_cons_succ]
              refine wpAnyH_ready (rs := [6]) (by kernel_rfl) (by simp) ?_
              refine AllReadyH.cons (by (simp only [List.getElem?_toArray, List.getElem?_cons_succ, List.getElem?_cons_zero]; rfl)) (fun K hK => ?_) AllReadyH.nil
              go_simp
              (go_at_call 147; (with_reducible refine (q2.out _ (And.left (b := _) (And.left (b := _) (by assumption)))).mono ?_); rintro e w8 ⟨rfl, hb8⟩)
              try go_wp2_with fail
              refine hK.out _ _ ?r19_hS6 (fun hHeld => ?r19_r6)
              case r19_hS6 => (try dsimp only); first | assumption | exact RdS.keep hlg7 hbb7 hnb7 (by assumption) ((Below.refl _ _).drew) | exact RdS.keep hlg7 hbb7 hnb7 (by assumption) (by assumption)
              clear hK K
              try simp only [Act.put, List.setIfInBounds_toArray, List.set_cons_zero, List.set_cons_succ]
              refine wpAnyH_take (i := 7) (v := ?r19_vv7) (by (simp only [List.getElem?_toArray, List.getElem?_cons_succ, List.getElem?_cons_zero]; rfl)) (by kernel_rfl) (by kernel_rfl) (by kernel_rfl) (by exact fun _ _ _ h => h) (Or.inl ⟨by rfl, ?r19_hy7⟩) (by assumption) ?r19_rest7
              case r19_hy7 => intro w hSw; (try dsimp only at hSw); (go_simp <;> (with_reducible rfl))
              try simp only [Act.put, List.setIfInBounds_toArray, List.set_cons_zero, List.set_cons_succ]
              refine wpAnyH_take (i := 8) (v := ?r19_vv8) (by (simp only [List.getElem?_toArray, List.getElem?_cons_succ, List.getElem?_cons_zero]; rfl)) (by kernel_rfl) (by kernel_rfl) (by kernel_rfl) (by exact fun _ _ _ h => h) (Or.inl ⟨by rfl, ?r19_hy8⟩) (by assumption) ?r19_rest8
              case r19_hy8 => intro w hSw; (try dsimp only at hSw); (go_simp <;> (with_reducible rfl))
              try simp only [Act.put, List.setIfInBounds_toArray, List.set_cons_zero, List.set_cons_succ]
              refine wpAnyH_take (i := 9) (v := ?r19_vv9) (by (simp only [List.getElem?_toArray, List.getElem?_cons_succ, List.getElem?_cons_zero]; rfl)) (by kernel_rfl) (by kernel_rfl) (by kernel_rfl) (by exact fun _ _ _ h => h) (Or.inl ⟨by rfl, ?r19_hy9⟩) (by assumption) ?r19_rest9
              case r19_hy9 => intro w hSw; (try dsimp only at hSw); (go_simp <;> (with_reducible rfl))
              try simp only [Act.put, List.setIfInBounds_toArray, List.set_cons_zero, List.set_cons_succ]
              refine wpAnyH_take (i := 10) (v := ?r19_vv10) (by (simp only [List.getElem?_toArray, List.getElem?_cons_succ, List.getElem?_cons_zero]; rfl)) (by kernel_rfl) (by kernel_rfl) (by kernel_rfl) (by exact fun _ _ _ h => h) (Or.inl ⟨by rfl, ?r19_hy10⟩) (by assumption) ?r19_rest10
              case r19_hy10 => intro w hSw; (try dsimp only at hSw); (go_simp <;> (with_reducible rfl))
              try simp only [Act.put, List.setIfInBounds_toArray, List.set_cons_zero, List.set_cons_succ]
              refine wpAnyH_ready (rs := [11]) (by kernel_rfl) (by simp) ?_
              refine AllReadyH.cons (by (simp only [List.getElem?_toArray, List.getElem?_cons_succ, List.getElem?_cons_zero]; rfl)) (fun K hK => ?_) AllReadyH.nil
              go_simp
              (go_at_call 118; (with_reducible refine (q3.out _ (And.left (b := _) (And.left (b := _) (by assumption)))).mono ?_); rintro e w9 ⟨rfl, hb9⟩)
              try go_wp2_with fail
              refine hK.out _ _ ?r19_hS11 (fun hHeld => ?r19_r11)
              case r19_hS11 => (try dsimp only); first | assumption | exact RdS.keep hlg7 hbb7 hnb7 (by assumption) ((Below.refl _ _).drew) | exact RdS.keep hlg7 hbb7 hnb7 (by assumption) (by assumption)
              clear hK K
              try simp only [Act.put, List.setIfInBounds_toArray, List.set_cons_zero, List.set_cons_succ]
              refine wpAnyH_take (i := 12) (v := ?r19_vv12) (by (simp only [List.getElem?_toArray, List.getElem?_cons_succ, List.getElem?_cons_zero]; rfl)) (by kernel_rfl) (by kernel_rfl) (by kernel_rfl) (by exact fun _ _ _ h => h) (Or.inl ⟨by rfl, ?r19_hy12⟩) (by assumption) ?r19_rest12
              case r19_hy12 => intro w hSw; (try dsimp only at hSw); (go_simp <;> (with_reducible rfl))
              try simp only [Act.put, List.setIfInBounds_toArray, List.set_cons_zero, List.set_cons_succ]
              refine wpAnyH_take (i := 13) (v := ?r19_vv13) (by (simp only [List.getElem?_toArray, List.getElem?_cons_succ, List.getElem?_cons_zero]; rfl)) (by kernel_rfl) (by kernel_rfl) (by kernel_rfl) (by exact fun _ _ _ h => h) (Or.inl ⟨by rfl, ?r19_hy13⟩) (by assumption) ?r19_rest13
              case r19_hy13 => intro w hSw; (try dsimp only at hSw); (go_simp <;> (with_reducible rfl))
              try simp only [Act.put, List.setIfInBounds_toArray, List.set_cons_zero, List.set_cons_succ]
              refine wpAnyH_done (by kernel_rfl) ?_ _
              have hE := Lib.hid (show Below w7.heap.size w7 w9 from And.left (b := _) (And.left (b := _) (by assumption)))
              have HB9 := Lib.hid (ext_trans HB7.out hE.out)
              have HG9 := Lib.hid (HG7.out.ext hE.out)
              have HO9 := Lib.hid (HO7.out.ext hE.out)
              have HY9 := Lib.hid (HY7.out.ext hE.out)
              clear hS hb8 hb9
              repeat clear hHeld
              go_wp2_with fail
              go_roundw
              case rel => exact ⟨j + 1, R', by omega, by go_num, HN.out, HD.out, HO9.out, HY9.out, HG9.out, HB9.out⟩
              case measure => first | (simp [intOf]; done) | (simp [intOf]; omega)
            · have HN := Lib.hid (hput.out hen hmem)
              have hmd : decide (d ∈ R') = false := decide_eq_false hmem
              rw [hmd] at q3
              clear hskip hput hen hmem hmd
              refine wp_region_held_drew (S := (RdS w7 W.heap.size b3 (o3 + k * 2) NB w h (.slice A sl.length cap) a d)) (by kernel_rfl) ?r20_hS0 (fun hHeld => ?r20_rest)
              case r20_hS0 => (try dsimp only); first | assumption | exact RdS.keep hlg7 hbb7 hnb7 (by assumption) ((Below.refl _ _).drew) | exact RdS.keep hlg7 hbb7 hnb7 (by assumption) (by assumption)
              refine wpAnyH_take (i := 0) (v := ?r20_vv0) (by (simp only [List.getElem?_toArray, List.getElem?_cons_succ, List.getElem?_cons_zero]; rfl)) (by kernel_rfl) (by kernel_rfl) (by kernel_rfl) (by exact fun _ _ _ h => h) (Or.inl ⟨by rfl, ?r20_hy0⟩) (by assumption) ?r20_rest0
              case r20_hy0 => intro w hSw; (try dsimp only at hSw); (go_simp <;> (with_reducible rfl))
              try simp only [Act.put, List.setIfInBounds_toArray, List.set_cons_zero, List.set_cons_succ]
              refine wpAnyH_take (i := 1) (v := ?r20_vv1) (by (simp only [List.getElem?_toArray, List.getElem?_cons_succ, List.getElem?_cons_zero]; rfl)) (by kernel_rfl) (by kernel_rfl) (by kernel_rfl) (by exact fun _ _ _ h => h) (Or.inl ⟨by rfl, ?r20_hy1⟩) (by assumption) ?r20_rest1
              case r20_hy1 => intro w hSw; (try dsimp only at hSw); (go_simp <;> (with_reducible rfl))
              try simp only [Act.put, List.setIfInBounds_toArray, List.set_cons_zero, List.set_cons_succ]
              refine wpAnyH_take (i := 2) (v := ?r20_vv2) (by (simp only [List.getElem?_toArray, List.getElem?_cons_succ, List.getElem?_cons_zero]; rfl)) (by kernel_rfl) (by kernel_rfl) (by kernel_rfl) (by exact fun _ _ _ h => h) (Or.inl ⟨by rfl, ?r20_hy2⟩) (by assumption) ?r20_rest2
              case r20_hy2 => intro w hSw; (try dsimp only at hSw); (go_simp <;> (with_reducible rfl))
              try simp only [Act.put, List.setIfInBounds_toArray, List.set_cons_zero, List.set_cons_succ]
              refine wpAnyH_take (i := 3) (v := ?r20_vv3) (by (simp only [List.getElem?_toArray, List.getElem?_cons_succ, List.getElem?_cons_zero]; rfl)) (by kernel_rfl) (by kernel_rfl) (by kernel_rfl) (by exact fun _ _ _ h => h) (Or.inl ⟨by rfl, ?r20_hy3⟩) (by assumption) ?r20_rest3
              case r20_hy3 => intro w hSw; (try dsimp only at hSw); (go_simp <;> (with_reducible rfl))
              try simp only [Act.put, List.setIfInBounds_toArray, List.set_cons_zero, List.set_cons_succ]
              refine wpAnyH_take (i := 4) (v := ?r20_vv4) (by (simp only [List.getElem?_toArray, List.getElem?_cons_succ, List.getElem?_cons_zero]; rfl)) (by kernel_rfl) (by kernel_rfl) (by kernel_rfl) (by exact fun _ _ _ h => h) (Or.inl ⟨by rfl, ?r20_hy4⟩) (by assumption) ?r20_rest4
              case r20_hy4 => intro w hSw; (try dsimp only at hSw); (go_simp <;> (with_reducible rfl))
              try simp only [Act.put, List.setIfInBounds_toArray, List.set_cons_zero, List.set_cons_succ]
              refine wpAnyH_take (i := 5) (v := ?r20_vv5) (by (simp only [List.getElem?_toArray, List.getElem?_cons_succ, List.getElem?_cons_zero]; rfl)) (by kernel_rfl) (by kernel_rfl) (by kernel_rfl) (by exact fun _ _ _ h => h) (Or.inl ⟨by rfl, ?r20_hy5⟩) (by assumption) ?r20_rest5
              case r20_hy5 => intro w hSw; (try dsimp only at hSw); (go_simp <;> (with_reducible rfl))
              try simp only [Act.put, List.setIfInBounds_toArray, List.set_cons_zero, List.set_cons_succ]
              refine wpAnyH_ready (rs := [6]) (by kernel_rfl) (by simp) ?_
              refine AllReadyH.cons (by (simp only [List.getElem?_toArray, List.getElem?_cons_succ, List.getElem?_cons_zero]; rfl)) (fun K hK => ?_) AllReadyH.nil
              go_simp
              (go_at_call 147; (with_reducible refine (q2.out _ (And.left (b := _) (And.left (b := _) (by assumption)))).mono ?_); rintro e w8 ⟨rfl, hb8⟩)
              try go_wp2_with fail
              refine hK.out _ _ ?r20_hS6 (fun hHeld => ?r20_r6)
              case r20_hS6 => (try dsimp only); first | assumption | exact RdS.keep hlg7 hbb7 hnb7 (by assumption) ((Below.refl _ _).drew) | exact RdS.keep hlg7 hbb7 hnb7 (by assumption) (by assumption)
              clear hK K
              try simp only [Act.put, List.setIfInBounds_toArray, List.set_cons_zero, List.set_cons_succ]
              refine wpAnyH_take (i := 7) (v := ?r20_vv7) (by (simp only [List.getElem?_toArray, List.getElem?_cons_succ, List.getElem?_cons_zero]; rfl)) (by kernel_rfl) (by kernel_rfl) (by kernel_rfl) (by exact fun _ _ _ h => h) (Or.inl ⟨by rfl, ?r20_hy7⟩) (by assumption) ?r20_rest7
              case r20_hy7 => intro w hSw; (try dsimp only at hSw); (go_simp <;> (with_reducible rfl))
              try simp only [Act.put, List.setIfInBounds_toArray, List.set_cons_zero, List.set_cons_succ]
              refine wpAnyH_take (i := 8) (v := ?r20_vv8) (by (simp only [List.getElem?_toArray, List.getElem?_cons_succ, List.getElem?_cons_zero]; rfl)) (by kernel_rfl) (by kernel_rfl) (by kernel_rfl) (by exact fun _ _ _ h => h) (Or.inl ⟨by rfl, ?r20_hy8⟩) (by assumption) ?r20_rest8
              case r20_hy8 => intro w hSw; (try dsimp only at hSw); (go_simp <;> (with_reducible rfl))
              try simp only [Act.put, List.setIfInBounds_toArray, List.set_cons_zero, List.set_cons_succ]
              refine wpAnyH_take (i := 9) (v := ?r20_vv9) (by (simp only [List.getElem?_toArray, List.getElem?_cons_succ, List.getElem?_cons_zero]; rfl)) (by kernel_rfl) (by kernel_rfl) (by kernel_rfl) (by exact fun _ _ _ h => h) (Or.inl ⟨by rfl, ?r20_hy9⟩) (by assumption) ?r20_rest9
              case r20_hy9 => intro w hSw; (try dsimp only at hSw); (go_simp <;> (with_reducible rfl))
              try simp only [Act.put, List.setIfInBounds_toArray, List.set_cons_zero, List.set_cons_succ]
              refine wpAnyH_take (i := 10) (v := ?r20_vv10) (by (simp only [List.getElem?_toArray, List.getElem?_cons_succ, List.getElem?_cons_zero]; rfl)) (by kernel_rfl) (by kernel_rfl) (by kernel_rfl) (by exact fun _ _ _ h => h) (Or.inl ⟨by rfl, ?r20_hy10⟩) (by assumption) ?r20_rest10
              case r20_hy10 => intro w hSw; (try dsimp only at hSw); (go_simp <;> (with_reducible rfl))
              try simp only [Act.put, List.setIfInBounds_toArray, List.set_cons_zero, List.set_cons_succ]
              refine wpAnyH_ready (rs := [11]) (by kernel_rfl) (by simp) ?_
              refine AllReadyH.cons (by (simp only [List.getElem?_toArray, List.getElem?_cons_succ, List.getElem?_cons_zero]; rfl)) (fun K hK => ?_) AllReadyH.nil
              go_simp
              (go_at_call 118; (with_reducible refine (q3.out _ (And.left (b := _) (And.left (b := _) (by assumption)))).mono ?_); rintro e w9 ⟨rfl, hb9⟩)
              try go_wp2_with fail
              refine hK.out _ _ ?r20_hS11 (fun hHeld => ?r20_r11)
              case r20_hS11 => (try dsimp only); first | assumption | exact RdS.keep hlg7 hbb7 hnb7 (by assumption) ((Below.refl _ _).drew) | exact RdS.keep hlg7 hbb7 hnb7 (by assumption) (by assumption)
              clear hK K
              try simp only [Act.put, List.setIfInBounds_toArray, List.set_cons_zero, List.set_cons_succ]
              refine wpAnyH_take (i := 12) (v := ?r20_vv12) (by (simp only [List.getElem?_toArray, List.getElem?_cons_succ, List.getElem?_cons_zero]; rfl)) (by kernel_rfl) (by kernel_rfl) (by kernel_rfl) (by exact fun _ _ _ h => h) (Or.inl ⟨by rfl, ?r20_hy12⟩) (by assumption) ?r20_rest12
              case r20_hy12 => intro w hSw; (try dsimp only at hSw); (go_simp <;> (with_reducible rfl))
              try simp only [Act.put, List.setIfInBounds_toArray, List.set_cons_zero, List.set_cons_succ]
              refine wpAnyH_take (i := 13) (v := ?r20_vv13) (by (simp only [List.getElem?_toArray, List.getElem?_cons_succ, List.getElem?_cons_zero]; rfl)) (by kernel_rfl) (by kernel_rfl) (by kernel_rfl) (by exact fun _ _ _ h => h) (Or.inl ⟨by rfl, ?r20_hy13⟩) (by assumption) ?r20_rest13
              case r20_hy13 => intro w hSw; (try dsimp only at hSw); (go_simp <;> (with_reducible rfl))
              try simp only [Act.put, List.setIfInBounds_toArray, List.set_cons_zero, List.set_cons_succ]
              refine wpAnyH_done (by kernel_rfl) ?_ _
              have hE := Lib.hid (show Below w7.heap.size w7 w9 from And.left (b := _) (And.left (b := _) (by assumption)))
              have HB9 := Lib.hid (ext_trans HB7.out hE.out)
              have HG9 := Lib.hid (HG7.out.ext hE.out)
              have HO9 := Lib.hid (HO7.out.ext hE.out)
              have HY9 := Lib.hid (HY7.out.ext hE.out)
              have HX9 := Lib.hid (HD7.out.ext hE.out)
              have x0 := HX9.out.cell 0 _ rfl
              have x1 := HX9.out.cell 1 _ rfl
              clear hS hb8 hb9
              repeat clear hHeld
              have hba := Lib.hid (HB9.out.alloc HB9.out.size (.cells #[.int .i8 d.x, .int .i8 d.y] 36))
              go_wp2_with (at_builtin; refine push_cellat rfl _ _ rfl (W.heap.size + 1) R' _ rfl (HO9.out.alloc _) _ d rfl (Bk.new _ _ _ _ (by simp)) (by omega) (Nat.le_trans HG9.out.lt (by simp)) ?_)
              intro v10 w10 hO10 hG10 hat10
              have HB10 := Lib.hid (hba.out.grown hG10 hba.out.size (fun j hj => Nat.le_trans (by omega) (HO9.out.base j hj)))
              have HG10 := Lib.hid (show Bk w10 W.heap.size 34 #[.int .i8 w, .int .i8 h, .slice A sl.length cap] from (hG10.block _ (HG9.out.alloc _).lt (fun he => by have := HO9.out.base _ he.symm; omega)).trans (HG9.out.alloc _))
              have HY10 := Lib.hid ((HY9.out.alloc (.cells #[.int .i8 d.x, .int .i8 d.y] 36)).keep (fun j hj => hG10.block j ((HY9.out.alloc (.cells #[.int .i8 d.x, .int .i8 d.y] 36)).lt j hj) (fun he => HD.out j hj he.symm)))
              have HO10 := Lib.hid hO10
              have HD10 := Lib.hid (show DisS (.slice (some ⟨b2, o2, none⟩) ys.length cap4) v10 from fun j h1 h2 => by
                rcases hat10 with e | e
                · exact HD.out j h1 (e ▸ h2)
                · have h3 := HY9.out.lt j h1
                  rw [h2] at e
                  injection e with e
                  omega)
              clear hO10 hG10 hat10 x0 x1
              go_wp2_with fail
              go_roundw
              case rel => exact ⟨j + 1, _, by omega, by go_num, HN.out, HD10.out, HO10.out, HY10.out, HG10.out, HB10.out⟩
              case measure => first | (simp [intOf]; done) | (simp [intOf]; omega)
          · have HN := Lib.hid (hskip.out (fun h => absurd h hen))
            have hed : (entI cv a d == 0) = false := by simpa using hen
            clear hskip hput hen q3
            generalize entI cv a d = en at *
            refine wp_region_held_drew (S := (RdS w7 W.heap.size b3 (o3 + k * 2) NB w h (.slice A sl.length cap) a d)) (by kernel_rfl) ?r21_hS0 (fun hHeld => ?r21_rest)
            case r21_hS0 => (try dsimp only); first | assumption | exact RdS.keep hlg7 hbb7 hnb7 (by assumption) ((Below.refl _ _).drew) | exact RdS.keep hlg7 hbb7 hnb7 (by assumption) (by assumption)
            refine wpAnyH_take (i := 0) (v := ?r21_vv0) (by (simp only [List.getElem?_toArray, List.getElem?_cons_succ, List.getElem?_cons_zero]; rfl)) (by kernel_rfl) (by kernel_rfl) (by kernel_rfl) (by exact fun _ _ _ h => h) (Or.inl ⟨by rfl, ?r21_hy0⟩) (by assumption) ?r21_rest0
            case r21_hy0 => intro w hSw; (try dsimp only at hSw); (go_simp <;> (with_reducible rfl))
            try simp only [Act.put, List.setIfInBounds_toArray, List.set_cons_zero, List.set_cons_succ]
            refine wpAnyH_take (i := 1) (v := ?r21_vv1) (by (simp only [List.getElem?_toArray, List.getElem?_cons_succ, List.getElem?_cons_zero]; rfl)) (by kernel_rfl) (by kernel_rfl) (by kernel_rfl) (by exact fun _ _ _ h => h) (Or.inl ⟨by rfl, ?r21_hy1⟩) (by assumption) ?r21_rest1
            case r21_hy1 => intro w hSw; (try dsimp only at hSw); (go_simp <;> (with_reducible rfl))
            try simp only [Act.put, List.setIfInBounds_toArray, List.set_cons_zero, List.set_cons_succ]
            refine wpAnyH_take (i := 2) (v := ?r21_vv2) (by (simp only [List.getElem?_toArray, List.getElem?_cons_succ, List.getElem?_cons_zero]; rfl)) (by kernel_rfl) (by kernel_rfl) (by kernel_rfl) (by exact fun _ _ _ h => h) (Or.inl ⟨by rfl, ?r21_hy2⟩) (by assumption) ?r21_rest2
            case r21_hy2 => intro w hSw; (try dsimp only at hSw); (go_simp <;> (with_reducible rfl))
            try simp only [Act.put, List.setIfInBounds_toArray, List.set_cons_zero, List.set_cons_succ]
            refine wpAnyH_take (i := 3) (v := ?r21_vv3) (by (simp only [List.getElem?_toArray, List.getElem?_cons_succ, List.getElem?_cons_zero]; rfl)) (by kernel_rfl) (by kernel_rfl) (by kernel_rfl) (by exact fun _ _ _ h => h) (Or.inl ⟨by rfl, ?r21_hy3⟩) (by assumption) ?r21_rest3
            case r21_hy3 => intro w hSw; (try dsimp only at hSw); (go_simp <;> (with_reducible rfl))
            try simp only [Act.put, List.setIfInBounds_toArray, List.set_cons_zero, List.set_cons_succ]
            refine wpAnyH_take (i := 4) (v := ?r21_vv4) (by (simp only [List.getElem?_toArray, List.getElem?_cons_succ, List.getElem?_cons_zero]; rfl)) (by kernel_rfl) (by kernel_rfl) (by kernel_rfl) (by exact fun _ _ _ h => h) (Or.inl ⟨by rfl, ?r21_hy4⟩) (by assumption) ?r21_rest4
            case r21_hy4 => intro w hSw; (try dsimp only at hSw); (go_simp <;> (with_reducible rfl))
            try simp only [Act.put, List.setIfInBounds_toArray, List.set_cons_zero, List.set_cons_succ]
            refine wpAnyH_take (i := 5) (v := ?r21_vv5) (by (simp only [List.getElem?_toArray, List.getElem?_cons_succ, List.getElem?_cons_zero]; rfl)) (by kernel_rfl) (by kernel_rfl) (by kernel_rfl) (by exact fun _ _ _ h => h) (Or.inl ⟨by rfl, ?r21_hy5⟩) (by assumption) ?r21_rest5
            case r21_hy5 => intro w hSw; (try dsimp only at hSw); (go_simp <;> (with_reducible rfl))
            try simp only [Act.put, List.setIfInBounds_toArray, List.set_cons_zero, List.set_cons_succ]
            refine wpAnyH_ready (rs := [6]) (by kernel_rfl) (by simp) ?_
            refine AllReadyH.cons (by (simp only [List.getElem?_toArray, List.getElem?_cons_succ, List.getElem?_cons_zero]; rfl)) (fun K hK => ?_) AllReadyH.nil
            go_simp
            (go_at_call 147; (with_reducible refine (q2.out _ (And.left (b := _) (And.left (b := _) (by assumption)))).mono ?_); rintro e w8 ⟨rfl, hb8⟩)
            try go_wp2_with fail
            refine hK.out _ _ ?r21_hS6 (fun hHeld => ?r21_r6)
            case r21_hS6 => (try dsimp only); first | assumption | exact RdS.keep hlg7 hbb7 hnb7 (by assumption) ((Below.refl _ _).drew) | exact RdS.keep hlg7 hbb7 hnb7 (by assumption) (by assumption)
            clear hK K
            try simp only [Act.put, List.setIfInBounds_toArray, List.set_cons_zero, List.set_cons_succ]
            refine wpAnyH_take (i := 7) (v := ?r21_vv7) (by (simp only [List.getElem?_toArray, List.getElem?_cons_succ, List.getElem?_cons_zero]; rfl)) (by kernel_rfl) (by kernel_rfl) (by kernel_rfl) (by exact fun _ _ _ h => h) (Or.inl ⟨by rfl, ?r21_hy7⟩) (by assumption) ?r21_rest7
            case r21_hy7 => intro w hSw; (try dsimp only at hSw); (go_simp <;> (with_reducible rfl))
            try simp only [Act.put, List.setIfInBounds_toArray, List.set_cons_zero, List.set_cons_succ]
            refine wpAnyH_take (i := 8) (v := ?r21_vv8) (by (simp only [List.getElem?_toArray, List.getElem?_cons_succ, List.getElem?_cons_zero]; rfl)) (by kernel_rfl) (by kernel_rfl) (by kernel_rfl) (by exact fun _ _ _ h => h) (Or.inl ⟨by rfl, ?r21_hy8⟩) (by assumption) ?r21_rest8
            case r21_hy8 => intro w hSw; (try dsimp only at hSw); (go_simp <;> (with_reducible rfl))
            try simp only [Act.put, List.setIfInBounds_toArray, List.set_cons_zero, List.set_cons_succ]
            refine wpAnyH_take (i := 9) (v := undef) (by (simp only [List.getElem?_toArray, List.getElem?_cons_succ, List.getElem?_cons_zero]; rfl)) (by kernel_rfl) (by kernel_rfl) (by kernel_rfl) (by exact fun _ _ _ h => h) (Or.inr ⟨by rfl, rfl⟩) (by assumption) ?_
            try simp only [Act.put, List.setIfInBounds_toArray, List.set_cons_zero, List.set_cons_succ]
            refine wpAnyH_take (i := 10) (v := undef) (by (simp only [List.getElem?_toArray, List.getElem?_cons_succ, List.getElem?_cons_zero]; rfl)) (by kernel_rfl) (by kernel_rfl) (by kernel_rfl) (by exact fun _ _ _ h => h) (Or.inr ⟨by rfl, rfl⟩) (by assumption) ?_
            try simp only [Act.put, List.setIfInBounds_toArray, List.set_cons_zero, List.set_cons_succ]
            refine wpAnyH_take (i := 11) (v := undef) (by (simp only [List.getElem?_toArray, List.getElem?_cons_succ, List.getElem?_cons_zero]; rfl)) (by kernel_rfl) (by kernel_rfl) (by kernel_rfl) (by exact fun _ _ _ h => h) (Or.inr ⟨by rfl, rfl⟩) (by assumption) ?_
            try simp only [Act.put, List.setIfInBounds_toArray, List.set_cons_zero, List.set_cons_succ]
            refine wpAnyH_take (i := 12) (v := undef) (by (simp only [List.getElem?_toArray, List.getElem?_cons_succ, List.getElem?_cons_zero]; rfl)) (by kernel_rfl) (by kernel_rfl) (by kernel_rfl) (by exact fun _ _ _ h => h) (Or.inr ⟨by rfl, rfl⟩) (by assumption) ?_
            try simp only [Act.put, List.setIfInBounds_toArray, List.set_cons_zero, List.set_cons_succ]
            refine wpAnyH_take (i := 13) (v := ?r21_vv13) (by (simp only [List.getElem?_toArray, List.getElem?_cons_succ, List.getElem?_cons_zero]; rfl)) (by kernel_rfl) (by kernel_rfl) (by kernel_rfl) (by exact fun _ _ _ h => h) (Or.inl ⟨by rfl, ?r21_hy13⟩) (by assumption) ?r21_rest13
            case r21_hy13 => intro w hSw; (try dsimp only at hSw); (go_simp <;> (with_reducible rfl))
            try simp only [Act.put, List.setIfInBounds_toArray, List.set_cons_zero, List.set_cons_succ]
            refine wpAnyH_done (by kernel_rfl) ?_ _
            have hE := Lib.hid (show Below w7.heap.size w7 w8 from And.left (b := _) (And.left (b := _) (by assumption)))
            have HB9 := Lib.hid (ext_trans HB7.out hE.out)
            have HG9 := Lib.hid (HG7.out.ext hE.out)
            have HO9 := Lib.hid (HO7.out.ext hE.out)
            have HY9 := Lib.hid (HY7.out.ext hE.out)
            clear hS hb8
            repeat clear hHeld
            go_wp2_with fail
            go_roundw
            case rel => exact ⟨j + 1, R', by omega, by go_num, HN.out, HD.out, HO9.out, HY9.out, HG9.out, HB9.out⟩
            case measure => first | (simp [intOf]; done) | (simp [intOf]; omega)
        · obtain rfl : j = ys.length := by omega
          have hjd : decide ((ys.length : Int) < (ys.length : Int)) = false := by rw [decide_eq_false_iff_not]; omega
          have HI9 := Lib.hid (hfin.out R' HJ.out)
          have hkR := (List.getElem?_eq_some_iff.1 HJ.out.at_).1
          go_wp2_with fail
          go_roundw
          case rel => exact ⟨k + 1, R', by omega, by go_num, HI9.out, HO.out, HG.out, HBr.out⟩
          case measure => first | (simp [intOf]; done) | (simp [intOf]; omega)
    · obtain rfl : k = R.length := by omega
      have hfin := Lib.hid HI.out.fin
      have hkd : decide ((R.length : Int) < (R.length : Int)) = false := by rw [decide_eq_false_iff_not]; omega
      go_wp2_with fail
      go_ret
      exact ⟨⟨_, R, rfl, HO.out.more (by omega), hfin.out, hRl⟩, HBr.out⟩
end Go.Proofs.Yteflpdfajfljfaa
