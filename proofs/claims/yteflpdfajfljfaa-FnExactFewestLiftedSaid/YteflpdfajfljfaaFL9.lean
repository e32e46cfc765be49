/-
The first list of the fewest slabs that are lifted, of the reference. Conditions: the square is valid, both ends are its cells.
-/
import Derived.Test.YteflpdfajfljfaaFL8
set_option linter.unusedVariables false
set_option linter.unusedSimpArgs false
set_option maxRecDepth 100000
namespace Go.Proofs.Yteflpdfajfljfaa
open Go.RowKit
structure CfI (W : World) (b o : Nat) (w h : Int) (z : Value) (sl : List Slab) (fr : Cell) (G7 G9 : Nat) (LC : List Int) (B8 : Nat) (v8 : Value) (xs : List Cell) (x : World) : Prop where
  box : Bk x W.heap.size 36 #[.int .i8 fr.x, .int .i8 fr.y]
  grid : Bk x G7 70 (gcells (gridL sl))
  tab : Bk x G9 69 (gcells LC)
  row : Own x B8 36 Cell.c 2 v8 xs
  sq : Sq.at_ x b o w h z
  bel : Below W.heap.size W x
  s1 : W.heap.size + 1 < G7
  s2 : G7 < G9
  s3 : G9 < B8
  s4 : b < W.heap.size
section
variable {W x y : World} {b o : Nat} {w h : Int} {z : Value} {sl : List Slab} {G7 G9 B8 : Nat} {fr : Cell} {LC : List Int} {v8 : Value} {xs : List Cell}
theorem CfI.ext (q : CfI W b o w h z sl fr G7 G9 LC B8 v8 xs x) (hb : Below x.heap.size x y) : CfI W b o w h z sl fr G7 G9 LC B8 v8 xs y :=
  ⟨q.box.ext hb, q.grid.ext hb, q.tab.ext hb, q.row.ext hb, q.sq.ext hb, ext_trans q.bel hb, q.s1, q.s2, q.s3, q.s4⟩
theorem CfI.alloc (q : CfI W b o w h z sl fr G7 G9 LC B8 v8 xs x) (ob : Obj) : CfI W b o w h z sl fr G7 G9 LC B8 v8 xs (x.alloc ob) := q.ext ((Below.refl _ _).alloc (Nat.le_refl _) ob)
theorem CfI.at_ (q : CfI W b o w h z sl fr G7 G9 LC B8 v8 xs x) (he : y.heap = x.heap) (h1 : y.os = x.os) (h2 : y.tape = x.tape) (h3 : y.output = x.output) : CfI W b o w h z sl fr G7 G9 LC B8 v8 xs y :=
  ⟨q.box.at_S he, q.grid.at_S he, q.tab.at_S he, own_atS q.row he, q.sq.at_S he, below_atS q.bel he h1 h2 h3, q.s1, q.s2, q.s3, q.s4⟩
theorem CfI.grown {ob : Option Nat} (q : CfI W b o w h z sl fr G7 G9 LC B8 v8 xs x) (hG : x.grownBy y ob) (hB : ∀ j, ob = some j → G9 < j) (hD : ∀ j, v8.ownBlock = some j → some j ≠ ob) : CfI W b o w h z sl fr G7 G9 LC B8 v8 xs y := by
  have e1 := q.s1
  have e2 := q.s2
  have e4 := q.s4
  have hc : ∀ p, p ≤ G9 → p < x.heap.size → ∀ k, y.cell? ⟨p, k, none⟩ = x.cell? ⟨p, k, none⟩ := fun p hp hp2 k => by simp only [World.cell?, hG.block p hp2 (fun e => by have := hB _ e.symm; omega)]
  have hbx := q.sq.lt
  exact ⟨q.box.grownOb hG (fun e => by have := hB _ e.symm; omega), q.grid.grownOb hG (fun e => by have := hB _ e.symm; omega), q.tab.grownOb hG (fun e => by have := hB _ e.symm; omega), q.row.grownOb hG hD,
    ⟨(hc b (by omega) hbx _).trans q.sq.c0, (hc b (by omega) hbx _).trans q.sq.c1, (hc b (by omega) hbx _).trans q.sq.c2, Nat.lt_of_lt_of_le hbx hG.size⟩, q.bel.grown hG q.bel.size (fun j hj => by have := hB j hj; omega), q.s1, q.s2, q.s3, q.s4⟩
end
theorem any_take (p : Cell → Bool) (xs : List Cell) (k : Nat) (hk : k < xs.length) : (xs.take (k + 1)).any p = ((xs.take k).any p || p xs[k]) := by
  rw [List.take_succ_eq_append_getElem hk, List.any_append]; simp
abbrev CmF' (tb to_ gb gi : Nat) (t : Cell) (gv : Int) (w' : World) : Prop :=
  w'.cell? ⟨tb, to_, none⟩ = some (.int .i8 t.x) ∧ w'.cell? ⟨tb, to_ + 1, none⟩ = some (.int .i8 t.y) ∧ w'.cell? ⟨gb, gi, none⟩ = some (.int .i64 gv)
abbrev CmF (tb gb gi : Nat) (t : Cell) (gv : Int) (w' : World) : Prop :=
  w'.cell? ⟨tb, 0, none⟩ = some (.int .i8 t.x) ∧ w'.cell? ⟨tb, 1, none⟩ = some (.int .i8 t.y) ∧ w'.cell? ⟨gb, gi, none⟩ = some (.int .i64 gv)
theorem CmF.keep {w1 w2 : World} {tb gb gi : Nat} {t : Cell} {gv : Int} (h : CmF tb gb gi t gv w1) (h1 : tb < w1.heap.size) (h2 : gb < w1.heap.size) (k : Below w1.heap.size w1 w2) : CmF tb gb gi t gv w2 :=
  ⟨(k.cell (p := ⟨tb, 0, none⟩) h1).trans h.1, (k.cell (p := ⟨tb, 1, none⟩) h1).trans h.2.1, (k.cell (p := ⟨gb, gi, none⟩) h2).trans h.2.2⟩
theorem CmF.app {w1 w2 : World} {tb gb gi : Nat} {t : Cell} {gv : Int} {ob : Option Nat} (h : CmF tb gb gi t gv w1) (h1 : tb < w1.heap.size) (h2 : gb < w1.heap.size) (hG : w1.grownBy w2 ob) (n1 : some tb ≠ ob) (n2 : some gb ≠ ob) : CmF tb gb gi t gv w2 := by
  have q1 := hG.block tb h1 n1
  have q2 := hG.block gb h2 n2
  exact ⟨by have := h.1; simp only [World.cell?, q1] at this ⊢; exact this, by have := h.2.1; simp only [World.cell?, q1] at this ⊢; exact this, by have := h.2.2; simp only [World.cell?, q2] at this ⊢; exact this⟩
set_option maxHeartbeats 8000000 in
theorem sFewest_calls (b o : Nat) (w h : Int) (z : Value) (sl : List Slab) (fr tg : Cell) (hv : sqOk w h sl = true) (hf : gpB w h fr = true) (ht : gpB w h tg = true) (W : World) (hq : SqIn W w h z sl) (ha : Sq.at_ W b o w h z) :
    Calls Try.prog 77 #[.pointer (some ⟨b, o, none⟩), fr.v, tg.v] W fun e w' => (∃ u, e = .returned u ∧ Own w' W.heap.size 2 i64c 1 u (fewL w h (cvS sl) fr tg)) ∧ Below W.heap.size W w' := by
  obtain ⟨⟨hw0, hw1⟩, ⟨hh0, hh1⟩, -⟩ := sqOk_edges hv
  have HQ0 := Lib.hid hq
  have HA0 := Lib.hid ha
  have HF := Lib.hid hf
  have HT := Lib.hid ht
  have hW := Lib.hid (cvS_whole hv)
  have e1 : ((w.toNat : Nat) : Int) = w := by omega
  have e2 : ((h.toNat : Nat) : Int) = h := by omega
  have qa := Lib.hid (fun W' (ha' : Sq.at_ W' b o ((w.toNat : Nat) : Int) ((h.toNat : Nat) : Int) z) => sAll_callsS b o w.toNat h.toNat (by omega) (by omega) z W' ha')
  rw [e1, e2] at qa
  have hpt := Lib.hid (fun c => ptsS_mem w.toNat h.toNat c)
  rw [e1, e2] at hpt
  have hpl := Lib.hid (show (ptsS w.toNat h.toNat).length ≤ 144 from by
    rw [ptsS_len]
    have : h.toNat * w.toNat ≤ 12 * 12 := Nat.mul_le_mul (by omega) (by omega)
    omega)
  generalize ptsS w.toNat h.toNat = xs at *
  have hge := Lib.hid (cvS_ge sl)
  have qc := Lib.hid (fun W' hq' ha' => sCosts_calls b o w h z sl tg hv ht W' hq' ha')
  have qr := Lib.hid (fun out v W' hq' ha' hs' => sReach_calls b o w h z sl fr out v hv hf W' hq' ha' hs')
  have qs := Lib.hid (fun c (hc : gpB w h c = true) W' ha' => sSides_calls b o w h hq.w0 hq.w1 hq.h0 hq.h1 z c (gpB_true.1 hc).1 (by have := gpB_true.1 hc; omega) (gpB_true.1 hc).2.2.1 (by have := gpB_true.1 hc; omega) W' ha')
  have hub := Lib.hid (fun c => show cvS sl c < 60 from by have h1 := (atI_bounds sl c.x c.y).2; have h2 : sl.length ≤ 60 := (by simp only [sqOk, Bool.and_eq_true, decide_eq_true_eq] at hv; exact hv.1.2); unfold cvS; omega)
  have hgrd := Lib.hid (gridT_nat sl)
  have hB := ext_alloc ((Below.refl W.heap.size W).alloc (Nat.le_refl _) (.cells #[.int .i8 fr.x, .int .i8 fr.y] 36)) (.cells #[.int .i8 tg.x, .int .i8 tg.y] 36)
  have HB := Lib.hid hB
  have K3 := Lib.hid ((Bk.new W 36 #[.int .i8 fr.x, .int .i8 fr.y] W.heap.size rfl).alloc (.cells #[.int .i8 tg.x, .int .i8 tg.y] 36))
  have K4 := Lib.hid (Bk.new (W.alloc (.cells #[.int .i8 fr.x, .int .i8 fr.y] 36)) 36 #[.int .i8 tg.x, .int .i8 tg.y] (W.heap.size + 1) (by simp))
  have ql := Lib.hid (lay_calls b o w h hq.w0 hq.w1 hq.h0 hq.h1 sl hq.ok z _ (hq.sl.ext hB) (ha.ext hB))
  rw [hv] at ql
  have hbl := Lib.hid ha.lt
  clear hB hq ha hf ht e1 e2
  unfold Cell.v at *
  go_enter Try.func77, Try.ntmps77
  go_wp2_with fail
  refine ql.out.mono ?_
  rintro e w1 ⟨g, rfl, hgl, hgr, hb1⟩
  have hgg := hgr rfl
  subst hgg
  have HB1 := Lib.hid (ext_trans HB.out hb1)
  have HB5 := Lib.hid (HB1.out.alloc HB1.out.size (.cells Try.zeroCells70 70))
  have K5 := Lib.hid (Bk.new w1 70 Try.zeroCells70 w1.heap.size rfl)
  have K31 := Lib.hid ((K3.out.ext hb1).alloc (.cells Try.zeroCells70 70))
  have K41 := Lib.hid ((K4.out.ext hb1).alloc (.cells Try.zeroCells70 70))
  have hs5 := Lib.hid (show W.heap.size + 1 < w1.heap.size from (K4.out.ext hb1).lt)
  have hglH := Lib.hid hgl
  clear hb1 hgl hgr K3 K4 HB ql
  go_wp2_with (refine wpList_store_bk rfl 70 (.tmp 7) (.tmp 22) rfl _ (gcells (gridL sl)) rfl rfl _ _ K5.out (by rw [zsize, gcells_size, hglH.out]) (ginfo _ hglH.out) (gcells_one _) ?_)
  intro w6 k6 G6
  have KG6 := Lib.hid k6
  have HB6 := Lib.hid (HB5.out.grown G6 HB5.out.size (fun j hj => by injection hj with hj; have := hs5.out; omega))
  have K36 := Lib.hid (K31.out.grown G6 (by have := hs5.out; omega))
  have K46 := Lib.hid (K41.out.grown G6 (by have := hs5.out; omega))
  clear k6 G6 K5 K31 K41 HB5 HB1
  generalize w1.heap.size = G7 at *
  have x0 := K46.out.cell 0 _ rfl
  have x1 := K46.out.cell 1 _ rfl
  go_wp2_with fail
  refine (qc.out _ (HQ0.out.ext HB6.out) (HA0.out.ext HB6.out)).mono ?_
  rintro e w7 ⟨⟨LC, hLC, hD, rfl⟩, hb7⟩
  have hLC := Lib.hid hLC
  have hD := Lib.hid hD
  have HB7 := Lib.hid (ext_alloc (ext_trans HB6.out hb7) (.cells Try.zeroCells69 69))
  have K7 := Lib.hid (Bk.new w7 69 Try.zeroCells69 w7.heap.size rfl)
  have K37 := Lib.hid ((K36.out.ext hb7).alloc (.cells Try.zeroCells69 69))
  have KG7 := Lib.hid ((KG6.out.ext hb7).alloc (.cells Try.zeroCells69 69))
  have hs7 := Lib.hid (show G7 < w7.heap.size from (KG6.out.ext hb7).lt)
  clear hb7 KG6 K36 K46 HB6 x0 x1
  dsimp only
  go_wp2_with (refine wpList_store_bk rfl 69 (.tmp 9) (.tmp 26) rfl _ (gcells LC) rfl rfl _ _ K7.out (by rw [zeroT, gcells_size, gcells_size, hLC.out]; rfl) (infoT LC hLC.out) (gcells_one _) ?_)
  intro w8 k8 G8
  have KT8 := Lib.hid k8
  have HB8 := Lib.hid (HB7.out.grown G8 HB7.out.size (fun j hj => by injection hj with hj; have := hs7.out; have := hs5.out; omega))
  have KG8 := Lib.hid (KG7.out.grown G8 (by have := hs7.out; omega))
  have K38 := Lib.hid (K37.out.grown G8 (by have := hs7.out; have := hs5.out; omega))
  clear k8 G8 K7 KG7 K37 HB7
  generalize w7.heap.size = G9 at *
  obtain ⟨fa, fb, hfa, hfb, rfl⟩ := ptT_nat hw1 hh1 HF.out
  obtain ⟨E, hE0⟩ : ∃ E : Cell → Int, E = fun c => atT LC c - onI (cvS sl) c := ⟨_, rfl⟩
  rw [← hE0] at hD
  have hCE := Lib.hid (fun c => show atT LC c = E c + onI (cvS sl) c from by rw [hE0]; show atT LC c = atT LC c - onI (cvS sl) c + onI (cvS sl) c; omega)
  clear hE0
  have hEf0 := hD.out.pos ⟨(fa : Int), (fb : Int)⟩ HF.out
  have hE22 := hD.out.le22 hw1 hh1 HT.out ⟨(fa : Int), (fb : Int)⟩ HF.out
  have HX := Lib.hid (show CfI W b o w h z sl ⟨(fa : Int), (fb : Int)⟩ G7 G9 LC w8.heap.size (.slice none 0 0) [] w8 from ⟨K38.out, KG8.out, KT8.out, Own.nil_ _ _ _ _ _, HA0.out.ext HB8.out, HB8.out, hs5.out, hs7.out, KT8.out.lt, hbl.out⟩)
  clear KT8 HB8 KG8 K38
  have HXa := Lib.hid (HX.out.alloc (.cells #[] 2))
  have HO := Lib.hid (Own.empty (α := Int) (c := i64c) (sz := 1) (E := 2) w8 w8.heap.size w8.heap.size rfl (Nat.le_refl _))
  have hs9 := Lib.hid (show w8.heap.size ≤ (w8.alloc (.cells #[] 2)).heap.size from by simp)
  clear HX
  go_wp2_with fail
  generalize w8.alloc (.cells #[] 2) = w9 at *
  generalize w8.heap.size = B1 at *
  have x0 := HXa.out.box.cell 0 _ rfl
  have x1 := HXa.out.box.cell 1 _ rfl
  have gv := HXa.out.grid.cell _ _ (hgrd.out fa fb hfa hfb)
  have i0 : (fa : Int) < 12 := by omega
  have i1 : (fb : Int) < 12 := by omega
  have lF := hge.out ⟨(fa : Int), (fb : Int)⟩
  have uF := hub.out ⟨(fa : Int), (fb : Int)⟩
  have hlt1 := HXa.out.box.lt
  have hlt2 := HXa.out.grid.lt
  have hS : CmF W.heap.size G7 (fb * 12 + fa) ⟨(fa : Int), (fb : Int)⟩ (cvS sl ⟨(fa : Int), (fb : Int)⟩ + 1) w9 := ⟨x0, x1, gv⟩
  go_quiet (fail)
  go_upto_if 35 with (fail)
  replace HXa := Lib.hid (HXa.out.at_ (y := w9.drewN nq) rfl rfl rfl rfl)
  replace HO := Lib.hid (own_atS (w' := w9.drewN nq) HO.out rfl)
  replace hS : CmF W.heap.size G7 (fb * 12 + fa) ⟨(fa : Int), (fb : Int)⟩ (cvS sl ⟨(fa : Int), (fb : Int)⟩ + 1) (w9.drewN nq) := hS
  replace hs9 : Hid (B1 ≤ (w9.drewN nq).heap.size) := Lib.hid hs9.out
  replace hlt1 : W.heap.size < (w9.drewN nq).heap.size := hlt1
  replace hlt2 : G7 < (w9.drewN nq).heap.size := hlt2
  generalize w9.drewN nq = wq at *
  clear x0 x1 gv
  have hGB := Lib.hid (show G9 < B1 from HXa.out.s3)
  generalize hcv0 : cvS sl ⟨(fa : Int), (fb : Int)⟩ = cv0 at *
  go_cut [10] (fun oo wx => Own wx B1 2 i64c 1 oo (if 0 ≤ cv0 then [cv0] else []) ∧ CfI W b o w h z sl ⟨(fa : Int), (fb : Int)⟩ G7 G9 LC B1 (.slice none 0 0) [] wx ∧ B1 ≤ wx.heap.size)
  case first =>
    by_cases h0 : 0 ≤ cv0
    · rw [show (cv0 + 1 != 0) = true from by rw [bne_iff_ne]; omega]
      have H0 := Lib.hid h0
      have wcv : IntKind.i64.wrap cv0 = cv0 := wrapIn _ (by omega) (by omega)
      have x0 := hS.1
      have x1 := hS.2.1
      have gv := hS.2.2
      have hlt1' : W.heap.size < wq.drew.heap.size := hlt1
      have hlt2' : G7 < wq.drew.heap.size := hlt2
      have hlt1'' : W.heap.size < (wq.alloc (.cells #[.int .i64 cv0] 2)).drew.heap.size := Nat.lt_of_lt_of_le hlt1 ((Below.refl _ _).alloc (Nat.le_refl _) _).size
      have hlt2'' : G7 < (wq.alloc (.cells #[.int .i64 cv0] 2)).drew.heap.size := Nat.lt_of_lt_of_le hlt2 ((Below.refl _ _).alloc (Nat.le_refl _) _).size
      have hn1 : some W.heap.size ≠ (Value.slice (some ⟨B1, 0, none⟩) 0 0).ownBlock := fun e => by simp [Value.ownBlock] at e; have := HXa.out.s1; have := HXa.out.s2; have := hGB.out; omega
      have hn2 : some G7 ≠ (Value.slice (some ⟨B1, 0, none⟩) 0 0).ownBlock := fun e => by simp [Value.ownBlock] at e; have := HXa.out.s2; have := hGB.out; omega
      clear h0
      go_wp2_with fail
      refine wp_region_held_drew (S := (CmF W.heap.size G7 (fb * 12 + fa) ⟨(fa : Int), (fb : Int)⟩ (cv0 + 1))) (by kernel_rfl) ?r10_hS0 (fun hHeld => ?r10_rest)
      case r10_hS0 => (try dsimp only); first | assumption | exact CmF.keep (by assumption) hlt1 hlt2 ((Below.refl _ _).drew) | exact CmF.keep (by assumption) hlt1' hlt2' ((Below.refl _ _).alloc (Nat.le_refl _) _) | exact CmF.app (by assumption) hlt1'' hlt2'' hG9 hn1 hn2
      refine wpAnyH_take (i := 0) (v := ?r10_vv0) (by (simp only [List.getElem?_toArray, List.getElem?_cons_succ, List.getElem?_cons_zero]; rfl)) (by kernel_rfl) (by kernel_rfl) (by kernel_rfl) (by exact fun _ _ _ h => h) (Or.inl ⟨by rfl, ?r10_hy0⟩) (by assumption) ?r10_rest0
      case r10_hy0 => intro w hSw; (try dsimp only at hSw); (go_simp <;> (with_reducible rfl))
      try simp only [Act.put, List.setIfInBounds_toArray, List.set_cons_zero, List.set_cons_succ]
      refine wpAnyH_take (i := 1) (v := ?r10_vv1) (by (simp only [List.getElem?_toArray, List.getElem?_cons_succ, List.getElem?_cons_zero]; rfl)) (by kernel_rfl) (by kernel_rfl) (by kernel_rfl) (by exact fun _ _ _ h => h) (Or.inl ⟨by rfl, ?r10_hy1⟩) (by assumption) ?r10_rest1
      case r10_hy1 => intro w hSw; (try dsimp only at hSw); (go_simp <;> (with_reducible rfl))
      try simp only [Act.put, List.setIfInBounds_toArray, List.set_cons_zero, List.set_cons_succ]
      refine wpAnyH_take (i := 2) (v := ?r10_vv2) (by (simp only [List.getElem?_toArray, List.getElem?_cons_succ, List.getElem?_cons_zero]; rfl)) (by kernel_rfl) (by kernel_rfl) (by kernel_rfl) (by exact fun _ _ _ h => h) (Or.inl ⟨by rfl, ?r10_hy2⟩) (by assumption) ?r10_rest2
      case r10_hy2 => intro w hSw; (try dsimp only at hSw); (go_simp <;> (with_reducible rfl))
      try simp only [Act.put, List.setIfInBounds_toArray, List.set_cons_zero, List.set_cons_succ]
      refine wpAnyH_take (i := 3) (v := ?r10_vv3) (by (simp only [List.getElem?_toArray, List.getElem?_cons_succ, List.getElem?_cons_zero]; rfl)) (by kernel_rfl) (by kernel_rfl) (by kernel_rfl) (by exact fun _ _ _ h => h) (Or.inl ⟨by rfl, ?r10_hy3⟩) (by assumption) ?r10_rest3
      case r10_hy3 => intro w hSw; (try dsimp only at hSw); (go_simp <;> (with_reducible rfl))
      try simp only [Act.put, List.setIfInBounds_toArray, List.set_cons_zero, List.set_cons_succ]
      refine wpAnyH_take (i := 4) (v := ?r10_vv4) (by (simp only [List.getElem?_toArray, List.getElem?_cons_succ, List.getElem?_cons_zero]; rfl)) (by kernel_rfl) (by kernel_rfl) (by kernel_rfl) (by exact fun _ _ _ h => h) (Or.inl ⟨by rfl, ?r10_hy4⟩) (by assumption) ?r10_rest4
      case r10_hy4 => intro w hSw; (try dsimp only at hSw); (go_simp <;> (with_reducible rfl))
      try simp only [Act.put, List.setIfInBounds_toArray, List.set_cons_zero, List.set_cons_succ]
      refine wpAnyH_take (i := 5) (v := ?r10_vv5) (by (simp only [List.getElem?_toArray, List.getElem?_cons_succ, List.getElem?_cons_zero]; rfl)) (by kernel_rfl) (by kernel_rfl) (by kernel_rfl) (by exact fun _ _ _ h => h) (Or.inl ⟨by rfl, ?r10_hy5⟩) (by assumption) ?r10_rest5
      case r10_hy5 => intro w hSw; (try dsimp only at hSw); (go_simp <;> (with_reducible rfl))
      try simp only [Act.put, List.setIfInBounds_toArray, List.set_cons_zero, List.set_cons_succ]
      refine wpAnyH_take (i := 6) (v := ?r10_vv6) (by (simp only [List.getElem?_toArray, List.getElem?_cons_succ, List.getElem?_cons_zero]; rfl)) (by kernel_rfl) (by kernel_rfl) (by kernel_rfl) (by exact fun _ _ _ h => h) (Or.inl ⟨by rfl, ?r10_hy6⟩) (by assumption) ?r10_rest6
      case r10_hy6 => intro w hSw; (try dsimp only at hSw); (go_simp <;> (with_reducible rfl))
      try simp only [Act.put, List.setIfInBounds_toArray, List.set_cons_zero, List.set_cons_succ]
      refine wpAnyH_take (i := 7) (v := ?r10_vv7) (by (simp only [List.getElem?_toArray, List.getElem?_cons_succ, List.getElem?_cons_zero]; rfl)) (by kernel_rfl) (by kernel_rfl) (by kernel_rfl) (by exact fun _ _ _ h => h) (Or.inl ⟨by rfl, ?r10_hy7⟩) (by assumption) ?r10_rest7
      case r10_hy7 => intro w hSw; (try dsimp only at hSw); (go_simp <;> (with_reducible rfl))
      try simp only [Act.put, List.setIfInBounds_toArray, List.set_cons_zero, List.set_cons_succ]
      refine wpAnyH_take (i := 8) (v := ?r10_vv8) (by (simp only [List.getElem?_toArray, List.getElem?_cons_succ, List.getElem?_cons_zero]; rfl)) (by kernel_rfl) (by kernel_rfl) (by kernel_rfl) (by exact fun _ _ _ h => h) (Or.inl ⟨by rfl, ?r10_hy8⟩) (by assumption) ?r10_rest8
      case r10_hy8 => intro w hSw; (try dsimp only at hSw); (go_simp <;> (with_reducible rfl))
      try simp only [Act.put, List.setIfInBounds_toArray, List.set_cons_zero, List.set_cons_succ]
      refine wpAnyH_ready (rs := [9]) (by kernel_rfl) (by simp) ?_
      refine AllReadyH.cons (by (simp only [List.getElem?_toArray, List.getElem?_cons_succ, List.getElem?_cons_zero]; rfl)) (fun K hK => ?_) AllReadyH.nil
      go_simp
      skip
      try go_wp2_with fail
      refine hK.out _ _ ?r10_hS9 (fun hHeld => ?r10_r9)
      case r10_hS9 => (try dsimp only); first | assumption | exact CmF.keep (by assumption) hlt1 hlt2 ((Below.refl _ _).drew) | exact CmF.keep (by assumption) hlt1' hlt2' ((Below.refl _ _).alloc (Nat.le_refl _) _) | exact CmF.app (by assumption) hlt1'' hlt2'' hG9 hn1 hn2
      clear hK K
      try simp only [Act.put, List.setIfInBounds_toArray, List.set_cons_zero, List.set_cons_succ]
      refine wpAnyH_ready (rs := [10]) (by kernel_rfl) (by simp) ?_
      refine AllReadyH.cons (by (simp only [List.getElem?_toArray, List.getElem?_cons_succ, List.getElem?_cons_zero]; rfl)) (fun K hK => ?_) AllReadyH.nil
      (refine step_app appI64S rfl _ _ rfl B1 [] [cv0] (.slice (some ⟨B1, 0, none⟩) 0 0) _ rfl rfl (by first | exact HO.out.alloc _ | exact (own_atS HO.out rfl).alloc _ | exact own_atS ((own_atS HO.out rfl).alloc _) rfl) (by first | exact sl1iS _ cv0 _ rfl _ | exact Sl.ext (sl1iS _ cv0 _ rfl _) ((Below.refl _ _).drew)) (by simp) (by simp) (Nat.le_trans hs9.out ((Below.refl _ _).alloc (Nat.le_refl _) _).size) ?_; intro v9 w10 hO9 hG9 hat9)
      refine hK.out _ _ ?r10_hS10 (fun hHeld => ?r10_r10)
      case r10_hS10 => (try dsimp only); first | assumption | exact CmF.keep (by assumption) hlt1 hlt2 ((Below.refl _ _).drew) | exact CmF.keep (by assumption) hlt1' hlt2' ((Below.refl _ _).alloc (Nat.le_refl _) _) | exact CmF.app (by assumption) hlt1'' hlt2'' hG9 hn1 hn2
      clear hK K
      try simp only [Act.put, List.setIfInBounds_toArray, List.set_cons_zero, List.set_cons_succ]
      refine wpAnyH_take (i := 11) (v := ?r10_vv11) (by (simp only [List.getElem?_toArray, List.getElem?_cons_succ, List.getElem?_cons_zero]; rfl)) (by kernel_rfl) (by kernel_rfl) (by kernel_rfl) (by exact fun _ _ _ h => h) (Or.inl ⟨by rfl, ?r10_hy11⟩) (by assumption) ?r10_rest11
      case r10_hy11 => intro w hSw; (try dsimp only at hSw); (go_simp <;> (with_reducible rfl))
      try simp only [Act.put, List.setIfInBounds_toArray, List.set_cons_zero, List.set_cons_succ]
      refine wpAnyH_done (by kernel_rfl) ?_ _
      have HX9 := Lib.hid (((HXa.out.alloc (.cells #[.int .i64 cv0] 2)).at_ (y := (wq.alloc (.cells #[.int .i64 cv0] 2)).drew) rfl rfl rfl rfl).grown hG9 (fun j hj => by simp [Value.ownBlock] at hj; have := hGB.out; omega) (fun j hj => by simp [Value.ownBlock] at hj))
      have HO9 := Lib.hid hO9
      have hs10 := Lib.hid (Nat.le_trans hs9.out (Nat.le_trans ((Below.refl wq.heap.size wq).alloc (Nat.le_refl _) (.cells #[.int .i64 cv0] 2)).size hG9.size))
      clear hS hO9 hG9 hat9 x0 x1 gv
      repeat clear hHeld
      go_wp2_with fail
      go_meet
      exact ⟨by rw [if_pos (by have := H0.out; omega)]; exact HO9.out, HX9.out, hs10.out⟩
    · rw [show (cv0 + 1 != 0) = false from by rw [bne_eq_false_iff_eq]; omega]
      have H0 := Lib.hid h0
      clear h0
      go_wp2_with fail
      go_meet
      exact ⟨by rw [if_neg (by have := H0.out; omega)]; exact HO.out, HXa.out, hs9.out⟩
  clear HXa HO hS hs9 hlt1 hlt2
  obtain ⟨hO, hX, hs⟩ := hcut
  have HO := Lib.hid hO
  have HX := Lib.hid hX
  have hs9 := Lib.hid hs
  clear hO hX hs
  go_wp2_with fail
  refine (qa.out _ HX.out.sq).mono ?_
  rintro e w11 ⟨v11, rfl, hO11, hb11⟩
  obtain ⟨A2, cap2, rfl, -, -, -⟩ := (hO11.sl Cell.c_len).cell
  have HX11 := Lib.hid (HX.out.ext hb11)
  have HO11 := Lib.hid (HO.out.ext hb11)
  have HA11 := Lib.hid (show CfI W b o w h z sl ⟨(fa : Int), (fb : Int)⟩ G7 G9 LC (G9 + 1) (.slice A2 xs.length cap2) xs w11 from ⟨HX11.out.box, HX11.out.grid, HX11.out.tab, hO11.more (B' := G9 + 1) (Nat.le_trans (Nat.succ_le_of_lt hGB.out) hs9.out), HX11.out.sq, HX11.out.bel, HX11.out.s1, HX11.out.s2, Nat.lt_succ_self _, HX11.out.s4⟩)
  have hD11 := Lib.hid (show ∀ j, (Value.slice A2 xs.length cap2).ownBlock = some j → B1 ≤ j from fun j hj => Nat.le_trans hs9.out (hO11.base j hj))
  have hDA := Lib.hid (show DisS (.slice A2 xs.length cap2) u10 from fun j h1 h2 => by
    have e1 := hO11.base j h1
    have e2 := HO.out.lt j h2
    omega)
  have hs11 := Lib.hid (Nat.le_trans hs9.out hb11.size)
  clear hO11 hb11 HX HX11 HO hs9
  have x0 := HA11.out.box.cell 0 _ rfl
  have x1 := HA11.out.box.cell 1 _ rfl
  have tv := HA11.out.tab.cell _ _ (tabT_nat LC hLC.out fa fb hfa hfb)
  rw [hCE.out] at tv
  have hT0 := Lib.hid (LayT.begin w h (cvS sl) E ⟨(fa : Int), (fb : Int)⟩)
  rw [hcv0] at hT0
  have hlen0 := hT0.out.len
  have hon := onI_01 (cvS sl) ⟨(fa : Int), (fb : Int)⟩
  generalize hou : (if 0 ≤ cv0 then [cv0] else []) = out0 at *
  obtain ⟨A10, cap10, rfl, -, -, -⟩ := (HO11.out.sl i64c_len).i64
  generalize hEf : E ⟨(fa : Int), (fb : Int)⟩ = ef at *
  generalize onI (cvS sl) ⟨(fa : Int), (fb : Int)⟩ = on at *
  dsimp only
  go_wp2_with fail
  go_quiet (fail)
  go_wp2_with fail
  replace HA11 := Lib.hid (HA11.out.at_ (y := w11.drewN nq) rfl rfl rfl rfl)
  replace HO11 := Lib.hid (own_atS (w' := w11.drewN nq) HO11.out rfl)
  replace hs11 : Hid (B1 ≤ (w11.drewN nq).heap.size) := Lib.hid hs11.out
  generalize w11.drewN nq = w12 at *
  clear x0 x1 tv hou hcv0 hon hlen0
  go_loopw [10, 12] (fun oo lf wr => ∃ (j : Nat) (out : List Int), (j : Int) ≤ ef ∧ lf = .int .i64 (ef - (j : Int)) ∧ LayT w h (cvS sl) E ⟨(fa : Int), (fb : Int)⟩ j out ∧ DisS (.slice A2 xs.length cap2) oo ∧ Own wr B1 2 i64c 1 oo out ∧ B1 ≤ wr.heap.size ∧ CfI W b o w h z sl ⟨(fa : Int), (fb : Int)⟩ G7 G9 LC (G9 + 1) (.slice A2 xs.length cap2) xs wr) (fun _ lf _ => (intOf lf).toNat)
  case atStart => exact ⟨0, out0, by omega, by simp, hT0.out, hDA.out, HO11.out, hs11.out, HA11.out⟩
  case round =>
    clear hT0 hDA HO11 hs11 HA11
    obtain ⟨j, out, hj, rfl, hL, hDA, hO, hs, hX⟩ := hrel
    have HL := Lib.hid hL
    have hDA := Lib.hid hDA
    have HO := Lib.hid hO
    have hs := Lib.hid hs
    have HX := Lib.hid hX
    have hol := Lib.hid (show out.length ≤ 100 from by have h1 := hL.len; have h2 := onI_01 (cvS sl) ⟨(fa : Int), (fb : Int)⟩; omega)
    clear hL hO hX
    by_cases hlt : (j : Int) < ef
    · have hd : decide (0 < ef - (j : Int)) = true := decide_eq_true (by omega)
      have x0 := HX.out.box.cell 0 _ rfl
      have x1 := HX.out.box.cell 1 _ rfl
      have q1 := Lib.hid (qr.out out _ wr (HQ0.out.ext HX.out.bel) HX.out.sq (HO.out.sl i64c_len))
      go_wp2_with fail
      refine q1.out.mono ?_
      rintro e w13 ⟨⟨LB, hLB, hRO, rfl⟩, hb13⟩
      have hLB := Lib.hid hLB
      have hRO := Lib.hid hRO
      have HX13 := Lib.hid ((HX.out.ext hb13).alloc (.cells Try.zeroCells162 162))
      have HO13 := Lib.hid ((HO.out.ext hb13).alloc (.cells Try.zeroCells162 162))
      have KB := Lib.hid (Bk.new w13 162 Try.zeroCells162 w13.heap.size rfl)
      have hs13 := Lib.hid (Nat.le_trans hs.out hb13.size)
      have hrb := Lib.hid (show ∀ j, (Value.slice A2 xs.length cap2).ownBlock = some j → j < w13.heap.size from fun j hj => (HX.out.row.ext hb13).lt j hj)
      have hob := Lib.hid (fun j (hj : _ = some j) => (HO.out.ext hb13).lt j hj)
      clear hb13 q1 x0 x1 HX HO hs
      dsimp only
      go_wp2_with (refine wpList_store_bk rfl 162 (.tmp 13) (.tmp 66) rfl _ (bcells LB) rfl rfl _ _ KB.out (by rw [zeroB, bcells_size, bcells_size, hLB.out]; rfl) (infoB LB hLB.out) (bcells_one _) ?_)
      intro w14 k14 G14
      have HBB := Lib.hid k14
      have HX := Lib.hid (HX13.out.grown G14 (fun j hj => by injection hj with hj; have := hs13.out; have := hGB.out; omega) (fun j hj e => by injection e with e; have := hrb.out j hj; omega))
      have HO := Lib.hid (HO13.out.grownOb G14 (fun j hj e => by injection e with e; have := hob.out j hj; omega))
      have hs := Lib.hid (Nat.le_trans hs13.out (Nat.le_trans (by simp) G14.size))
      clear k14 G14 KB HX13 HO13 hs13 hrb hob
      generalize w13.heap.size = G13 at *
      have hZ := Lib.hid (SbA.zero w h (cvS sl) (atT LC) (ef - (j : Int)) out ⟨(fa : Int), (fb : Int)⟩ xs)
      go_wp2_with fail
      go_loopw [14, 15] (fun bv i wr => ∃ (k : Nat) (best : Int), k ≤ xs.length ∧ i = .int .i64 (k : Int) ∧ bv = .int .i64 best ∧ SbA w h (cvS sl) (atT LC) (ef - (j : Int)) out ⟨(fa : Int), (fb : Int)⟩ xs k best ∧ (-1 ≤ best ∧ best < 60) ∧ Bk wr G13 162 (bcells LB) ∧ Own wr B1 2 i64c 1 u10 out ∧ B1 ≤ wr.heap.size ∧ CfI W b o w h z sl ⟨(fa : Int), (fb : Int)⟩ G7 G9 LC (G9 + 1) (.slice A2 xs.length cap2) xs wr) (fun _ i _ => xs.length - (intOf i).toNat)
      case atStart => exact ⟨0, -1, by omega, rfl, rfl, hZ.out, by omega, HBB.out, HO.out, hs.out, HX.out⟩
      case round =>
        clear hZ HBB HO hs HX
        obtain ⟨k, best, hk, rfl, rfl, hQ, hbd, hBB, hO, hs, hX⟩ := hrel
        have HQ := Lib.hid hQ
        have HBB := Lib.hid hBB
        have HO := Lib.hid hO
        have hs := Lib.hid hs
        have HX := Lib.hid hX
        clear hQ hBB hO hX
        have hp144 := hpl.out
        by_cases hlt2 : k < xs.length
        · obtain ⟨A3, cap3, hvv, -, -, hcell⟩ := (HX.out.row.sl Cell.c_len).cell
          obtain ⟨rfl, rfl⟩ : A2 = A3 ∧ cap2 = cap3 := by injection hvv with e1 e2 e3; exact ⟨e1, e3⟩
          obtain ⟨b1, o1, rfl, hbb, c0, c1⟩ := hcell k hlt2
          have hqpt := Lib.hid ((hpt.out xs[k]).1 (List.getElem_mem hlt2))
          have hkd : decide ((k : Int) < (xs.length : Int)) = true := by rw [decide_eq_true_eq]; omega
          have hk0 : (0 : Int) ≤ (k : Int) := by omega
          have hk1 : (k : Int) < (xs.length : Int) := by omega
          have Hkp := Lib.hid (SbA.keep HQ.out hlt2)
          obtain ⟨q, hqe⟩ : ∃ q, xs[k] = q := ⟨_, rfl⟩
          have HQE := Lib.hid hqe
          rw [hqe] at hqpt c0 c1 Hkp
          clear hcell hvv hqe
          obtain ⟨a0, a1, ha0, ha1, rfl⟩ := ptT_nat hw1 hh1 hqpt.out
          have tA := HX.out.tab.cell _ _ (tabT_nat LC hLC.out a0 a1 ha0 ha1)
          have gA := HX.out.grid.cell _ _ (hgrd.out a0 a1 ha0 ha1)
          have uA := hub.out ⟨(a0 : Int), (a1 : Int)⟩
          have lA := hge.out ⟨(a0 : Int), (a1 : Int)⟩
          have i2 : (a0 : Int) < 12 := by omega
          have i3 : (a1 : Int) < 12 := by omega
          have qh1 := Lib.hid (fun n W' (he : W'.heap = wr.heap) => hasF_calls out _ n W' (show Sl W' W'.heap.size i64c 1 _ out from by rw [he]; exact (HO.out.sl i64c_len).at_S he))
          obtain ⟨cd, hcd⟩ : ∃ cd, cvS sl ⟨(a0 : Int), (a1 : Int)⟩ = cd := ⟨_, rfl⟩
          obtain ⟨cc, hcc⟩ : ∃ cc, atT LC ⟨(a0 : Int), (a1 : Int)⟩ = cc := ⟨_, rfl⟩
          have Hcd := Lib.hid hcd
          have Hcc := Lib.hid hcc
          rw [hcd] at gA uA lA Hkp
          rw [hcc] at tA
          clear hcd hcc
          replace qh1 := Lib.hid (qh1.out cd)
          have Hask := Lib.hid (fun (h0 : 0 ≤ cd) (h1 : cd ∉ out) (h2 : cc = ef - (j : Int)) (hx : ∃ c, c ∈ aroundL w h ⟨(a0 : Int), (a1 : Int)⟩ ∧ RO w h (cvS sl) ⟨(fa : Int), (fb : Int)⟩ out c) => show askS w h (cvS sl) (atT LC) (ef - (j : Int)) out ⟨(fa : Int), (fb : Int)⟩ xs[k] from by rw [HQE.out]; unfold askS; rw [Hcd.out, Hcc.out]; exact ⟨h0, h1, h2, hx⟩)
          have Hno := Lib.hid (fun (hh : askS w h (cvS sl) (atT LC) (ef - (j : Int)) out ⟨(fa : Int), (fb : Int)⟩ ⟨(a0 : Int), (a1 : Int)⟩) => show 0 ≤ cd ∧ cd ∉ out ∧ cc = ef - (j : Int) ∧ ∃ c, c ∈ aroundL w h ⟨(a0 : Int), (a1 : Int)⟩ ∧ RO w h (cvS sl) ⟨(fa : Int), (fb : Int)⟩ out c from by unfold askS at hh; rw [Hcd.out, Hcc.out] at hh; exact hh)
          by_cases hneg : cd < 0
          · have hd1 : decide (cd < 0) = true := decide_eq_true hneg
            have HN := Lib.hid (Hkp.out (fun hh => by have := (Hno.out hh).1; omega))
            clear hneg
            have hS : CmF' b1 (o1 + k * 2) G9 (a1 * 12 + a0) ⟨(a0 : Int), (a1 : Int)⟩ cc wr := ⟨c0, c1, tA⟩
            go_wp2_with fail
            go_quiet (fail)
            go_wp2_with fail
            refine wp_region_held_drew (S := (CmF' b1 (o1 + k * 2) G9 (a1 * 12 + a0) ⟨(a0 : Int), (a1 : Int)⟩ cc)) (by kernel_rfl) ?r11_hS0 (fun hHeld => ?r11_rest)
            case r11_hS0 => (try dsimp only); first | assumption | exact hS
            refine wpAnyH_take (i := 0) (v := ?r11_vv0) (by (simp only [List.getElem?_toArray, List.getElem?_cons_succ, List.getElem?_cons_zero]; rfl)) (by kernel_rfl) (by kernel_rfl) (by kernel_rfl) (by exact fun _ _ _ h => h) (Or.inl ⟨by rfl, ?r11_hy0⟩) (by assumption) ?r11_rest0
            case r11_hy0 => intro w hSw; (try dsimp only at hSw); (go_simp <;> (with_reducible rfl))
            try simp only [Act.put, List.setIfInBounds_toArray, List.set_cons_zero, List.set_cons_succ]
            refine wpAnyH_take (i := 1) (v := ?r11_vv1) (by (simp only [List.getElem?_toArray, List.getElem?_cons_succ, List.getElem?_cons_zero]; rfl)) (by kernel_rfl) (by kernel_rfl) (by kernel_rfl) (by exact fun _ _ _ h => h) (Or.inl ⟨by rfl, ?r11_hy1⟩) (by assumption) ?r11_rest1
            case r11_hy1 => intro w hSw; (try dsimp only at hSw); (go_simp <;> (with_reducible rfl))
            try simp only [Act.put, List.setIfInBounds_toArray, List.set_cons_zero, List.set_cons_succ]
            refine wpAnyH_take (i := 2) (v := ?r11_vv2) (by (simp only [List.getElem?_toArray, List.getElem?_cons_succ, List.getElem?_cons_zero]; rfl)) (by kernel_rfl) (by kernel_rfl) (by kernel_rfl) (by exact fun _ _ _ h => h) (Or.inl ⟨by rfl, ?r11_hy2⟩) (by assumption) ?r11_rest2
            case r11_hy2 => intro w hSw; (try dsimp only at hSw); (go_simp <;> (with_reducible rfl))
            try simp only [Act.put, List.setIfInBounds_toArray, List.set_cons_zero, List.set_cons_succ]
            refine wpAnyH_take (i := 3) (v := undef) (by (simp only [List.getElem?_toArray, List.getElem?_cons_succ, List.getElem?_cons_zero]; rfl)) (by kernel_rfl) (by kernel_rfl) (by kernel_rfl) (by exact fun _ _ _ h => h) (Or.inr ⟨by rfl, rfl⟩) (by assumption) ?_
            try simp only [Act.put, List.setIfInBounds_toArray, List.set_cons_zero, List.set_cons_succ]
            refine wpAnyH_take (i := 4) (v := undef) (by (simp only [List.getElem?_toArray, List.getElem?_cons_succ, List.getElem?_cons_zero]; rfl)) (by kernel_rfl) (by kernel_rfl) (by kernel_rfl) (by exact fun _ _ _ h => h) (Or.inr ⟨by rfl, rfl⟩) (by assumption) ?_
            try simp only [Act.put, List.setIfInBounds_toArray, List.set_cons_zero, List.set_cons_succ]
            refine wpAnyH_take (i := 5) (v := undef) (by (simp only [List.getElem?_toArray, List.getElem?_cons_succ, List.getElem?_cons_zero]; rfl)) (by kernel_rfl) (by kernel_rfl) (by kernel_rfl) (by exact fun _ _ _ h => h) (Or.inr ⟨by rfl, rfl⟩) (by assumption) ?_
            try simp only [Act.put, List.setIfInBounds_toArray, List.set_cons_zero, List.set_cons_succ]
            refine wpAnyH_take (i := 6) (v := ?r11_vv6) (by (simp only [List.getElem?_toArray, List.getElem?_cons_succ, List.getElem?_cons_zero]; rfl)) (by kernel_rfl) (by kernel_rfl) (by kernel_rfl) (by exact fun _ _ _ h => h) (Or.inl ⟨by rfl, ?r11_hy6⟩) (by assumption) ?r11_rest6
            case r11_hy6 => intro w hSw; (try dsimp only at hSw); (go_simp <;> (with_reducible rfl))
            try simp only [Act.put, List.setIfInBounds_toArray, List.set_cons_zero, List.set_cons_succ]
            refine wpAnyH_take (i := 7) (v := ?r11_vv7) (by (simp only [List.getElem?_toArray, List.getElem?_cons_succ, List.getElem?_cons_zero]; rfl)) (by kernel_rfl) (by kernel_rfl) (by kernel_rfl) (by exact fun _ _ _ h => h) (Or.inl ⟨by rfl, ?r11_hy7⟩) (by assumption) ?r11_rest7
            case r11_hy7 => intro w hSw; (try dsimp only at hSw); (go_simp <;> (with_reducible rfl))
            try simp only [Act.put, List.setIfInBounds_toArray, List.set_cons_zero, List.set_cons_succ]
            refine wpAnyH_take (i := 8) (v := undef) (by (simp only [List.getElem?_toArray, List.getElem?_cons_succ, List.getElem?_cons_zero]; rfl)) (by kernel_rfl) (by kernel_rfl) (by kernel_rfl) (by exact fun _ _ _ h => h) (Or.inr ⟨by rfl, rfl⟩) (by assumption) ?_
            try simp only [Act.put, List.setIfInBounds_toArray, List.set_cons_zero, List.set_cons_succ]
            refine wpAnyH_take (i := 9) (v := undef) (by (simp only [List.getElem?_toArray, List.getElem?_cons_succ, List.getElem?_cons_zero]; rfl)) (by kernel_rfl) (by kernel_rfl) (by kernel_rfl) (by exact fun _ _ _ h => h) (Or.inr ⟨by rfl, rfl⟩) (by assumption) ?_
            try simp only [Act.put, List.setIfInBounds_toArray, List.set_cons_zero, List.set_cons_succ]
            refine wpAnyH_take (i := 10) (v := undef) (by (simp only [List.getElem?_toArray, List.getElem?_cons_succ, List.getElem?_cons_zero]; rfl)) (by kernel_rfl) (by kernel_rfl) (by kernel_rfl) (by exact fun _ _ _ h => h) (Or.inr ⟨by rfl, rfl⟩) (by assumption) ?_
            try simp only [Act.put, List.setIfInBounds_toArray, List.set_cons_zero, List.set_cons_succ]
            refine wpAnyH_take (i := 11) (v := undef) (by (simp only [List.getElem?_toArray, List.getElem?_cons_succ, List.getElem?_cons_zero]; rfl)) (by kernel_rfl) (by kernel_rfl) (by kernel_rfl) (by exact fun _ _ _ h => h) (Or.inr ⟨by rfl, rfl⟩) (by assumption) ?_
            try simp only [Act.put, List.setIfInBounds_toArray, List.set_cons_zero, List.set_cons_succ]
            refine wpAnyH_take (i := 12) (v := undef) (by (simp only [List.getElem?_toArray, List.getElem?_cons_succ, List.getElem?_cons_zero]; rfl)) (by kernel_rfl) (by kernel_rfl) (by kernel_rfl) (by exact fun _ _ _ h => h) (Or.inr ⟨by rfl, rfl⟩) (by assumption) ?_
            try simp only [Act.put, List.setIfInBounds_toArray, List.set_cons_zero, List.set_cons_succ]
            refine wpAnyH_take (i := 13) (v := undef) (by (simp only [List.getElem?_toArray, List.getElem?_cons_succ, List.getElem?_cons_zero]; rfl)) (by kernel_rfl) (by kernel_rfl) (by kernel_rfl) (by exact fun _ _ _ h => h) (Or.inr ⟨by rfl, rfl⟩) (by assumption) ?_
            try simp only [Act.put, List.setIfInBounds_toArray, List.set_cons_zero, List.set_cons_succ]
            refine wpAnyH_take (i := 14) (v := undef) (by (simp only [List.getElem?_toArray, List.getElem?_cons_succ, List.getElem?_cons_zero]; rfl)) (by kernel_rfl) (by kernel_rfl) (by kernel_rfl) (by exact fun _ _ _ h => h) (Or.inr ⟨by rfl, rfl⟩) (by assumption) ?_
            try simp only [Act.put, List.setIfInBounds_toArray, List.set_cons_zero, List.set_cons_succ]
            refine wpAnyH_take (i := 15) (v := undef) (by (simp only [List.getElem?_toArray, List.getElem?_cons_succ, List.getElem?_cons_zero]; rfl)) (by kernel_rfl) (by kernel_rfl) (by kernel_rfl) (by exact fun _ _ _ h => h) (Or.inr ⟨by rfl, rfl⟩) (by assumption) ?_
            try simp only [Act.put, List.setIfInBounds_toArray, List.set_cons_zero, List.set_cons_succ]
            refine wpAnyH_take (i := 16) (v := undef) (by (simp only [List.getElem?_toArray, List.getElem?_cons_succ, List.getElem?_cons_zero]; rfl)) (by kernel_rfl) (by kernel_rfl) (by kernel_rfl) (by exact fun _ _ _ h => h) (Or.inr ⟨by rfl, rfl⟩) (by assumption) ?_
            try simp only [Act.put, List.setIfInBounds_toArray, List.set_cons_zero, List.set_cons_succ]
            refine wpAnyH_take (i := 17) (v := undef) (by (simp only [List.getElem?_toArray, List.getElem?_cons_succ, List.getElem?_cons_zero]; rfl)) (by kernel_rfl) (by kernel_rfl) (by kernel_rfl) (by exact fun _ _ _ h => h) (Or.inr ⟨by rfl, rfl⟩) (by assumption) ?_
            try simp only [Act.put, List.setIfInBounds_toArray, List.set_cons_zero, List.set_cons_succ]
            refine wpAnyH_take (i := 18) (v := undef) (by (simp only [List.getElem?_toArray, List.getElem?_cons_succ, List.getElem?_cons_zero]; rfl)) (by kernel_rfl) (by kernel_rfl) (by kernel_rfl) (by exact fun _ _ _ h => h) (Or.inr ⟨by rfl, rfl⟩) (by assumption) ?_
            try simp only [Act.put, List.setIfInBounds_toArray, List.set_cons_zero, List.set_cons_succ]
            refine wpAnyH_take (i := 19) (v := undef) (by (simp only [List.getElem?_toArray, List.getElem?_cons_succ, List.getElem?_cons_zero]; rfl)) (by kernel_rfl) (by kernel_rfl) (by kernel_rfl) (by exact fun _ _ _ h => h) (Or.inr ⟨by rfl, rfl⟩) (by assumption) ?_
            try simp only [Act.put, List.setIfInBounds_toArray, List.set_cons_zero, List.set_cons_succ]
            refine wpAnyH_take (i := 20) (v := undef) (by (simp only [List.getElem?_toArray, List.getElem?_cons_succ, List.getElem?_cons_zero]; rfl)) (by kernel_rfl) (by kernel_rfl) (by kernel_rfl) (by exact fun _ _ _ h => h) (Or.inr ⟨by rfl, rfl⟩) (by assumption) ?_
            try simp only [Act.put, List.setIfInBounds_toArray, List.set_cons_zero, List.set_cons_succ]
            refine wpAnyH_take (i := 21) (v := undef) (by (simp only [List.getElem?_toArray, List.getElem?_cons_succ, List.getElem?_cons_zero]; rfl)) (by kernel_rfl) (by kernel_rfl) (by kernel_rfl) (by exact fun _ _ _ h => h) (Or.inr ⟨by rfl, rfl⟩) (by assumption) ?_
            try simp only [Act.put, List.setIfInBounds_toArray, List.set_cons_zero, List.set_cons_succ]
            refine wpAnyH_take (i := 22) (v := undef) (by (simp only [List.getElem?_toArray, List.getElem?_cons_succ, List.getElem?_cons_zero]; rfl)) (by kernel_rfl) (by kernel_rfl) (by kernel_rfl) (by exact fun _ _ _ h => h) (Or.inr ⟨by rfl, rfl⟩) (by assumption) ?_
            try simp only [Act.put, List.setIfInBounds_toArray, List.set_cons_zero, List.set_cons_succ]
            refine wpAnyH_take (i := 23) (v := ?r11_vv23) (by (simp only [List.getElem?_toArray, List.getElem?_cons_succ, List.getElem?_cons_zero]; rfl)) (by kernel_rfl) (by kernel_rfl) (by kernel_rfl) (by exact fun _ _ _ h => h) (Or.inl ⟨by rfl, ?r11_hy23⟩) (by assumption) ?r11_rest23
            case r11_hy23 => intro w hSw; (try dsimp only at hSw); (go_simp <;> (with_reducible rfl))
            try simp only [Act.put, List.setIfInBounds_toArray, List.set_cons_zero, List.set_cons_succ]
            refine wpAnyH_take (i := 24) (v := ?r11_vv24) (by (simp only [List.getElem?_toArray, List.getElem?_cons_succ, List.getElem?_cons_zero]; rfl)) (by kernel_rfl) (by kernel_rfl) (by kernel_rfl) (by exact fun _ _ _ h => h) (Or.inl ⟨by rfl, ?r11_hy24⟩) (by assumption) ?r11_rest24
            case r11_hy24 => intro w hSw; (try dsimp only at hSw); (go_simp <;> (with_reducible rfl))
            try simp only [Act.put, List.setIfInBounds_toArray, List.set_cons_zero, List.set_cons_succ]
            refine wpAnyH_take (i := 25) (v := undef) (by (simp only [List.getElem?_toArray, List.getElem?_cons_succ, List.getElem?_cons_zero]; rfl)) (by kernel_rfl) (by kernel_rfl) (by kernel_rfl) (by exact fun _ _ _ h => h) (Or.inr ⟨by rfl, rfl⟩) (by assumption) ?_
            try simp only [Act.put, List.setIfInBounds_toArray, List.set_cons_zero, List.set_cons_succ]
            refine wpAnyH_take (i := 26) (v := undef) (by (simp only [List.getElem?_toArray, List.getElem?_cons_succ, List.getElem?_cons_zero]; rfl)) (by kernel_rfl) (by kernel_rfl) (by kernel_rfl) (by exact fun _ _ _ h => h) (Or.inr ⟨by rfl, rfl⟩) (by assumption) ?_
            try simp only [Act.put, List.setIfInBounds_toArray, List.set_cons_zero, List.set_cons_succ]
            refine wpAnyH_take (i := 27) (v := undef) (by (simp only [List.getElem?_toArray, List.getElem?_cons_succ, List.getElem?_cons_zero]; rfl)) (by kernel_rfl) (by kernel_rfl) (by kernel_rfl) (by exact fun _ _ _ h => h) (Or.inr ⟨by rfl, rfl⟩) (by assumption) ?_
            try simp only [Act.put, List.setIfInBounds_toArray, List.set_cons_zero, List.set_cons_succ]
            refine wpAnyH_take (i := 28) (v := undef) (by (simp only [List.getElem?_toArray, List.getElem?_cons_succ, List.getElem?_cons_zero]; rfl)) (by kernel_rfl) (by kernel_rfl) (by kernel_rfl) (by exact fun _ _ _ h => h) (Or.inr ⟨by rfl, rfl⟩) (by assumption) ?_
            try simp only [Act.put, List.setIfInBounds_toArray, List.set_cons_zero, List.set_cons_succ]
            refine wpAnyH_take (i := 29) (v := undef) (by (simp only [List.getElem?_toArray, List.getElem?_cons_succ, List.getElem?_cons_zero]; rfl)) (by kernel_rfl) (by kernel_rfl) (by kernel_rfl) (by exact fun _ _ _ h => h) (Or.inr ⟨by rfl, rfl⟩) (by assumption) ?_
            try simp only [Act.put, List.setIfInBounds_toArray, List.set_cons_zero, List.set_cons_succ]
            refine wpAnyH_take (i := 30) (v := undef) (by (simp only [List.getElem?_toArray, List.getElem?_cons_succ, List.getElem?_cons_zero]; rfl)) (by kernel_rfl) (by kernel_rfl) (by kernel_rfl) (by exact fun _ _ _ h => h) (Or.inr ⟨by rfl, rfl⟩) (by assumption) ?_
            try simp only [Act.put, List.setIfInBounds_toArray, List.set_cons_zero, List.set_cons_succ]
            refine wpAnyH_take (i := 31) (v := undef) (by (simp only [List.getElem?_toArray, List.getElem?_cons_succ, List.getElem?_cons_zero]; rfl)) (by kernel_rfl) (by kernel_rfl) (by kernel_rfl) (by exact fun _ _ _ h => h) (Or.inr ⟨by rfl, rfl⟩) (by assumption) ?_
            try simp only [Act.put, List.setIfInBounds_toArray, List.set_cons_zero, List.set_cons_succ]
            refine wpAnyH_take (i := 32) (v := ?r11_vv32) (by (simp only [List.getElem?_toArray, List.getElem?_cons_succ, List.getElem?_cons_zero]; rfl)) (by kernel_rfl) (by kernel_rfl) (by kernel_rfl) (by exact fun _ _ _ h => h) (Or.inl ⟨by rfl, ?r11_hy32⟩) (by assumption) ?r11_rest32
            case r11_hy32 => intro w hSw; (try dsimp only at hSw); (go_simp <;> (with_reducible rfl))
            try simp only [Act.put, List.setIfInBounds_toArray, List.set_cons_zero, List.set_cons_succ]
            refine wpAnyH_done (by kernel_rfl) ?_ _
            clear hS
            repeat clear hHeld
            go_wp2_with fail
            go_roundw
            case rel => exact ⟨k + 1, best, by omega, by go_num, rfl, HN.out, hbd, HBB.out.at_S rfl, own_atS HO.out rfl, hs.out, HX.out.at_ rfl rfl rfl rfl⟩
            case measure => first | (simp [intOf]; done) | (simp [intOf]; omega)
          · have hd1 : decide (cd < 0) = false := decide_eq_false hneg
            by_cases hmem : cd ∈ out
            · have hd2 : decide (cd ∈ out) = true := decide_eq_true hmem
              have HN := Lib.hid (Hkp.out (fun hh => absurd hmem (Hno.out hh).2.1))
              rw [hd2] at qh1
              clear hneg hmem
              have hS : CmF' b1 (o1 + k * 2) G9 (a1 * 12 + a0) ⟨(a0 : Int), (a1 : Int)⟩ cc wr := ⟨c0, c1, tA⟩
              go_wp2_with fail
              go_quiet (fail)
              go_wp2_with fail
              refine wp_region_held_drew (S := (CmF' b1 (o1 + k * 2) G9 (a1 * 12 + a0) ⟨(a0 : Int), (a1 : Int)⟩ cc)) (by kernel_rfl) ?r12_hS0 (fun hHeld => ?r12_rest)
              case r12_hS0 => (try dsimp only); first | assumption | exact hS
              refine wpAnyH_take (i := 0) (v := ?r12_vv0) (by (simp only [List.getElem?_toArray, List.getElem?_cons_succ, List.getElem?_cons_zero]; rfl)) (by kernel_rfl) (by kernel_rfl) (by kernel_rfl) (by exact fun _ _ _ h => h) (Or.inl ⟨by rfl, ?r12_hy0⟩) (by assumption) ?r12_rest0
              case r12_hy0 => intro w hSw; (try dsimp only at hSw); (go_simp <;> (with_reducible rfl))
              try simp only [Act.put, List.setIfInBounds_toArray, List.set_cons_zero, List.set_cons_succ]
              refine wpAnyH_take (i := 1) (v := ?r12_vv1) (by (simp only [List.getElem?_toArray, List.getElem?_cons_succ, List.getElem?_cons_zero]; rfl)) (by kernel_rfl) (by kernel_rfl) (by kernel_rfl) (by exact fun _ _ _ h => h) (Or.inl ⟨by rfl, ?r12_hy1⟩) (by assumption) ?r12_rest1
              case r12_hy1 => intro w hSw; (try dsimp only at hSw); (go_simp <;> (with_reducible rfl))
              try simp only [Act.put, List.setIfInBounds_toArray, List.set_cons_zero, List.set_cons_succ]
              refine wpAnyH_take (i := 2) (v := ?r12_vv2) (by (simp only [List.getElem?_toArray, List.getElem?_cons_succ, List.getElem?_cons_zero]; rfl)) (by kernel_rfl) (by kernel_rfl) (by kernel_rfl) (by exact fun _ _ _ h => h) (Or.inl ⟨by rfl, ?r12_hy2⟩) (by assumption) ?r12_rest2
              case r12_hy2 => intro w hSw; (try dsimp only at hSw); (go_simp <;> (with_reducible rfl))
              try simp only [Act.put, List.setIfInBounds_toArray, List.set_cons_zero, List.set_cons_succ]
              refine wpAnyH_take (i := 3) (v := ?r12_vv3) (by (simp only [List.getElem?_toArray, List.getElem?_cons_succ, List.getElem?_cons_zero]; rfl)) (by kernel_rfl) (by kernel_rfl) (by kernel_rfl) (by exact fun _ _ _ h => h) (Or.inl ⟨by rfl, ?r12_hy3⟩) (by assumption) ?r12_rest3
              case r12_hy3 => intro w hSw; (try dsimp only at hSw); (go_simp <;> (with_reducible rfl))
              try simp only [Act.put, List.setIfInBounds_toArray, List.set_cons_zero, List.set_cons_succ]
              refine wpAnyH_take (i := 4) (v := ?r12_vv4) (by (simp only [List.getElem?_toArray, List.getElem?_cons_succ, List.getElem?_cons_zero]; rfl)) (by kernel_rfl) (by kernel_rfl) (by kernel_rfl) (by exact fun _ _ _ h => h) (Or.inl ⟨by rfl, ?r12_hy4⟩) (by assumption) ?r12_rest4
              case r12_hy4 => intro w hSw; (try dsimp only at hSw); (go_simp <;> (with_reducible rfl))
              try simp only [Act.put, List.setIfInBounds_toArray, List.set_cons_zero, List.set_cons_succ]
              refine wpAnyH_ready (rs := [5]) (by kernel_rfl) (by simp) ?_
              refine AllReadyH.cons (by (simp only [List.getElem?_toArray, List.getElem?_cons_succ, List.getElem?_cons_zero]; rfl)) (fun K hK => ?_) AllReadyH.nil
              go_simp
              (go_at_call 82; (with_reducible refine (qh1.out _ (drewNS_heap _ _)).mono ?_); rintro e w11 ⟨rfl, rfl⟩)
              try go_wp2_with fail
              refine hK.out _ _ ?r12_hS5 (fun hHeld => ?r12_r5)
              case r12_hS5 => (try dsimp only); first | assumption | exact hS
              clear hK K
              try simp only [Act.put, List.setIfInBounds_toArray, List.set_cons_zero, List.set_cons_succ]
              refine wpAnyH_take (i := 6) (v := ?r12_vv6) (by (simp only [List.getElem?_toArray, List.getElem?_cons_succ, List.getElem?_cons_zero]; rfl)) (by kernel_rfl) (by kernel_rfl) (by kernel_rfl) (by exact fun _ _ _ h => h) (Or.inl ⟨by rfl, ?r12_hy6⟩) (by assumption) ?r12_rest6
              case r12_hy6 => intro w hSw; (try dsimp only at hSw); (go_simp <;> (with_reducible rfl))
              try simp only [Act.put, List.setIfInBounds_toArray, List.set_cons_zero, List.set_cons_succ]
              refine wpAnyH_take (i := 7) (v := ?r12_vv7) (by (simp only [List.getElem?_toArray, List.getElem?_cons_succ, List.getElem?_cons_zero]; rfl)) (by kernel_rfl) (by kernel_rfl) (by kernel_rfl) (by exact fun _ _ _ h => h) (Or.inl ⟨by rfl, ?r12_hy7⟩) (by assumption) ?r12_rest7
              case r12_hy7 => intro w hSw; (try dsimp only at hSw); (go_simp <;> (with_reducible rfl))
              try simp only [Act.put, List.setIfInBounds_toArray, List.set_cons_zero, List.set_cons_succ]
              refine wpAnyH_take (i := 8) (v := undef) (by (simp only [List.getElem?_toArray, List.getElem?_cons_succ, List.getElem?_cons_zero]; rfl)) (by kernel_rfl) (by kernel_rfl) (by kernel_rfl) (by exact fun _ _ _ h => h) (Or.inr ⟨by rfl, rfl⟩) (by assumption) ?_
              try simp only [Act.put, List.setIfInBounds_toArray, List.set_cons_zero, List.set_cons_succ]
              refine wpAnyH_take (i := 9) (v := undef) (by (simp only [List.getElem?_toArray, List.getElem?_cons_succ, List.getElem?_cons_zero]; rfl)) (by kernel_rfl) (by kernel_rfl) (by kernel_rfl) (by exact fun _ _ _ h => h) (Or.inr ⟨by rfl, rfl⟩) (by assumption) ?_
              try simp only [Act.put, List.setIfInBounds_toArray, List.set_cons_zero, List.set_cons_succ]
              refine wpAnyH_take (i := 10) (v := undef) (by (simp only [List.getElem?_toArray, List.getElem?_cons_succ, List.getElem?_cons_zero]; rfl)) (by kernel_rfl) (by kernel_rfl) (by kernel_rfl) (by exact fun _ _ _ h => h) (Or.inr ⟨by rfl, rfl⟩) (by assumption) ?_
              try simp only [Act.put, List.setIfInBounds_toArray, List.set_cons_zero, List.set_cons_succ]
              refine wpAnyH_take (i := 11) (v := undef) (by (simp only [List.getElem?_toArray, List.getElem?_cons_succ, List.getElem?_cons_zero]; rfl)) (by kernel_rfl) (by kernel_rfl) (by kernel_rfl) (by exact fun _ _ _ h => h) (Or.inr ⟨by rfl, rfl⟩) (by assumption) ?_
              try simp only [Act.put, List.setIfInBounds_toArray, List.set_cons_zero, List.set_cons_succ]
              refine wpAnyH_take (i := 12) (v := undef) (by (simp only [List.getElem?_toArray, List.getElem?_cons_succ, List.getElem?_cons_zero]; rfl)) (by kernel_rfl) (by kernel_rfl) (by kernel_rfl) (by exact fun _ _ _ h => h) (Or.inr ⟨by rfl, rfl⟩) (by assumption) ?_
              try simp only [Act.put, List.setIfInBounds_toArray, List.set_cons_zero, List.set_cons_succ]
              refine wpAnyH_take (i := 13) (v := undef) (by (simp only [List.getElem?_toArray, List.getElem?_cons_succ, List.getElem?_cons_zero]; rfl)) (by kernel_rfl) (by kernel_rfl) (by kernel_rfl) (by exact fun _ _ _ h => h) (Or.inr ⟨by rfl, rfl⟩) (by assumption) ?_
              try simp only [Act.put, List.setIfInBounds_toArray, List.set_cons_zero, List.set_cons_succ]
              refine wpAnyH_take (i := 14) (v := undef) (by (simp only [List.getElem?_toArray, List.getElem?_cons_succ, List.getElem?_cons_zero]; rfl)) (by kernel_rfl) (by kernel_rfl) (by kernel_rfl) (by exact fun _ _ _ h => h) (Or.inr ⟨by rfl, rfl⟩) (by assumption) ?_
              try simp only [Act.put, List.setIfInBounds_toArray, List.set_cons_zero, List.set_cons_succ]
              refine wpAnyH_take (i := 15) (v := undef) (by (simp only [List.getElem?_toArray, List.getElem?_cons_succ, List.getElem?_cons_zero]; rfl)) (by kernel_rfl) (by kernel_rfl) (by kernel_rfl) (by exact fun _ _ _ h => h) (Or.inr ⟨by rfl, rfl⟩) (by assumption) ?_
              try simp only [Act.put, List.setIfInBounds_toArray, List.set_cons_zero, List.set_cons_succ]
              refine wpAnyH_take (i := 16) (v := undef) (by (simp only [List.getElem?_toArray, List.getElem?_cons_succ, List.getElem?_cons_zero]; rfl)) (by kernel_rfl) (by kernel_rfl) (by kernel_rfl) (by exact fun _ _ _ h => h) (Or.inr ⟨by rfl, rfl⟩) (by assumption) ?_
              try simp only [Act.put, List.setIfInBounds_toArray, List.set_cons_zero, List.set_cons_succ]
              refine wpAnyH_take (i := 17) (v := undef) (by (simp only [List.getElem?_toArray, List.getElem?_cons_succ, List.getElem?_cons_zero]; rfl)) (by kernel_rfl) (by kernel_rfl) (by kernel_rfl) (by exact fun _ _ _ h => h) (Or.inr ⟨by rfl, rfl⟩) (by assumption) ?_
              try simp only [Act.put, List.setIfInBounds_toArray, List.set_cons_zero, List.set_cons_succ]
              refine wpAnyH_take (i := 18) (v := undef) (by (simp only [List.getElem?_toArray, List.getElem?_cons_succ, List.getElem?_cons_zero]; rfl)) (by kernel_rfl) (by kernel_rfl) (by kernel_rfl) (by exact fun _ _ _ h => h) (Or.inr ⟨by rfl, rfl⟩) (by assumption) ?_
              try simp only [Act.put, List.setIfInBounds_toArray, List.set_cons_zero, List.set_cons_succ]
              refine wpAnyH_take (i := 19) (v := undef) (by (simp only [List.getElem?_toArray, List.getElem?_cons_succ, List.getElem?_cons_zero]; rfl)) (by kernel_rfl) (by kernel_rfl) (by kernel_rfl) (by exact fun _ _ _ h => h) (Or.inr ⟨by rfl, rfl⟩) (by assumption) ?_
              try simp only [Act.put, List.setIfInBounds_toArray, List.set_cons_zero, List.set_cons_succ]
              refine wpAnyH_take (i := 20) (v := undef) (by (simp only [List.getElem?_toArray, List.getElem?_cons_succ, List.getElem?_cons_zero]; rfl)) (by kernel_rfl) (by kernel_rfl) (by kernel_rfl) (by exact fun _ _ _ h => h) (Or.inr ⟨by rfl, rfl⟩) (by assumption) ?_
              try simp only [Act.put, List.setIfInBounds_toArray, List.set_cons_zero, List.set_cons_succ]
              refine wpAnyH_take (i := 21) (v := undef) (by (simp only [List.getElem?_toArray, List.getElem?_cons_succ, List.getElem?_cons_zero]; rfl)) (by kernel_rfl) (by kernel_rfl) (by kernel_rfl) (by exact fun _ _ _ h => h) (Or.inr ⟨by rfl, rfl⟩) (by assumption) ?_
              try simp only [Act.put, List.setIfInBounds_toArray, List.set_cons_zero, List.set_cons_succ]
              refine wpAnyH_take (i := 22) (v := undef) (by (simp only [List.getElem?_toArray, List.getElem?_cons_succ, List.getElem?_cons_zero]; rfl)) (by kernel_rfl) (by kernel_rfl) (by kernel_rfl) (by exact fun _ _ _ h => h) (Or.inr ⟨by rfl, rfl⟩) (by assumption) ?_
              try simp only [Act.put, List.setIfInBounds_toArray, List.set_cons_zero, List.set_cons_succ]
              refine wpAnyH_take (i := 23) (v := ?r12_vv23) (by (simp only [List.getElem?_toArray, List.getElem?_cons_succ, List.getElem?_cons_zero]; rfl)) (by kernel_rfl) (by kernel_rfl) (by kernel_rfl) (by exact fun _ _ _ h => h) (Or.inl ⟨by rfl, ?r12_hy23⟩) (by assumption) ?r12_rest23
              case r12_hy23 => intro w hSw; (try dsimp only at hSw); (go_simp <;> (with_reducible rfl))
              try simp only [Act.put, List.setIfInBounds_toArray, List.set_cons_zero, List.set_cons_succ]
              refine wpAnyH_take (i := 24) (v := ?r12_vv24) (by (simp only [List.getElem?_toArray, List.getElem?_cons_succ, List.getElem?_cons_zero]; rfl)) (by kernel_rfl) (by kernel_rfl) (by kernel_rfl) (by exact fun _ _ _ h => h) (Or.inl ⟨by rfl, ?r12_hy24⟩) (by assumption) ?r12_rest24
              case r12_hy24 => intro w hSw; (try dsimp only at hSw); (go_simp <;> (with_reducible rfl))
              try simp only [Act.put, List.setIfInBounds_toArray, List.set_cons_zero, List.set_cons_succ]
              refine wpAnyH_take (i := 25) (v := undef) (by (simp only [List.getElem?_toArray, List.getElem?_cons_succ, List.getElem?_cons_zero]; rfl)) (by kernel_rfl) (by kernel_rfl) (by kernel_rfl) (by exact fun _ _ _ h => h) (Or.inr ⟨by rfl, rfl⟩) (by assumption) ?_
              try simp only [Act.put, List.setIfInBounds_toArray, List.set_cons_zero, List.set_cons_succ]
              refine wpAnyH_take (i := 26) (v := undef) (by (simp only [List.getElem?_toArray, List.getElem?_cons_succ, List.getElem?_cons_zero]; rfl)) (by kernel_rfl) (by kernel_rfl) (by kernel_rfl) (by exact fun _ _ _ h => h) (Or.inr ⟨by rfl, rfl⟩) (by assumption) ?_
              try simp only [Act.put, List.setIfInBounds_toArray, List.set_cons_zero, List.set_cons_succ]
              refine wpAnyH_take (i := 27) (v := undef) (by (simp only [List.getElem?_toArray, List.getElem?_cons_succ, List.getElem?_cons_zero]; rfl)) (by kernel_rfl) (by kernel_rfl) (by kernel_rfl) (by exact fun _ _ _ h => h) (Or.inr ⟨by rfl, rfl⟩) (by assumption) ?_
              try simp only [Act.put, List.setIfInBounds_toArray, List.set_cons_zero, List.set_cons_succ]
              refine wpAnyH_take (i := 28) (v := undef) (by (simp only [List.getElem?_toArray, List.getElem?_cons_succ, List.getElem?_cons_zero]; rfl)) (by kernel_rfl) (by kernel_rfl) (by kernel_rfl) (by exact fun _ _ _ h => h) (Or.inr ⟨by rfl, rfl⟩) (by assumption) ?_
              try simp only [Act.put, List.setIfInBounds_toArray, List.set_cons_zero, List.set_cons_succ]
              refine wpAnyH_take (i := 29) (v := undef) (by (simp only [List.getElem?_toArray, List.getElem?_cons_succ, List.getElem?_cons_zero]; rfl)) (by kernel_rfl) (by kernel_rfl) (by kernel_rfl) (by exact fun _ _ _ h => h) (Or.inr ⟨by rfl, rfl⟩) (by assumption) ?_
              try simp only [Act.put, List.setIfInBounds_toArray, List.set_cons_zero, List.set_cons_succ]
              refine wpAnyH_take (i := 30) (v := undef) (by (simp only [List.getElem?_toArray, List.getElem?_cons_succ, List.getElem?_cons_zero]; rfl)) (by kernel_rfl) (by kernel_rfl) (by kernel_rfl) (by exact fun _ _ _ h => h) (Or.inr ⟨by rfl, rfl⟩) (by assumption) ?_
              try simp only [Act.put, List.setIfInBounds_toArray, List.set_cons_zero, List.set_cons_succ]
              refine wpAnyH_take (i := 31) (v := undef) (by (simp only [List.getElem?_toArray, List.getElem?_cons_succ, List.getElem?_cons_zero]; rfl)) (by kernel_rfl) (by kernel_rfl) (by kernel_rfl) (by exact fun _ _ _ h => h) (Or.inr ⟨by rfl, rfl⟩) (by assumption) ?_
              try simp only [Act.put, List.setIfInBounds_toArray, List.set_cons_zero, List.set_cons_succ]
              refine wpAnyH_take (i := 32) (v := ?r12_vv32) (by (simp only [List.getElem?_toArray, List.getElem?_cons_succ, List.getElem?_cons_zero]; rfl)) (by kernel_rfl) (by kernel_rfl) (by kernel_rfl) (by exact fun _ _ _ h => h) (Or.inl ⟨by rfl, ?r12_hy32⟩) (by assumption) ?r12_rest32
              case r12_hy32 => intro w hSw; (try dsimp only at hSw); (go_simp <;> (with_reducible rfl))
              try simp only [Act.put, List.setIfInBounds_toArray, List.set_cons_zero, List.set_cons_succ]
              refine wpAnyH_done (by kernel_rfl) ?_ _
              clear hS
              repeat clear hHeld
              go_wp2_with fail
              go_roundw
              case rel => exact ⟨k + 1, best, by omega, by go_num, rfl, HN.out, hbd, HBB.out.at_S rfl, own_atS HO.out rfl, hs.out, HX.out.at_ rfl rfl rfl rfl⟩
              case measure => first | (simp [intOf]; done) | (simp [intOf]; omega)
            · have hd2 : decide (cd ∈ out) = false := decide_eq_false hmem
              rw [hd2] at qh1
              by_cases hcl : cc = ef - (j : Int)
              · have hcb : (cc != ef - (j : Int)) = false := by simp [hcl]
                have hcl2 := Lib.hid hcl
                clear hcl
                by_cases hb0 : 0 ≤ best
                · have hd3 : decide (0 ≤ best) = true := decide_eq_true hb0
                  by_cases hbc : best ≤ cd
                  · have hd4 : decide (best ≤ cd) = true := decide_eq_true hbc
                    have HN := Lib.hid (Hkp.out (fun hh => ⟨hb0, hbc⟩))
                    clear hneg hmem hb0 hbc
                    have hS : CmF' b1 (o1 + k * 2) G9 (a1 * 12 + a0) ⟨(a0 : Int), (a1 : Int)⟩ cc wr := ⟨c0, c1, tA⟩
                    go_wp2_with fail
                    go_quiet (fail)
                    go_wp2_with fail
                    refine wp_region_held_drew (S := (CmF' b1 (o1 + k * 2) G9 (a1 * 12 + a0) ⟨(a0 : Int), (a1 : Int)⟩ cc)) (by kernel_rfl) ?r13_hS0 (fun hHeld => ?r13_rest)
                    case r13_hS0 => (try dsimp only); first | assumption | exact hS
                    refine wpAnyH_take (i := 0) (v := ?r13_vv0) (by (simp only [List.getElem?_toArray, List.getElem?_cons_succ, List.getElem?_cons_zero]; rfl)) (by kernel_rfl) (by kernel_rfl) (by kernel_rfl) (by exact fun _ _ _ h => h) (Or.inl ⟨by rfl, ?r13_hy0⟩) (by assumption) ?r13_rest0
                    case r13_hy0 => intro w hSw; (try dsimp only at hSw); (go_simp <;> (with_reducible rfl))
                    try simp only [Act.put, List.setIfInBounds_toArray, List.set_cons_zero, List.set_cons_succ]
                    refine wpAnyH_take (i := 1) (v := ?r13_vv1) (by (simp only [List.getElem?_toArray, List.getElem?_cons_succ, List.getElem?_cons_zero]; rfl)) (by kernel_rfl) (by kernel_rfl) (by kernel_rfl) (by exact fun _ _ _ h => h) (Or.inl ⟨by rfl, ?r13_hy1⟩) (by assumption) ?r13_rest1
                    case r13_hy1 => intro w hSw; (try dsimp only at hSw); (go_simp <;> (with_reducible rfl))
                    try simp only [Act.put, List.setIfInBounds_toArray, List.set_cons_zero, List.set_cons_succ]
                    refine wpAnyH_take (i := 2) (v := ?r13_vv2) (by (simp only [List.getElem?_toArray, List.getElem?_cons_succ, List.getElem?_cons_zero]; rfl)) (by kernel_rfl) (by kernel_rfl) (by kernel_rfl) (by exact fun _ _ _ h => h) (Or.inl ⟨by rfl, ?r13_hy2⟩) (by assumption) ?r13_rest2
                    case r13_hy2 => intro w hSw; (try dsimp only at hSw); (go_simp <;> (with_reducible rfl))
                    try simp only [Act.put, List.setIfInBounds_toArray, List.set_cons_zero, List.set_cons_succ]
                    refine wpAnyH_take (i := 3) (v := ?r13_vv3) (by (simp only [List.getElem?_toArray, List.getElem?_cons_succ, List.getElem?_cons_zero]; rfl)) (by kernel_rfl) (by kernel_rfl) (by kernel_rfl) (by exact fun _ _ _ h => h) (Or.inl ⟨by rfl, ?r13_hy3⟩) (by assumption) ?r13_rest3
                    case r13_hy3 => intro w hSw; (try dsimp only at hSw); (go_simp <;> (with_reducible rfl))
                    try simp only [Act.put, List.setIfInBounds_toArray, List.set_cons_zero, List.set_cons_succ]
                    refine wpAnyH_take (i := 4) (v := ?r13_vv4) (by (simp only [List.getElem?_toArray, List.getElem?_cons_succ, List.getElem?_cons_zero]; rfl)) (by kernel_rfl) (by kernel_rfl) (by kernel_rfl) (by exact fun _ _ _ h => h) (Or.inl ⟨by rfl, ?r13_hy4⟩) (by assumption) ?r13_rest4
                    case r13_hy4 => intro w hSw; (try dsimp only at hSw); (go_simp <;> (with_reducible rfl))
                    try simp only [Act.put, List.setIfInBounds_toArray, List.set_cons_zero, List.set_cons_succ]
                    refine wpAnyH_ready (rs := [5]) (by kernel_rfl) (by simp) ?_
                    refine AllReadyH.cons (by (simp only [List.getElem?_toArray, List.getElem?_cons_succ, List.getElem?_cons_zero]; rfl)) (fun K hK => ?_) AllReadyH.nil
                    go_simp
                    (go_at_call 82; (with_reducible refine (qh1.out _ (drewNS_heap _ _)).mono ?_); rintro e w11 ⟨rfl, rfl⟩)
                    try go_wp2_with fail
                    refine hK.out _ _ ?r13_hS5 (fun hHeld => ?r13_r5)
                    case r13_hS5 => (try dsimp only); first | assumption | exact hS
                    clear hK K
                    try simp only [Act.put, List.setIfInBounds_toArray, List.set_cons_zero, List.set_cons_succ]
                    refine wpAnyH_take (i := 6) (v := ?r13_vv6) (by (simp only [List.getElem?_toArray, List.getElem?_cons_succ, List.getElem?_cons_zero]; rfl)) (by kernel_rfl) (by kernel_rfl) (by kernel_rfl) (by exact fun _ _ _ h => h) (Or.inl ⟨by rfl, ?r13_hy6⟩) (by assumption) ?r13_rest6
                    case r13_hy6 => intro w hSw; (try dsimp only at hSw); (go_simp <;> (with_reducible rfl))
                    try simp only [Act.put, List.setIfInBounds_toArray, List.set_cons_zero, List.set_cons_succ]
                    refine wpAnyH_take (i := 7) (v := ?r13_vv7) (by (simp only [List.getElem?_toArray, List.getElem?_cons_succ, List.getElem?_cons_zero]; rfl)) (by kernel_rfl) (by kernel_rfl) (by kernel_rfl) (by exact fun _ _ _ h => h) (Or.inl ⟨by rfl, ?r13_hy7⟩) (by assumption) ?r13_rest7
                    case r13_hy7 => intro w hSw; (try dsimp only at hSw); (go_simp <;> (with_reducible rfl))
                    try simp only [Act.put, List.setIfInBounds_toArray, List.set_cons_zero, List.set_cons_succ]
                    refine wpAnyH_take (i := 8) (v := ?r13_vv8) (by (simp only [List.getElem?_toArray, List.getElem?_cons_succ, List.getElem?_cons_zero]; rfl)) (by kernel_rfl) (by kernel_rfl) (by kernel_rfl) (by exact fun _ _ _ h => h) (Or.inl ⟨by rfl, ?r13_hy8⟩) (by assumption) ?r13_rest8
                    case r13_hy8 => intro w hSw; (try dsimp only at hSw); (go_simp <;> (with_reducible rfl))
                    try simp only [Act.put, List.setIfInBounds_toArray, List.set_cons_zero, List.set_cons_succ]
                    refine wpAnyH_take (i := 9) (v := ?r13_vv9) (by (simp only [List.getElem?_toArray, List.getElem?_cons_succ, List.getElem?_cons_zero]; rfl)) (by kernel_rfl) (by kernel_rfl) (by kernel_rfl) (by exact fun _ _ _ h => h) (Or.inl ⟨by rfl, ?r13_hy9⟩) (by assumption) ?r13_rest9
                    case r13_hy9 => intro w hSw; (try dsimp only at hSw); (go_simp <;> (with_reducible rfl))
                    try simp only [Act.put, List.setIfInBounds_toArray, List.set_cons_zero, List.set_cons_succ]
                    refine wpAnyH_take (i := 10) (v := ?r13_vv10) (by (simp only [List.getElem?_toArray, List.getElem?_cons_succ, List.getElem?_cons_zero]; rfl)) (by kernel_rfl) (by kernel_rfl) (by kernel_rfl) (by exact fun _ _ _ h => h) (Or.inl ⟨by rfl, ?r13_hy10⟩) (by assumption) ?r13_rest10
                    case r13_hy10 => intro w hSw; (try dsimp only at hSw); (go_simp <;> (with_reducible rfl))
                    try simp only [Act.put, List.setIfInBounds_toArray, List.set_cons_zero, List.set_cons_succ]
                    refine wpAnyH_take (i := 11) (v := ?r13_vv11) (by (simp only [List.getElem?_toArray, List.getElem?_cons_succ, List.getElem?_cons_zero]; rfl)) (by kernel_rfl) (by kernel_rfl) (by kernel_rfl) (by exact fun _ _ _ h => h) (Or.inl ⟨by rfl, ?r13_hy11⟩) (by assumption) ?r13_rest11
                    case r13_hy11 => intro w hSw; (try dsimp only at hSw); (go_simp <;> (with_reducible rfl))
                    try simp only [Act.put, List.setIfInBounds_toArray, List.set_cons_zero, List.set_cons_succ]
                    refine wpAnyH_take (i := 12) (v := ?r13_vv12) (by (simp only [List.getElem?_toArray, List.getElem?_cons_succ, List.getElem?_cons_zero]; rfl)) (by kernel_rfl) (by kernel_rfl) (by kernel_rfl) (by exact fun _ _ _ h => h) (Or.inl ⟨by rfl, ?r13_hy12⟩) (by assumption) ?r13_rest12
                    case r13_hy12 => intro w hSw; (try dsimp only at hSw); (go_simp <;> (with_reducible rfl))
                    try simp only [Act.put, List.setIfInBounds_toArray, List.set_cons_zero, List.set_cons_succ]
                    refine wpAnyH_take (i := 13) (v := ?r13_vv13) (by (simp only [List.getElem?_toArray, List.getElem?_cons_succ, List.getElem?_cons_zero]; rfl)) (by kernel_rfl) (by kernel_rfl) (by kernel_rfl) (by exact fun _ _ _ h => h) (Or.inl ⟨by rfl, ?r13_hy13⟩) (by assumption) ?r13_rest13
                    case r13_hy13 => intro w hSw; (try dsimp only at hSw); (go_simp <;> (with_reducible rfl))
                    try simp only [Act.put, List.setIfInBounds_toArray, List.set_cons_zero, List.set_cons_succ]
                    refine wpAnyH_take (i := 14) (v := ?r13_vv14) (by (simp only [List.getElem?_toArray, List.getElem?_cons_succ, List.getElem?_cons_zero]; rfl)) (by kernel_rfl) (by kernel_rfl) (by kernel_rfl) (by exact fun _ _ _ h => h) (Or.inl ⟨by rfl, ?r13_hy14⟩) (by assumption) ?r13_rest14
                    case r13_hy14 => intro w hSw; (try dsimp only at hSw); (go_simp <;> (with_reducible rfl))
                    try simp only [Act.put, List.setIfInBounds_toArray, List.set_cons_zero, List.set_cons_succ]
                    refine wpAnyH_take (i := 15) (v := ?r13_vv15) (by (simp only [List.getElem?_toArray, List.getElem?_cons_succ, List.getElem?_cons_zero]; rfl)) (by kernel_rfl) (by kernel_rfl) (by kernel_rfl) (by exact fun _ _ _ h => h) (Or.inl ⟨by rfl, ?r13_hy15⟩) (by assumption) ?r13_rest15
                    case r13_hy15 => intro w hSw; (try dsimp only at hSw); (go_simp <;> (with_reducible rfl))
                    try simp only [Act.put, List.setIfInBounds_toArray, List.set_cons_zero, List.set_cons_succ]
                    refine wpAnyH_take (i := 16) (v := ?r13_vv16) (by (simp only [List.getElem?_toArray, List.getElem?_cons_succ, List.getElem?_cons_zero]; rfl)) (by kernel_rfl) (by kernel_rfl) (by kernel_rfl) (by exact fun _ _ _ h => h) (Or.inl ⟨by rfl, ?r13_hy16⟩) (by assumption) ?r13_rest16
                    case r13_hy16 => intro w hSw; (try dsimp only at hSw); (go_simp <;> (with_reducible rfl))
                    try simp only [Act.put, List.setIfInBounds_toArray, List.set_cons_zero, List.set_cons_succ]
                    refine wpAnyH_take (i := 17) (v := ?r13_vv17) (by (simp only [List.getElem?_toArray, List.getElem?_cons_succ, List.getElem?_cons_zero]; rfl)) (by kernel_rfl) (by kernel_rfl) (by kernel_rfl) (by exact fun _ _ _ h => h) (Or.inl ⟨by rfl, ?r13_hy17⟩) (by assumption) ?r13_rest17
                    case r13_hy17 => intro w hSw; (try dsimp only at hSw); (go_simp <;> (with_reducible rfl))
                    try simp only [Act.put, List.setIfInBounds_toArray, List.set_cons_zero, List.set_cons_succ]
                    refine wpAnyH_take (i := 18) (v := ?r13_vv18) (by (simp only [List.getElem?_toArray, List.getElem?_cons_succ, List.getElem?_cons_zero]; rfl)) (by kernel_rfl) (by kernel_rfl) (by kernel_rfl) (by exact fun _ _ _ h => h) (Or.inl ⟨by rfl, ?r13_hy18⟩) (by assumption) ?r13_rest18
                    case r13_hy18 => intro w hSw; (try dsimp only at hSw); (go_simp <;> (with_reducible rfl))
                    try simp only [Act.put, List.setIfInBounds_toArray, List.set_cons_zero, List.set_cons_succ]
                    refine wpAnyH_take (i := 19) (v := ?r13_vv19) (by (simp only [List.getElem?_toArray, List.getElem?_cons_succ, List.getElem?_cons_zero]; rfl)) (by kernel_rfl) (by kernel_rfl) (by kernel_rfl) (by exact fun _ _ _ h => h) (Or.inl ⟨by rfl, ?r13_hy19⟩) (by assumption) ?r13_rest19
                    case r13_hy19 => intro w hSw; (try dsimp only at hSw); (go_simp <;> (with_reducible rfl))
                    try simp only [Act.put, List.setIfInBounds_toArray, List.set_cons_zero, List.set_cons_succ]
                    refine wpAnyH_take (i := 20) (v := ?r13_vv20) (by (simp only [List.getElem?_toArray, List.getElem?_cons_succ, List.getElem?_cons_zero]; rfl)) (by kernel_rfl) (by kernel_rfl) (by kernel_rfl) (by exact fun _ _ _ h => h) (Or.inl ⟨by rfl, ?r13_hy20⟩) (by assumption) ?r13_rest20
                    case r13_hy20 => intro w hSw; (try dsimp only at hSw); (go_simp <;> (with_reducible rfl))
                    try simp only [Act.put, List.setIfInBounds_toArray, List.set_cons_zero, List.set_cons_succ]
                    refine wpAnyH_take (i := 21) (v := ?r13_vv21) (by (simp only [List.getElem?_toArray, List.getElem?_cons_succ, List.getElem?_cons_zero]; rfl)) (by kernel_rfl) (by kernel_rfl) (by kernel_rfl) (by exact fun _ _ _ h => h) (Or.inl ⟨by rfl, ?r13_hy21⟩) (by assumption) ?r13_rest21
                    case r13_hy21 => intro w hSw; (try dsimp only at hSw); (go_simp <;> (with_reducible rfl))
                    try simp only [Act.put, List.setIfInBounds_toArray, List.set_cons_zero, List.set_cons_succ]
                    refine wpAnyH_take (i := 22) (v := ?r13_vv22) (by (simp only [List.getElem?_toArray, List.getElem?_cons_succ, List.getElem?_cons_zero]; rfl)) (by kernel_rfl) (by kernel_rfl) (by kernel_rfl) (by exact fun _ _ _ h => h) (Or.inl ⟨by rfl, ?r13_hy22⟩) (by assumption) ?r13_rest22
                    case r13_hy22 => intro w hSw; (try dsimp only at hSw); (go_simp <;> (with_reducible rfl))
                    try simp only [Act.put, List.setIfInBounds_toArray, List.set_cons_zero, List.set_cons_succ]
                    refine wpAnyH_take (i := 23) (v := ?r13_vv23) (by (simp only [List.getElem?_toArray, List.getElem?_cons_succ, List.getElem?_cons_zero]; rfl)) (by kernel_rfl) (by kernel_rfl) (by kernel_rfl) (by exact fun _ _ _ h => h) (Or.inl ⟨by rfl, ?r13_hy23⟩) (by assumption) ?r13_rest23
                    case r13_hy23 => intro w hSw; (try dsimp only at hSw); (go_simp <;> (with_reducible rfl))
                    try simp only [Act.put, List.setIfInBounds_toArray, List.set_cons_zero, List.set_cons_succ]
                    refine wpAnyH_take (i := 24) (v := ?r13_vv24) (by (simp only [List.getElem?_toArray, List.getElem?_cons_succ, List.getElem?_cons_zero]; rfl)) (by kernel_rfl) (by kernel_rfl) (by kernel_rfl) (by exact fun _ _ _ h => h) (Or.inl ⟨by rfl, ?r13_hy24⟩) (by assumption) ?r13_rest24
                    case r13_hy24 => intro w hSw; (try dsimp only at hSw); (go_simp <;> (with_reducible rfl))
                    try simp only [Act.put, List.setIfInBounds_toArray, List.set_cons_zero, List.set_cons_succ]
                    refine wpAnyH_take (i := 25) (v := ?r13_vv25) (by (simp only [List.getElem?_toArray, List.getElem?_cons_succ, List.getElem?_cons_zero]; rfl)) (by kernel_rfl) (by kernel_rfl) (by kernel_rfl) (by exact fun _ _ _ h => h) (Or.inl ⟨by rfl, ?r13_hy25⟩) (by assumption) ?r13_rest25
                    case r13_hy25 => intro w hSw; (try dsimp only at hSw); (go_simp <;> (with_reducible rfl))
                    try simp only [Act.put, List.setIfInBounds_toArray, List.set_cons_zero, List.set_cons_succ]
                    refine wpAnyH_take (i := 26) (v := ?r13_vv26) (by (simp only [List.getElem?_toArray, List.getElem?_cons_succ, List.getElem?_cons_zero]; rfl)) (by kernel_rfl) (by kernel_rfl) (by kernel_rfl) (by exact fun _ _ _ h => h) (Or.inl ⟨by rfl, ?r13_hy26⟩) (by assumption) ?r13_rest26
                    case r13_hy26 => intro w hSw; (try dsimp only at hSw); (go_simp <;> (with_reducible rfl))
                    try simp only [Act.put, List.setIfInBounds_toArray, List.set_cons_zero, List.set_cons_succ]
                    refine wpAnyH_take (i := 27) (v := ?r13_vv27) (by (simp only [List.getElem?_toArray, List.getElem?_cons_succ, List.getElem?_cons_zero]; rfl)) (by kernel_rfl) (by kernel_rfl) (by kernel_rfl) (by exact fun _ _ _ h => h) (Or.inl ⟨by rfl, ?r13_hy27⟩) (by assumption) ?r13_rest27
                    case r13_hy27 => intro w hSw; (try dsimp only at hSw); (go_simp <;> (with_reducible rfl))
                    try simp only [Act.put, List.setIfInBounds_toArray, List.set_cons_zero, List.set_cons_succ]
                    refine wpAnyH_take (i := 28) (v := ?r13_vv28) (by (simp only [List.getElem?_toArray, List.getElem?_cons_succ, List.getElem?_cons_zero]; rfl)) (by kernel_rfl) (by kernel_rfl) (by kernel_rfl) (by exact fun _ _ _ h => h) (Or.inl ⟨by rfl, ?r13_hy28⟩) (by assumption) ?r13_rest28
                    case r13_hy28 => intro w hSw; (try dsimp only at hSw); (go_simp <;> (with_reducible rfl))
                    try simp only [Act.put, List.setIfInBounds_toArray, List.set_cons_zero, List.set_cons_succ]
                    refine wpAnyH_take (i := 29) (v := ?r13_vv29) (by (simp only [List.getElem?_toArray, List.getElem?_cons_succ, List.getElem?_cons_zero]; rfl)) (by kernel_rfl) (by kernel_rfl) (by kernel_rfl) (by exact fun _ _ _ h => h) (Or.inl ⟨by rfl, ?r13_hy29⟩) (by assumption) ?r13_rest29
                    case r13_hy29 => intro w hSw; (try dsimp only at hSw); (go_simp <;> (with_reducible rfl))
                    try simp only [Act.put, List.setIfInBounds_toArray, List.set_cons_zero, List.set_cons_succ]
                    refine wpAnyH_take (i := 30) (v := ?r13_vv30) (by (simp only [List.getElem?_toArray, List.getElem?_cons_succ, List.getElem?_cons_zero]; rfl)) (by kernel_rfl) (by kernel_rfl) (by kernel_rfl) (by exact fun _ _ _ h => h) (Or.inl ⟨by rfl, ?r13_hy30⟩) (by assumption) ?r13_rest30
                    case r13_hy30 => intro w hSw; (try dsimp only at hSw); (go_simp <;> (with_reducible rfl))
                    try simp only [Act.put, List.setIfInBounds_toArray, List.set_cons_zero, List.set_cons_succ]
                    refine wpAnyH_take (i := 31) (v := ?r13_vv31) (by (simp only [List.getElem?_toArray, List.getElem?_cons_succ, List.getElem?_cons_zero]; rfl)) (by kernel_rfl) (by kernel_rfl) (by kernel_rfl) (by exact fun _ _ _ h => h) (Or.inl ⟨by rfl, ?r13_hy31⟩) (by assumption) ?r13_rest31
                    case r13_hy31 => intro w hSw; (try dsimp only at hSw); (go_simp <;> (with_reducible rfl))
                    try simp only [Act.put, List.setIfInBounds_toArray, List.set_cons_zero, List.set_cons_succ]
                    refine wpAnyH_take (i := 32) (v := ?r13_vv32) (by (simp only [List.getElem?_toArray, List.getElem?_cons_succ, List.getElem?_cons_zero]; rfl)) (by kernel_rfl) (by kernel_rfl) (by kernel_rfl) (by exact fun _ _ _ h => h) (Or.inl ⟨by rfl, ?r13_hy32⟩) (by assumption) ?r13_rest32
                    case r13_hy32 => intro w hSw; (try dsimp only at hSw); (go_simp <;> (with_reducible rfl))
                    try simp only [Act.put, List.setIfInBounds_toArray, List.set_cons_zero, List.set_cons_succ]
                    refine wpAnyH_done (by kernel_rfl) ?_ _
                    clear hS
                    repeat clear hHeld
                    go_wp2_with fail
                    go_roundw
                    case rel => exact ⟨k + 1, best, by omega, by go_num, rfl, HN.out, hbd, HBB.out.at_S rfl, own_atS HO.out rfl, hs.out, HX.out.at_ rfl rfl rfl rfl⟩
                    case measure => first | (simp [intOf]; done) | (simp [intOf]; omega)
                  · have hd4 : decide (best ≤ cd) = false := decide_eq_false hbc
                    have Hcmp := Lib.hid (show best < 0 ∨ cvS sl xs[k] < best from .inr (by rw [HQE.out, Hcd.out]; omega))
                    replace Hask := Lib.hid (Hask.out (by omega) hmem hcl2.out)
                    have Hask2 := Lib.hid (fun (hh : askS w h (cvS sl) (atT LC) (ef - (j : Int)) out ⟨(fa : Int), (fb : Int)⟩ xs[k]) => (Hno.out (by rw [← HQE.out]; exact hh)).2.2.2)
                    clear hneg hmem hb0 hbc Hno Hkp
                    have hS : CmF' b1 (o1 + k * 2) G9 (a1 * 12 + a0) ⟨(a0 : Int), (a1 : Int)⟩ cc wr := ⟨c0, c1, tA⟩
                    go_wp2_with fail
                    go_quiet (fail)
                    go_wp2_with fail
                    refine wp_region_held_drew (S := (CmF' b1 (o1 + k * 2) G9 (a1 * 12 + a0) ⟨(a0 : Int), (a1 : Int)⟩ cc)) (by kernel_rfl) ?r14_hS0 (fun hHeld => ?r14_rest)
                    case r14_hS0 => (try dsimp only); first | assumption | exact hS
                    refine wpAnyH_take (i := 0) (v := ?r14_vv0) (by (simp only [List.getElem?_toArray, List.getElem?_cons_succ, List.getElem?_cons_zero]; rfl)) (by kernel_rfl) (by kernel_rfl) (by kernel_rfl) (by exact fun _ _ _ h => h) (Or.inl ⟨by rfl, ?r14_hy0⟩) (by assumption) ?r14_rest0
                    case r14_hy0 => intro w hSw; (try dsimp only at hSw); (go_simp <;> (with_reducible rfl))
                    try simp only [Act.put, List.setIfInBounds_toArray, List.set_cons_zero, List.set_cons_succ]
                    refine wpAnyH_take (i := 1) (v := ?r14_vv1) (by (simp only [List.getElem?_toArray, List.getElem?_cons_succ, List.getElem?_cons_zero]; rfl)) (by kernel_rfl) (by kernel_rfl) (by kernel_rfl) (by exact fun _ _ _ h => h) (Or.inl ⟨by rfl, ?r14_hy1⟩) (by assumption) ?r14_rest1
                    case r14_hy1 => intro w hSw; (try dsimp only at hSw); (go_simp <;> (with_reducible rfl))
                    try simp only [Act.put, List.setIfInBounds_toArray, List.set_cons_zero, List.set_cons_succ]
                    refine wpAnyH_take (i := 2) (v := ?r14_vv2) (by (simp only [List.getElem?_toArray, List.getElem?_cons_succ, List.getElem?_cons_zero]; rfl)) (by kernel_rfl) (by kernel_rfl) (by kernel_rfl) (by exact fun _ _ _ h => h) (Or.inl ⟨by rfl, ?r14_hy2⟩) (by assumption) ?r14_rest2
                    case r14_hy2 => intro w hSw; (try dsimp only at hSw); (go_simp <;> (with_reducible rfl))
                    try simp only [Act.put, List.setIfInBounds_toArray, List.set_cons_zero, List.set_cons_succ]
                    refine wpAnyH_take (i := 3) (v := ?r14_vv3) (by (simp only [List.getElem?_toArray, List.getElem?_cons_succ, List.getElem?_cons_zero]; rfl)) (by kernel_rfl) (by kernel_rfl) (by kernel_rfl) (by exact fun _ _ _ h => h) (Or.inl ⟨by rfl, ?r14_hy3⟩) (by assumption) ?r14_rest3
                    case r14_hy3 => intro w hSw; (try dsimp only at hSw); (go_simp <;> (with_reducible rfl))
                    try simp only [Act.put, List.setIfInBounds_toArray, List.set_cons_zero, List.set_cons_succ]
                    refine wpAnyH_take (i := 4) (v := ?r14_vv4) (by (simp only [List.getElem?_toArray, List.getElem?_cons_succ, List.getElem?_cons_zero]; rfl)) (by kernel_rfl) (by kernel_rfl) (by kernel_rfl) (by exact fun _ _ _ h => h) (Or.inl ⟨by rfl, ?r14_hy4⟩) (by assumption) ?r14_rest4
                    case r14_hy4 => intro w hSw; (try dsimp only at hSw); (go_simp <;> (with_reducible rfl))
                    try simp only [Act.put, List.setIfInBounds_toArray, List.set_cons_zero, List.set_cons_succ]
                    refine wpAnyH_ready (rs := [5]) (by kernel_rfl) (by simp) ?_
                    refine AllReadyH.cons (by (simp only [List.getElem?_toArray, List.getElem?_cons_succ, List.getElem?_cons_zero]; rfl)) (fun K hK => ?_) AllReadyH.nil
                    go_simp
                    (go_at_call 82; (with_reducible refine (qh1.out _ (drewNS_heap _ _)).mono ?_); rintro e w11 ⟨rfl, rfl⟩)
                    try go_wp2_with fail
                    refine hK.out _ _ ?r14_hS5 (fun hHeld => ?r14_r5)
                    case r14_hS5 => (try dsimp only); first | assumption | exact hS
                    clear hK K
                    try simp only [Act.put, List.setIfInBounds_toArray, List.set_cons_zero, List.set_cons_succ]
                    refine wpAnyH_take (i := 6) (v := ?r14_vv6) (by (simp only [List.getElem?_toArray, List.getElem?_cons_succ, List.getElem?_cons_zero]; rfl)) (by kernel_rfl) (by kernel_rfl) (by kernel_rfl) (by exact fun _ _ _ h => h) (Or.inl ⟨by rfl, ?r14_hy6⟩) (by assumption) ?r14_rest6
                    case r14_hy6 => intro w hSw; (try dsimp only at hSw); (go_simp <;> (with_reducible rfl))
                    try simp only [Act.put, List.setIfInBounds_toArray, List.set_cons_zero, List.set_cons_succ]
                    refine wpAnyH_take (i := 7) (v := ?r14_vv7) (by (simp only [List.getElem?_toArray, List.getElem?_cons_succ, List.getElem?_cons_zero]; rfl)) (by kernel_rfl) (by kernel_rfl) (by kernel_rfl) (by exact fun _ _ _ h => h) (Or.inl ⟨by rfl, ?r14_hy7⟩) (by assumption) ?r14_rest7
                    case r14_hy7 => intro w hSw; (try dsimp only at hSw); (go_simp <;> (with_reducible rfl))
                    try simp only [Act.put, List.setIfInBounds_toArray, List.set_cons_zero, List.set_cons_succ]
                    refine wpAnyH_take (i := 8) (v := ?r14_vv8) (by (simp only [List.getElem?_toArray, List.getElem?_cons_succ, List.getElem?_cons_zero]; rfl)) (by kernel_rfl) (by kernel_rfl) (by kernel_rfl) (by exact fun _ _ _ h => h) (Or.inl ⟨by rfl, ?r14_hy8⟩) (by assumption) ?r14_rest8
                    case r14_hy8 => intro w hSw; (try dsimp only at hSw); (go_simp <;> (with_reducible rfl))
                    try simp only [Act.put, List.setIfInBounds_toArray, List.set_cons_zero, List.set_cons_succ]
                    refine wpAnyH_take (i := 9) (v := ?r14_vv9) (by (simp only [List.getElem?_toArray, List.getElem?_cons_succ, List.getElem?_cons_zero]; rfl)) (by kernel_rfl) (by kernel_rfl) (by kernel_rfl) (by exact fun _ _ _ h => h) (Or.inl ⟨by rfl, ?r14_hy9⟩) (by assumption) ?r14_rest9
                    case r14_hy9 => intro w hSw; (try dsimp only at hSw); (go_simp <;> (with_reducible rfl))
                    try simp only [Act.put, List.setIfInBounds_toArray, List.set_cons_zero, List.set_cons_succ]
                    refine wpAnyH_take (i := 10) (v := ?r14_vv10) (by (simp only [List.getElem?_toArray, List.getElem?_cons_succ, List.getElem?_cons_zero]; rfl)) (by kernel_rfl) (by kernel_rfl) (by kernel_rfl) (by exact fun _ _ _ h => h) (Or.inl ⟨by rfl, ?r14_hy10⟩) (by assumption) ?r14_rest10
                    case r14_hy10 => intro w hSw; (try dsimp only at hSw); (go_simp <;> (with_reducible rfl))
                    try simp only [Act.put, List.setIfInBounds_toArray, List.set_cons_zero, List.set_cons_succ]
                    refine wpAnyH_take (i := 11) (v := ?r14_vv11) (by (simp only [List.getElem?_toArray, List.getElem?_cons_succ, List.getElem?_cons_zero]; rfl)) (by kernel_rfl) (by kernel_rfl) (by kernel_rfl) (by exact fun _ _ _ h => h) (Or.inl ⟨by rfl, ?r14_hy11⟩) (by assumption) ?r14_rest11
                    case r14_hy11 => intro w hSw; (try dsimp only at hSw); (go_simp <;> (with_reducible rfl))
                    try simp only [Act.put, List.setIfInBounds_toArray, List.set_cons_zero, List.set_cons_succ]
                    refine wpAnyH_take (i := 12) (v := ?r14_vv12) (by (simp only [List.getElem?_toArray, List.getElem?_cons_succ, List.getElem?_cons_zero]; rfl)) (by kernel_rfl) (by kernel_rfl) (by kernel_rfl) (by exact fun _ _ _ h => h) (Or.inl ⟨by rfl, ?r14_hy12⟩) (by assumption) ?r14_rest12
                    case r14_hy12 => intro w hSw; (try dsimp only at hSw); (go_simp <;> (with_reducible rfl))
                    try simp only [Act.put, List.setIfInBounds_toArray, List.set_cons_zero, List.set_cons_succ]
                    refine wpAnyH_take (i := 13) (v := ?r14_vv13) (by (simp only [List.getElem?_toArray, List.getElem?_cons_succ, List.getElem?_cons_zero]; rfl)) (by kernel_rfl) (by kernel_rfl) (by kernel_rfl) (by exact fun _ _ _ h => h) (Or.inl ⟨by rfl, ?r14_hy13⟩) (by assumption) ?r14_rest13
                    case r14_hy13 => intro w hSw; (try dsimp only at hSw); (go_simp <;> (with_reducible rfl))
                    try simp only [Act.put, List.setIfInBounds_toArray, List.set_cons_zero, List.set_cons_succ]
                    refine wpAnyH_take (i := 14) (v := ?r14_vv14) (by (simp only [List.getElem?_toArray, List.getElem?_cons_succ, List.getElem?_cons_zero]; rfl)) (by kernel_rfl) (by kernel_rfl) (by kernel_rfl) (by exact fun _ _ _ h => h) (Or.inl ⟨by rfl, ?r14_hy14⟩) (by assumption) ?r14_rest14
                    case r14_hy14 => intro w hSw; (try dsimp only at hSw); (go_simp <;> (with_reducible rfl))
                    try simp only [Act.put, List.setIfInBounds_toArray, List.set_cons_zero, List.set_cons_succ]
                    refine wpAnyH_take (i := 15) (v := ?r14_vv15) (by (simp only [List.getElem?_toArray, List.getElem?_cons_succ, List.getElem?_cons_zero]; rfl)) (by kernel_rfl) (by kernel_rfl) (by kernel_rfl) (by exact fun _ _ _ h => h) (Or.inl ⟨by rfl, ?r14_hy15⟩) (by assumption) ?r14_rest15
                    case r14_hy15 => intro w hSw; (try dsimp only at hSw); (go_simp <;> (with_reducible rfl))
                    try simp only [Act.put, List.setIfInBounds_toArray, List.set_cons_zero, List.set_cons_succ]
                    refine wpAnyH_take (i := 16) (v := ?r14_vv16) (by (simp only [List.getElem?_toArray, List.getElem?_cons_succ, List.getElem?_cons_zero]; rfl)) (by kernel_rfl) (by kernel_rfl) (by kernel_rfl) (by exact fun _ _ _ h => h) (Or.inl ⟨by rfl, ?r14_hy16⟩) (by assumption) ?r14_rest16
                    case r14_hy16 => intro w hSw; (try dsimp only at hSw); (go_simp <;> (with_reducible rfl))
                    try simp only [Act.put, List.setIfInBounds_toArray, List.set_cons_zero, List.set_cons_succ]
                    refine wpAnyH_take (i := 17) (v := ?r14_vv17) (by (simp only [List.getElem?_toArray, List.getElem?_cons_succ, List.getElem?_cons_zero]; rfl)) (by kernel_rfl) (by kernel_rfl) (by kernel_rfl) (by exact fun _ _ _ h => h) (Or.inl ⟨by rfl, ?r14_hy17⟩) (by assumption) ?r14_rest17
                    case r14_hy17 => intro w hSw; (try dsimp only at hSw); (go_simp <;> (with_reducible rfl))
                    try simp only [Act.put, List.setIfInBounds_toArray, List.set_cons_zero, List.set_cons_succ]
                    refine wpAnyH_take (i := 18) (v := ?r14_vv18) (by (simp only [List.getElem?_toArray, List.getElem?_cons_succ, List.getElem?_cons_zero]; rfl)) (by kernel_rfl) (by kernel_rfl) (by kernel_rfl) (by exact fun _ _ _ h => h) (Or.inl ⟨by rfl, ?r14_hy18⟩) (by assumption) ?r14_rest18
                    case r14_hy18 => intro w hSw; (try dsimp only at hSw); (go_simp <;> (with_reducible rfl))
                    try simp only [Act.put, List.setIfInBounds_toArray, List.set_cons_zero, List.set_cons_succ]
                    refine wpAnyH_take (i := 19) (v := ?r14_vv19) (by (simp only [List.getElem?_toArray, List.getElem?_cons_succ, List.getElem?_cons_zero]; rfl)) (by kernel_rfl) (by kernel_rfl) (by kernel_rfl) (by exact fun _ _ _ h => h) (Or.inl ⟨by rfl, ?r14_hy19⟩) (by assumption) ?r14_rest19
                    case r14_hy19 => intro w hSw; (try dsimp only at hSw); (go_simp <;> (with_reducible rfl))
                    try simp only [Act.put, List.setIfInBounds_toArray, List.set_cons_zero, List.set_cons_succ]
                    refine wpAnyH_take (i := 20) (v := ?r14_vv20) (by (simp only [List.getElem?_toArray, List.getElem?_cons_succ, List.getElem?_cons_zero]; rfl)) (by kernel_rfl) (by kernel_rfl) (by kernel_rfl) (by exact fun _ _ _ h => h) (Or.inl ⟨by rfl, ?r14_hy20⟩) (by assumption) ?r14_rest20
                    case r14_hy20 => intro w hSw; (try dsimp only at hSw); (go_simp <;> (with_reducible rfl))
                    try simp only [Act.put, List.setIfInBounds_toArray, List.set_cons_zero, List.set_cons_succ]
                    refine wpAnyH_take (i := 21) (v := ?r14_vv21) (by (simp only [List.getElem?_toArray, List.getElem?_cons_succ, List.getElem?_cons_zero]; rfl)) (by kernel_rfl) (by kernel_rfl) (by kernel_rfl) (by exact fun _ _ _ h => h) (Or.inl ⟨by rfl, ?r14_hy21⟩) (by assumption) ?r14_rest21
                    case r14_hy21 => intro w hSw; (try dsimp only at hSw); (go_simp <;> (with_reducible rfl))
                    try simp only [Act.put, List.setIfInBounds_toArray, List.set_cons_zero, List.set_cons_succ]
                    refine wpAnyH_take (i := 22) (v := ?r14_vv22) (by (simp only [List.getElem?_toArray, List.getElem?_cons_succ, List.getElem?_cons_zero]; rfl)) (by kernel_rfl) (by kernel_rfl) (by kernel_rfl) (by exact fun _ _ _ h => h) (Or.inl ⟨by rfl, ?r14_hy22⟩) (by assumption) ?r14_rest22
                    case r14_hy22 => intro w hSw; (try dsimp only at hSw); (go_simp <;> (with_reducible rfl))
                    try simp only [Act.put, List.setIfInBounds_toArray, List.set_cons_zero, List.set_cons_succ]
                    refine wpAnyH_take (i := 23) (v := ?r14_vv23) (by (simp only [List.getElem?_toArray, List.getElem?_cons_succ, List.getElem?_cons_zero]; rfl)) (by kernel_rfl) (by kernel_rfl) (by kernel_rfl) (by exact fun _ _ _ h => h) (Or.inl ⟨by rfl, ?r14_hy23⟩) (by assumption) ?r14_rest23
                    case r14_hy23 => intro w hSw; (try dsimp only at hSw); (go_simp <;> (with_reducible rfl))
                    try simp only [Act.put, List.setIfInBounds_toArray, List.set_cons_zero, List.set_cons_succ]
                    refine wpAnyH_take (i := 24) (v := ?r14_vv24) (by (simp only [List.getElem?_toArray, List.getElem?_cons_succ, List.getElem?_cons_zero]; rfl)) (by kernel_rfl) (by kernel_rfl) (by kernel_rfl) (by exact fun _ _ _ h => h) (Or.inl ⟨by rfl, ?r14_hy24⟩) (by assumption) ?r14_rest24
                    case r14_hy24 => intro w hSw; (try dsimp only at hSw); (go_simp <;> (with_reducible rfl))
                    try simp only [Act.put, List.setIfInBounds_toArray, List.set_cons_zero, List.set_cons_succ]
                    refine wpAnyH_take (i := 25) (v := ?r14_vv25) (by (simp only [List.getElem?_toArray, List.getElem?_cons_succ, List.getElem?_cons_zero]; rfl)) (by kernel_rfl) (by kernel_rfl) (by kernel_rfl) (by exact fun _ _ _ h => h) (Or.inl ⟨by rfl, ?r14_hy25⟩) (by assumption) ?r14_rest25
                    case r14_hy25 => intro w hSw; (try dsimp only at hSw); (go_simp <;> (with_reducible rfl))
                    try simp only [Act.put, List.setIfInBounds_toArray, List.set_cons_zero, List.set_cons_succ]
                    refine wpAnyH_take (i := 26) (v := ?r14_vv26) (by (simp only [List.getElem?_toArray, List.getElem?_cons_succ, List.getElem?_cons_zero]; rfl)) (by kernel_rfl) (by kernel_rfl) (by kernel_rfl) (by exact fun _ _ _ h => h) (Or.inl ⟨by rfl, ?r14_hy26⟩) (by assumption) ?r14_rest26
                    case r14_hy26 => intro w hSw; (try dsimp only at hSw); (go_simp <;> (with_reducible rfl))
                    try simp only [Act.put, List.setIfInBounds_toArray, List.set_cons_zero, List.set_cons_succ]
                    refine wpAnyH_take (i := 27) (v := ?r14_vv27) (by (simp only [List.getElem?_toArray, List.getElem?_cons_succ, List.getElem?_cons_zero]; rfl)) (by kernel_rfl) (by kernel_rfl) (by kernel_rfl) (by exact fun _ _ _ h => h) (Or.inl ⟨by rfl, ?r14_hy27⟩) (by assumption) ?r14_rest27
                    case r14_hy27 => intro w hSw; (try dsimp only at hSw); (go_simp <;> (with_reducible rfl))
                    try simp only [Act.put, List.setIfInBounds_toArray, List.set_cons_zero, List.set_cons_succ]
                    refine wpAnyH_take (i := 28) (v := ?r14_vv28) (by (simp only [List.getElem?_toArray, List.getElem?_cons_succ, List.getElem?_cons_zero]; rfl)) (by kernel_rfl) (by kernel_rfl) (by kernel_rfl) (by exact fun _ _ _ h => h) (Or.inl ⟨by rfl, ?r14_hy28⟩) (by assumption) ?r14_rest28
                    case r14_hy28 => intro w hSw; (try dsimp only at hSw); (go_simp <;> (with_reducible rfl))
                    try simp only [Act.put, List.setIfInBounds_toArray, List.set_cons_zero, List.set_cons_succ]
                    refine wpAnyH_take (i := 29) (v := ?r14_vv29) (by (simp only [List.getElem?_toArray, List.getElem?_cons_succ, List.getElem?_cons_zero]; rfl)) (by kernel_rfl) (by kernel_rfl) (by kernel_rfl) (by exact fun _ _ _ h => h) (Or.inl ⟨by rfl, ?r14_hy29⟩) (by assumption) ?r14_rest29
                    case r14_hy29 => intro w hSw; (try dsimp only at hSw); (go_simp <;> (with_reducible rfl))
                    try simp only [Act.put, List.setIfInBounds_toArray, List.set_cons_zero, List.set_cons_succ]
                    refine wpAnyH_take (i := 30) (v := ?r14_vv30) (by (simp only [List.getElem?_toArray, List.getElem?_cons_succ, List.getElem?_cons_zero]; rfl)) (by kernel_rfl) (by kernel_rfl) (by kernel_rfl) (by exact fun _ _ _ h => h) (Or.inl ⟨by rfl, ?r14_hy30⟩) (by assumption) ?r14_rest30
                    case r14_hy30 => intro w hSw; (try dsimp only at hSw); (go_simp <;> (with_reducible rfl))
                    try simp only [Act.put, List.setIfInBounds_toArray, List.set_cons_zero, List.set_cons_succ]
                    refine wpAnyH_take (i := 31) (v := ?r14_vv31) (by (simp only [List.getElem?_toArray, List.getElem?_cons_succ, List.getElem?_cons_zero]; rfl)) (by kernel_rfl) (by kernel_rfl) (by kernel_rfl) (by exact fun _ _ _ h => h) (Or.inl ⟨by rfl, ?r14_hy31⟩) (by assumption) ?r14_rest31
                    case r14_hy31 => intro w hSw; (try dsimp only at hSw); (go_simp <;> (with_reducible rfl))
                    try simp only [Act.put, List.setIfInBounds_toArray, List.set_cons_zero, List.set_cons_succ]
                    refine wpAnyH_take (i := 32) (v := ?r14_vv32) (by (simp only [List.getElem?_toArray, List.getElem?_cons_succ, List.getElem?_cons_zero]; rfl)) (by kernel_rfl) (by kernel_rfl) (by kernel_rfl) (by exact fun _ _ _ h => h) (Or.inl ⟨by rfl, ?r14_hy32⟩) (by assumption) ?r14_rest32
                    case r14_hy32 => intro w hSw; (try dsimp only at hSw); (go_simp <;> (with_reducible rfl))
                    try simp only [Act.put, List.setIfInBounds_toArray, List.set_cons_zero, List.set_cons_succ]
                    refine wpAnyH_done (by kernel_rfl) ?_ _
                    clear hS
                    repeat clear hHeld
                    replace HX := Lib.hid (HX.out.at_ (y := wr.drewN (nq + 1)) rfl rfl rfl rfl)
                    replace HBB := Lib.hid (HBB.out.at_S (y := wr.drewN (nq + 1)) rfl)
                    replace HO := Lib.hid (own_atS (w' := wr.drewN (nq + 1)) HO.out rfl)
                    replace hs : Hid (B1 ≤ (wr.drewN (nq + 1)).heap.size) := Lib.hid hs.out
                    replace c0 : (wr.drewN (nq + 1)).cell? ⟨b1, o1 + k * 2, none⟩ = some (.int .i8 (a0 : Int)) := c0
                    replace c1 : (wr.drewN (nq + 1)).cell? ⟨b1, o1 + k * 2 + 1, none⟩ = some (.int .i8 (a1 : Int)) := c1
                    clear tA qh1 gA
                    generalize wr.drewN (nq + 1) = wq at *
                    have qb := Lib.hid (qs.out _ hqpt.out wq HX.out.sq)
                    have hyl := Lib.hid (around_lenS w h ⟨(a0 : Int), (a1 : Int)⟩)
                    have hyp := Lib.hid (fun c (hc : c ∈ aroundL w h ⟨(a0 : Int), (a1 : Int)⟩) => around_pt hc)
                    have hnew := Lib.hid (fun (hx : ∃ c, c ∈ aroundL w h ⟨(a0 : Int), (a1 : Int)⟩ ∧ RO w h (cvS sl) ⟨(fa : Int), (fb : Int)⟩ out c) => SbA.new HQ.out hlt2 (Hask.out hx) Hcmp.out)
                    have hkeep := Lib.hid (fun (hx : ¬ ∃ c, c ∈ aroundL w h ⟨(a0 : Int), (a1 : Int)⟩ ∧ RO w h (cvS sl) ⟨(fa : Int), (fb : Int)⟩ out c) => SbA.keep HQ.out hlt2 (fun hh => absurd (Hask2.out hh) hx))
                    rw [HQE.out] at hnew
                    clear HQ
                    generalize aroundL w h ⟨(a0 : Int), (a1 : Int)⟩ = ys at *
                    go_wp2_with fail
                    refine qb.out.mono ?_
                    rintro e w16 ⟨v16, rfl, hO16, hb16⟩
                    obtain ⟨A4', cap4, rfl, -, -, -⟩ := (hO16.sl Cell.c_len).cell
                    replace HX := Lib.hid (HX.out.ext hb16)
                    replace HBB := Lib.hid (HBB.out.ext hb16)
                    replace HO := Lib.hid (HO.out.ext hb16)
                    have HY := Lib.hid hO16
                    replace hs := Lib.hid (Nat.le_trans hs.out hb16.size)
                    clear hO16 hb16 qb c0 c1
                    generalize wq.heap.size = B16 at *
                    dsimp only
                    go_wp2_with fail
                    go_loopw [14, 18] (fun bv i wr => ∃ (m : Nat) (bw : Int), m ≤ ys.length ∧ i = .int .i64 (m : Int) ∧ bv = .int .i64 bw ∧ bw = (if (ys.take m).any (atB LB) = true then cd else best) ∧ Own wr B16 36 Cell.c 2 (.slice A4' ys.length cap4) ys ∧ Bk wr G13 162 (bcells LB) ∧ Own wr B1 2 i64c 1 u10 out ∧ B1 ≤ wr.heap.size ∧ CfI W b o w h z sl ⟨(fa : Int), (fb : Int)⟩ G7 G9 LC (G9 + 1) (.slice (some ⟨b1, o1, none⟩) xs.length cap2) xs wr) (fun _ i _ => ys.length - (intOf i).toNat)
                    case atStart => exact ⟨0, best, by omega, rfl, rfl, by simp, HY.out, HBB.out, HO.out, hs.out, HX.out⟩
                    case round =>
                      clear HY HBB HO hs HX
                      obtain ⟨m, bw, hm, rfl, rfl, hbw0, hY, hBB, hO, hs, hX⟩ := hrel
                      have hbw := Lib.hid hbw0
                      clear hbw0
                      have HY := Lib.hid hY
                      have HBB := Lib.hid hBB
                      have HO := Lib.hid hO
                      have hs := Lib.hid hs
                      have HX := Lib.hid hX
                      clear hY hBB hO hX
                      have hy4 := hyl.out
                      by_cases hml : m < ys.length
                      · obtain ⟨A5, cap5, hvv, -, -, hcell⟩ := (HY.out.sl Cell.c_len).cell
                        obtain ⟨rfl, rfl⟩ : A4' = A5 ∧ cap4 = cap5 := by injection hvv with e1 e2 e3; exact ⟨e1, e3⟩
                        obtain ⟨b2, o2, rfl, hbb2, d0, d1⟩ := hcell m hml
                        clear hcell hvv
                        have hm0 : (0 : Int) ≤ (m : Int) := by omega
                        have hm1 : (m : Int) < (ys.length : Int) := by omega
                        have hmd : decide ((m : Int) < (ys.length : Int)) = true := by rw [decide_eq_true_eq]; omega
                        have hdpt := Lib.hid (hyp.out ys[m] (List.getElem_mem hml))
                        have hst := Lib.hid (any_take (atB LB) ys m hml)
                        obtain ⟨d, hde⟩ : ∃ d, ys[m] = d := ⟨_, rfl⟩
                        rw [hde] at hdpt d0 d1 hst
                        clear hde
                        obtain ⟨p0, p1, hp0, hp1, rfl⟩ := ptT_nat hw1 hh1 hdpt.out
                        have tB := HBB.out.cell _ _ (tabB_nat LB hLB.out p0 p1 hp0 hp1)
                        have j0 : (p0 : Int) < 12 := by omega
                        have j1 : (p1 : Int) < 12 := by omega
                        cases hbB : atB LB ⟨(p0 : Int), (p1 : Int)⟩
                        · rw [hbB] at tB hst
                          rw [Bool.or_false] at hst
                          clear hbB
                          go_wp2_with fail
                          go_quiet (fail)
                          go_wp2_with fail
                          go_roundw
                          case rel => exact ⟨m + 1, bw, by omega, by go_num, rfl, by rw [hst.out]; exact hbw.out, own_atS HY.out rfl, HBB.out.at_S rfl, own_atS HO.out rfl, hs.out, HX.out.at_ rfl rfl rfl rfl⟩
                          case measure => first | (simp [intOf]; done) | (simp [intOf]; omega)
                        · rw [hbB] at tB hst
                          rw [Bool.or_true] at hst
                          clear hbB
                          go_wp2_with fail
                          go_quiet (fail)
                          go_wp2_with fail
                          go_roundw
                          case rel => exact ⟨m + 1, cd, by omega, by go_num, rfl, by rw [hst.out]; rfl, own_atS HY.out rfl, HBB.out.at_S rfl, own_atS HO.out rfl, hs.out, HX.out.at_ rfl rfl rfl rfl⟩
                          case measure => first | (simp [intOf]; done) | (simp [intOf]; omega)
                      · obtain rfl : m = ys.length := by omega
                        have hmd : decide ((ys.length : Int) < (ys.length : Int)) = false := by rw [decide_eq_false_iff_not]; omega
                        have htk := Lib.hid (show ys.take ys.length = ys from List.take_length)
                        rw [htk.out] at hbw
                        cases hany : ys.any (atB LB)
                        · have HN := Lib.hid (hkeep.out (fun ⟨c, hc, hr⟩ => by have := (hRO.out c (hyp.out c hc)).2 hr; rw [List.any_eq_false] at hany; exact hany c hc this))
                          rw [hany] at hbw
                          clear hany
                          have hbw2 := hbw.out
                          simp only [Bool.false_eq_true, if_false, if_true] at hbw2
                          subst hbw2
                          go_wp2_with fail
                          go_roundw
                          case rel => exact ⟨k + 1, _, by omega, by go_num, rfl, HN.out, hbd, HBB.out, HO.out, hs.out, HX.out⟩
                          case measure => first | (simp [intOf]; done) | (simp [intOf]; omega)
                        · have HN := Lib.hid (hnew.out (by obtain ⟨c, hc, hr⟩ := List.any_eq_true.1 hany; exact ⟨c, hc, (hRO.out c (hyp.out c hc)).1 hr⟩))
                          rw [hany] at hbw
                          clear hany
                          have hbw2 := hbw.out
                          simp only [Bool.false_eq_true, if_false, if_true] at hbw2
                          subst hbw2
                          rw [Hcd.out] at HN
                          go_wp2_with fail
                          go_roundw
                          case rel => exact ⟨k + 1, _, by omega, by go_num, rfl, HN.out, ⟨by omega, uA⟩, HBB.out, HO.out, hs.out, HX.out⟩
                          case measure => first | (simp [intOf]; done) | (simp [intOf]; omega)
                · have hd3 : decide (0 ≤ best) = false := decide_eq_false hb0
                  have Hcmp := Lib.hid (show best < 0 ∨ cvS sl xs[k] < best from .inl (by omega))
                  replace Hask := Lib.hid (Hask.out (by omega) hmem hcl2.out)
                  have Hask2 := Lib.hid (fun (hh : askS w h (cvS sl) (atT LC) (ef - (j : Int)) out ⟨(fa : Int), (fb : Int)⟩ xs[k]) => (Hno.out (by rw [← HQE.out]; exact hh)).2.2.2)
                  clear hneg hmem hb0 Hno Hkp
                  have hS : CmF' b1 (o1 + k * 2) G9 (a1 * 12 + a0) ⟨(a0 : Int), (a1 : Int)⟩ cc wr := ⟨c0, c1, tA⟩
                  go_wp2_with fail
                  go_quiet (fail)
                  go_wp2_with fail
                  refine wp_region_held_drew (S := (CmF' b1 (o1 + k * 2) G9 (a1 * 12 + a0) ⟨(a0 : Int), (a1 : Int)⟩ cc)) (by kernel_rfl) ?r15_hS0 (fun hHeld => ?r15_rest)
                  case r15_hS0 => (try dsimp only); first | assumption | exact hS
                  refine wpAnyH_take (i := 0) (v := ?r15_vv0) (by (simp only [List.getElem?_toArray, List.getElem?_cons_succ, List.getElem?_cons_zero]; rfl)) (by kernel_rfl) (by kernel_rfl) (by kernel_rfl) (by exact fun _ _ _ h => h) (Or.inl ⟨by rfl, ?r15_hy0⟩) (by assumption) ?r15_rest0
                  case r15_hy0 => intro w hSw; (try dsimp only at hSw); (go_simp <;> (with_reducible rfl))
                  try simp only [Act.put, List.setIfInBounds_toArray, List.set_cons_zero, List.set_cons_succ]
                  refine wpAnyH_take (i := 1) (v := ?r15_vv1) (by (simp only [List.getElem?_toArray, List.getElem?_cons_succ, List.getElem?_cons_zero]; rfl)) (by kernel_rfl) (by kernel_rfl) (by kernel_rfl) (by exact fun _ _ _ h => h) (Or.inl ⟨by rfl, ?r15_hy1⟩) (by assumption) ?r15_rest1
                  case r15_hy1 => intro w hSw; (try dsimp only at hSw); (go_simp <;> (with_reducible rfl))
                  try simp only [Act.put, List.setIfInBounds_toArray, List.set_cons_zero, List.set_cons_succ]
                  refine wpAnyH_take (i := 2) (v := ?r15_vv2) (by (simp only [List.getElem?_toArray, List.getElem?_cons_succ, List.getElem?_cons_zero]; rfl)) (by kernel_rfl) (by kernel_rfl) (by kernel_rfl) (by exact fun _ _ _ h => h) (Or.inl ⟨by rfl, ?r15_hy2⟩) (by assumption) ?r15_rest2
                  case r15_hy2 => intro w hSw; (try dsimp only at hSw); (go_simp <;> (with_reducible rfl))
                  try simp only [Act.put, List.setIfInBounds_toArray, List.set_cons_zero, List.set_cons_succ]
                  refine wpAnyH_take (i := 3) (v := ?r15_vv3) (by (simp only [List.getElem?_toArray, List.getElem?_cons_succ, List.getElem?_cons_zero]; rfl)) (by kernel_rfl) (by kernel_rfl) (by kernel_rfl) (by exact fun _ _ _ h => h) (Or.inl ⟨by rfl, ?r15_hy3⟩) (by assumption) ?r15_rest3
                  case r15_hy3 => intro w hSw; (try dsimp only at hSw); (go_simp <;> (with_reducible rfl))
                  try simp only [Act.put, List.setIfInBounds_toArray, List.set_cons_zero, List.set_cons_succ]
                  refine wpAnyH_take (i := 4) (v := ?r15_vv4) (by (simp only [List.getElem?_toArray, List.getElem?_cons_succ, List.getElem?_cons_zero]; rfl)) (by kernel_rfl) (by kernel_rfl) (by kernel_rfl) (by exact fun _ _ _ h => h) (Or.inl ⟨by rfl, ?r15_hy4⟩) (by assumption) ?r15_rest4
                  case r15_hy4 => intro w hSw; (try dsimp only at hSw); (go_simp <;> (with_reducible rfl))
                  try simp only [Act.put, List.setIfInBounds_toArray, List.set_cons_zero, List.set_cons_succ]
                  refine wpAnyH_ready (rs := [5]) (by kernel_rfl) (by simp) ?_
                  refine AllReadyH.cons (by (simp only [List.getElem?_toArray, List.getElem?_cons_succ, List.getElem?_cons_zero]; rfl)) (fun K hK => ?_) AllReadyH.nil
                  go_simp
                  (go_at_call 82; (with_reducible refine (qh1.out _ (drewNS_heap _ _)).mono ?_); rintro e w11 ⟨rfl, rfl⟩)
                  try go_wp2_with fail
                  refine hK.out _ _ ?r15_hS5 (fun hHeld => ?r15_r5)
                  case r15_hS5 => (try dsimp only); first | assumption | exact hS
                  clear hK K
                  try simp only [Act.put, List.setIfInBounds_toArray, List.set_cons_zero, List.set_cons_succ]
                  refine wpAnyH_take (i := 6) (v := ?r15_vv6) (by (simp only [List.getElem?_toArray, List.getElem?_cons_succ, List.getElem?_cons_zero]; rfl)) (by kernel_rfl) (by kernel_rfl) (by kernel_rfl) (by exact fun _ _ _ h => h) (Or.inl ⟨by rfl, ?r15_hy6⟩) (by assumption) ?r15_rest6
                  case r15_hy6 => intro w hSw; (try dsimp only at hSw); (go_simp <;> (with_reducible rfl))
                  try simp only [Act.put, List.setIfInBounds_toArray, List.set_cons_zero, List.set_cons_succ]
                  refine wpAnyH_take (i := 7) (v := ?r15_vv7) (by (simp only [List.getElem?_toArray, List.getElem?_cons_succ, List.getElem?_cons_zero]; rfl)) (by kernel_rfl) (by kernel_rfl) (by kernel_rfl) (by exact fun _ _ _ h => h) (Or.inl ⟨by rfl, ?r15_hy7⟩) (by assumption) ?r15_rest7
                  case r15_hy7 => intro w hSw; (try dsimp only at hSw); (go_simp <;> (with_reducible rfl))
                  try simp only [Act.put, List.setIfInBounds_toArray, List.set_cons_zero, List.set_cons_succ]
                  refine wpAnyH_take (i := 8) (v := ?r15_vv8) (by (simp only [List.getElem?_toArray, List.getElem?_cons_succ, List.getElem?_cons_zero]; rfl)) (by kernel_rfl) (by kernel_rfl) (by kernel_rfl) (by exact fun _ _ _ h => h) (Or.inl ⟨by rfl, ?r15_hy8⟩) (by assumption) ?r15_rest8
                  case r15_hy8 => intro w hSw; (try dsimp only at hSw); (go_simp <;> (with_reducible rfl))
                  try simp only [Act.put, List.setIfInBounds_toArray, List.set_cons_zero, List.set_cons_succ]
                  refine wpAnyH_take (i := 9) (v := ?r15_vv9) (by (simp only [List.getElem?_toArray, List.getElem?_cons_succ, List.getElem?_cons_zero]; rfl)) (by kernel_rfl) (by kernel_rfl) (by kernel_rfl) (by exact fun _ _ _ h => h) (Or.inl ⟨by rfl, ?r15_hy9⟩) (by assumption) ?r15_rest9
                  case r15_hy9 => intro w hSw; (try dsimp only at hSw); (go_simp <;> (with_reducible rfl))
                  try simp only [Act.put, List.setIfInBounds_toArray, List.set_cons_zero, List.set_cons_succ]
                  refine wpAnyH_take (i := 10) (v := ?r15_vv10) (by (simp only [List.getElem?_toArray, List.getElem?_cons_succ, List.getElem?_cons_zero]; rfl)) (by kernel_rfl) (by kernel_rfl) (by kernel_rfl) (by exact fun _ _ _ h => h) (Or.inl ⟨by rfl, ?r15_hy10⟩) (by assumption) ?r15_rest10
                  case r15_hy10 => intro w hSw; (try dsimp only at hSw); (go_simp <;> (with_reducible rfl))
                  try simp only [Act.put, List.setIfInBounds_toArray, List.set_cons_zero, List.set_cons_succ]
                  refine wpAnyH_take (i := 11) (v := ?r15_vv11) (by (simp only [List.getElem?_toArray, List.getElem?_cons_succ, List.getElem?_cons_zero]; rfl)) (by kernel_rfl) (by kernel_rfl) (by kernel_rfl) (by exact fun _ _ _ h => h) (Or.inl ⟨by rfl, ?r15_hy11⟩) (by assumption) ?r15_rest11
                  case r15_hy11 => intro w hSw; (try dsimp only at hSw); (go_simp <;> (with_reducible rfl))
                  try simp only [Act.put, List.setIfInBounds_toArray, List.set_cons_zero, List.set_cons_succ]
                  refine wpAnyH_take (i := 12) (v := ?r15_vv12) (by (simp only [List.getElem?_toArray, List.getElem?_cons_succ, List.getElem?_cons_zero]; rfl)) (by kernel_rfl) (by kernel_rfl) (by kernel_rfl) (by exact fun _ _ _ h => h) (Or.inl ⟨by rfl, ?r15_hy12⟩) (by assumption) ?r15_rest12
                  case r15_hy12 => intro w hSw; (try dsimp only at hSw); (go_simp <;> (with_reducible rfl))
                  try simp only [Act.put, List.setIfInBounds_toArray, List.set_cons_zero, List.set_cons_succ]
                  refine wpAnyH_take (i := 13) (v := ?r15_vv13) (by (simp only [List.getElem?_toArray, List.getElem?_cons_succ, List.getElem?_cons_zero]; rfl)) (by kernel_rfl) (by kernel_rfl) (by kernel_rfl) (by exact fun _ _ _ h => h) (Or.inl ⟨by rfl, ?r15_hy13⟩) (by assumption) ?r15_rest13
                  case r15_hy13 => intro w hSw; (try dsimp only at hSw); (go_simp <;> (with_reducible rfl))
                  try simp only [Act.put, List.setIfInBounds_toArray, List.set_cons_zero, List.set_cons_succ]
                  refine wpAnyH_take (i := 14) (v := ?r15_vv14) (by (simp only [List.getElem?_toArray, List.getElem?_cons_succ, List.getElem?_cons_zero]; rfl)) (by kernel_rfl) (by kernel_rfl) (by kernel_rfl) (by exact fun _ _ _ h => h) (Or.inl ⟨by rfl, ?r15_hy14⟩) (by assumption) ?r15_rest14
                  case r15_hy14 => intro w hSw; (try dsimp only at hSw); (go_simp <;> (with_reducible rfl))
                  try simp only [Act.put, List.setIfInBounds_toArray, List.set_cons_zero, List.set_cons_succ]
                  refine wpAnyH_take (i := 15) (v := ?r15_vv15) (by (simp only [List.getElem?_toArray, List.getElem?_cons_succ, List.getElem?_cons_zero]; rfl)) (by kernel_rfl) (by kernel_rfl) (by kernel_rfl) (by exact fun _ _ _ h => h) (Or.inl ⟨by rfl, ?r15_hy15⟩) (by assumption) ?r15_rest15
                  case r15_hy15 => intro w hSw; (try dsimp only at hSw); (go_simp <;> (with_reducible rfl))
                  try simp only [Act.put, List.setIfInBounds_toArray, List.set_cons_zero, List.set_cons_succ]
                  refine wpAnyH_take (i := 16) (v := ?r15_vv16) (by (simp only [List.getElem?_toArray, List.getElem?_cons_succ, List.getElem?_cons_zero]; rfl)) (by kernel_rfl) (by kernel_rfl) (by kernel_rfl) (by exact fun _ _ _ h => h) (Or.inl ⟨by rfl, ?r15_hy16⟩) (by assumption) ?r15_rest16
                  case r15_hy16 => intro w hSw; (try dsimp only at hSw); (go_simp <;> (with_reducible rfl))
                  try simp only [Act.put, List.setIfInBounds_toArray, List.set_cons_zero, List.set_cons_succ]
                  refine wpAnyH_take (i := 17) (v := ?r15_vv17) (by (simp only [List.getElem?_toArray, List.getElem?_cons_succ, List.getElem?_cons_zero]; rfl)) (by kernel_rfl) (by kernel_rfl) (by kernel_rfl) (by exact fun _ _ _ h => h) (Or.inl ⟨by rfl, ?r15_hy17⟩) (by assumption) ?r15_rest17
                  case r15_hy17 => intro w hSw; (try dsimp only at hSw); (go_simp <;> (with_reducible rfl))
                  try simp only [Act.put, List.setIfInBounds_toArray, List.set_cons_zero, List.set_cons_succ]
                  refine wpAnyH_take (i := 18) (v := ?r15_vv18) (by (simp only [List.getElem?_toArray, List.getElem?_cons_succ, List.getElem?_cons_zero]; rfl)) (by kernel_rfl) (by kernel_rfl) (by kernel_rfl) (by exact fun _ _ _ h => h) (Or.inl ⟨by rfl, ?r15_hy18⟩) (by assumption) ?r15_rest18
                  case r15_hy18 => intro w hSw; (try dsimp only at hSw); (go_simp <;> (with_reducible rfl))
                  try simp only [Act.put, List.setIfInBounds_toArray, List.set_cons_zero, List.set_cons_succ]
                  refine wpAnyH_take (i := 19) (v := ?r15_vv19) (by (simp only [List.getElem?_toArray, List.getElem?_cons_succ, List.getElem?_cons_zero]; rfl)) (by kernel_rfl) (by kernel_rfl) (by kernel_rfl) (by exact fun _ _ _ h => h) (Or.inl ⟨by rfl, ?r15_hy19⟩) (by assumption) ?r15_rest19
                  case r15_hy19 => intro w hSw; (try dsimp only at hSw); (go_simp <;> (with_reducible rfl))
                  try simp only [Act.put, List.setIfInBounds_toArray, List.set_cons_zero, List.set_cons_succ]
                  refine wpAnyH_take (i := 20) (v := ?r15_vv20) (by (simp only [List.getElem?_toArray, List.getElem?_cons_succ, List.getElem?_cons_zero]; rfl)) (by kernel_rfl) (by kernel_rfl) (by kernel_rfl) (by exact fun _ _ _ h => h) (Or.inl ⟨by rfl, ?r15_hy20⟩) (by assumption) ?r15_rest20
                  case r15_hy20 => intro w hSw; (try dsimp only at hSw); (go_simp <;> (with_reducible rfl))
                  try simp only [Act.put, List.setIfInBounds_toArray, List.set_cons_zero, List.set_cons_succ]
                  refine wpAnyH_take (i := 21) (v := ?r15_vv21) (by (simp only [List.getElem?_toArray, List.getElem?_cons_succ, List.getElem?_cons_zero]; rfl)) (by kernel_rfl) (by kernel_rfl) (by kernel_rfl) (by exact fun _ _ _ h => h) (Or.inl ⟨by rfl, ?r15_hy21⟩) (by assumption) ?r15_rest21
                  case r15_hy21 => intro w hSw; (try dsimp only at hSw); (go_simp <;> (with_reducible rfl))
                  try simp only [Act.put, List.setIfInBounds_toArray, List.set_cons_zero, List.set_cons_succ]
                  refine wpAnyH_take (i := 22) (v := ?r15_vv22) (by (simp only [List.getElem?_toArray, List.getElem?_cons_succ, List.getElem?_cons_zero]; rfl)) (by kernel_rfl) (by kernel_rfl) (by kernel_rfl) (by exact fun _ _ _ h => h) (Or.inl ⟨by rfl, ?r15_hy22⟩) (by assumption) ?r15_rest22
                  case r15_hy22 => intro w hSw; (try dsimp only at hSw); (go_simp <;> (with_reducible rfl))
                  try simp only [Act.put, List.setIfInBounds_toArray, List.set_cons_zero, List.set_cons_succ]
                  refine wpAnyH_take (i := 23) (v := ?r15_vv23) (by (simp only [List.getElem?_toArray, List.getElem?_cons_succ, List.getElem?_cons_zero]; rfl)) (by kernel_rfl) (by kernel_rfl) (by kernel_rfl) (by exact fun _ _ _ h => h) (Or.inl ⟨by rfl, ?r15_hy23⟩) (by assumption) ?r15_rest23
                  case r15_hy23 => intro w hSw; (try dsimp only at hSw); (go_simp <;> (with_reducible rfl))
                  try simp only [Act.put, List.setIfInBounds_toArray, List.set_cons_zero, List.set_cons_succ]
                  refine wpAnyH_take (i := 24) (v := ?r15_vv24) (by (simp only [List.getElem?_toArray, List.getElem?_cons_succ, List.getElem?_cons_zero]; rfl)) (by kernel_rfl) (by kernel_rfl) (by kernel_rfl) (by exact fun _ _ _ h => h) (Or.inl ⟨by rfl, ?r15_hy24⟩) (by assumption) ?r15_rest24
                  case r15_hy24 => intro w hSw; (try dsimp only at hSw); (go_simp <;> (with_reducible rfl))
                  try simp only [Act.put, List.setIfInBounds_toArray, List.set_cons_zero, List.set_cons_succ]
                  refine wpAnyH_take (i := 25) (v := ?r15_vv25) (by (simp only [List.getElem?_toArray, List.getElem?_cons_succ, List.getElem?_cons_zero]; rfl)) (by kernel_rfl) (by kernel_rfl) (by kernel_rfl) (by exact fun _ _ _ h => h) (Or.inl ⟨by rfl, ?r15_hy25⟩) (by assumption) ?r15_rest25
                  case r15_hy25 => intro w hSw; (try dsimp only at hSw); (go_simp <;> (with_reducible rfl))
                  try simp only [Act.put, List.setIfInBounds_toArray, List.set_cons_zero, List.set_cons_succ]
                  refine wpAnyH_take (i := 26) (v := ?r15_vv26) (by (simp only [List.getElem?_toArray, List.getElem?_cons_succ, List.getElem?_cons_zero]; rfl)) (by kernel_rfl) (by kernel_rfl) (by kernel_rfl) (by exact fun _ _ _ h => h) (Or.inl ⟨by rfl, ?r15_hy26⟩) (by assumption) ?r15_rest26
                  case r15_hy26 => intro w hSw; (try dsimp only at hSw); (go_simp <;> (with_reducible rfl))
                  try simp only [Act.put, List.setIfInBounds_toArray, List.set_cons_zero, List.set_cons_succ]
                  refine wpAnyH_take (i := 27) (v := ?r15_vv27) (by (simp only [List.getElem?_toArray, List.getElem?_cons_succ, List.getElem?_cons_zero]; rfl)) (by kernel_rfl) (by kernel_rfl) (by kernel_rfl) (by exact fun _ _ _ h => h) (Or.inl ⟨by rfl, ?r15_hy27⟩) (by assumption) ?r15_rest27
                  case r15_hy27 => intro w hSw; (try dsimp only at hSw); (go_simp <;> (with_reducible rfl))
                  try simp only [Act.put, List.setIfInBounds_toArray, List.set_cons_zero, List.set_cons_succ]
                  refine wpAnyH_take (i := 28) (v := undef) (by (simp only [List.getElem?_toArray, List.getElem?_cons_succ, List.getElem?_cons_zero]; rfl)) (by kernel_rfl) (by kernel_rfl) (by kernel_rfl) (by exact fun _ _ _ h => h) (Or.inr ⟨by rfl, rfl⟩) (by assumption) ?_
                  try simp only [Act.put, List.setIfInBounds_toArray, List.set_cons_zero, List.set_cons_succ]
                  refine wpAnyH_take (i := 29) (v := undef) (by (simp only [List.getElem?_toArray, List.getElem?_cons_succ, List.getElem?_cons_zero]; rfl)) (by kernel_rfl) (by kernel_rfl) (by kernel_rfl) (by exact fun _ _ _ h => h) (Or.inr ⟨by rfl, rfl⟩) (by assumption) ?_
                  try simp only [Act.put, List.setIfInBounds_toArray, List.set_cons_zero, List.set_cons_succ]
                  refine wpAnyH_take (i := 30) (v := undef) (by (simp only [List.getElem?_toArray, List.getElem?_cons_succ, List.getElem?_cons_zero]; rfl)) (by kernel_rfl) (by kernel_rfl) (by kernel_rfl) (by exact fun _ _ _ h => h) (Or.inr ⟨by rfl, rfl⟩) (by assumption) ?_
                  try simp only [Act.put, List.setIfInBounds_toArray, List.set_cons_zero, List.set_cons_succ]
                  refine wpAnyH_take (i := 31) (v := ?r15_vv31) (by (simp only [List.getElem?_toArray, List.getElem?_cons_succ, List.getElem?_cons_zero]; rfl)) (by kernel_rfl) (by kernel_rfl) (by kernel_rfl) (by exact fun _ _ _ h => h) (Or.inl ⟨by rfl, ?r15_hy31⟩) (by assumption) ?r15_rest31
                  case r15_hy31 => intro w hSw; (try dsimp only at hSw); (go_simp <;> (with_reducible rfl))
                  try simp only [Act.put, List.setIfInBounds_toArray, List.set_cons_zero, List.set_cons_succ]
                  refine wpAnyH_take (i := 32) (v := ?r15_vv32) (by (simp only [List.getElem?_toArray, List.getElem?_cons_succ, List.getElem?_cons_zero]; rfl)) (by kernel_rfl) (by kernel_rfl) (by kernel_rfl) (by exact fun _ _ _ h => h) (Or.inl ⟨by rfl, ?r15_hy32⟩) (by assumption) ?r15_rest32
                  case r15_hy32 => intro w hSw; (try dsimp only at hSw); (go_simp <;> (with_reducible rfl))
                  try simp only [Act.put, List.setIfInBounds_toArray, List.set_cons_zero, List.set_cons_succ]
                  refine wpAnyH_done (by kernel_rfl) ?_ _
                  clear hS
                  repeat clear hHeld
                  replace HX := Lib.hid (HX.out.at_ (y := wr.drewN (nq + 1)) rfl rfl rfl rfl)
                  replace HBB := Lib.hid (HBB.out.at_S (y := wr.drewN (nq + 1)) rfl)
                  replace HO := Lib.hid (own_atS (w' := wr.drewN (nq + 1)) HO.out rfl)
                  replace hs : Hid (B1 ≤ (wr.drewN (nq + 1)).heap.size) := Lib.hid hs.out
                  replace c0 : (wr.drewN (nq + 1)).cell? ⟨b1, o1 + k * 2, none⟩ = some (.int .i8 (a0 : Int)) := c0
                  replace c1 : (wr.drewN (nq + 1)).cell? ⟨b1, o1 + k * 2 + 1, none⟩ = some (.int .i8 (a1 : Int)) := c1
                  clear tA qh1 gA
                  generalize wr.drewN (nq + 1) = wq at *
                  have qb := Lib.hid (qs.out _ hqpt.out wq HX.out.sq)
                  have hyl := Lib.hid (around_lenS w h ⟨(a0 : Int), (a1 : Int)⟩)
                  have hyp := Lib.hid (fun c (hc : c ∈ aroundL w h ⟨(a0 : Int), (a1 : Int)⟩) => around_pt hc)
                  have hnew := Lib.hid (fun (hx : ∃ c, c ∈ aroundL w h ⟨(a0 : Int), (a1 : Int)⟩ ∧ RO w h (cvS sl) ⟨(fa : Int), (fb : Int)⟩ out c) => SbA.new HQ.out hlt2 (Hask.out hx) Hcmp.out)
                  have hkeep := Lib.hid (fun (hx : ¬ ∃ c, c ∈ aroundL w h ⟨(a0 : Int), (a1 : Int)⟩ ∧ RO w h (cvS sl) ⟨(fa : Int), (fb : Int)⟩ out c) => SbA.keep HQ.out hlt2 (fun hh => absurd (Hask2.out hh) hx))
                  rw [HQE.out] at hnew
                  clear HQ
                  generalize aroundL w h ⟨(a0 : Int), (a1 : Int)⟩ = ys at *
                  go_wp2_with fail
                  refine qb.out.mono ?_
                  rintro e w16 ⟨v16, rfl, hO16, hb16⟩
                  obtain ⟨A4', cap4, rfl, -, -, -⟩ := (hO16.sl Cell.c_len).cell
                  replace HX := Lib.hid (HX.out.ext hb16)
                  replace HBB := Lib.hid (HBB.out.ext hb16)
                  replace HO := Lib.hid (HO.out.ext hb16)
                  have HY := Lib.hid hO16
                  replace hs := Lib.hid (Nat.le_trans hs.out hb16.size)
                  clear hO16 hb16 qb c0 c1
                  generalize wq.heap.size = B16 at *
                  dsimp only
                  go_wp2_with fail
                  go_loopw [14, 18] (fun bv i wr => ∃ (m : Nat) (bw : Int), m ≤ ys.length ∧ i = .int .i64 (m : Int) ∧ bv = .int .i64 bw ∧ bw = (if (ys.take m).any (atB LB) = true then cd else best) ∧ Own wr B16 36 Cell.c 2 (.slice A4' ys.length cap4) ys ∧ Bk wr G13 162 (bcells LB) ∧ Own wr B1 2 i64c 1 u10 out ∧ B1 ≤ wr.heap.size ∧ CfI W b o w h z sl ⟨(fa : Int), (fb : Int)⟩ G7 G9 LC (G9 + 1) (.slice (some ⟨b1, o1, none⟩) xs.length cap2) xs wr) (fun _ i _ => ys.length - (intOf i).toNat)
                  case atStart => exact ⟨0, best, by omega, rfl, rfl, by simp, HY.out, HBB.out, HO.out, hs.out, HX.out⟩
                  case round =>
                    clear HY HBB HO hs HX
                    obtain ⟨m, bw, hm, rfl, rfl, hbw0, hY, hBB, hO, hs, hX⟩ := hrel
                    have hbw := Lib.hid hbw0
                    clear hbw0
                    have HY := Lib.hid hY
                    have HBB := Lib.hid hBB
                    have HO := Lib.hid hO
                    have hs := Lib.hid hs
                    have HX := Lib.hid hX
                    clear hY hBB hO hX
                    have hy4 := hyl.out
                    by_cases hml : m < ys.length
                    · obtain ⟨A5, cap5, hvv, -, -, hcell⟩ := (HY.out.sl Cell.c_len).cell
                      obtain ⟨rfl, rfl⟩ : A4' = A5 ∧ cap4 = cap5 := by injection hvv with e1 e2 e3; exact ⟨e1, e3⟩
                      obtain ⟨b2, o2, rfl, hbb2, d0, d1⟩ := hcell m hml
                      clear hcell hvv
                      have hm0 : (0 : Int) ≤ (m : Int) := by omega
                      have hm1 : (m : Int) < (ys.length : Int) := by omega
                      have hmd : decide ((m : Int) < (ys.length : Int)) = true := by rw [decide_eq_true_eq]; omega
                      have hdpt := Lib.hid (hyp.out ys[m] (List.getElem_mem hml))
                      have hst := Lib.hid (any_take (atB LB) ys m hml)
                      obtain ⟨d, hde⟩ : ∃ d, ys[m] = d := ⟨_, rfl⟩
                      rw [hde] at hdpt d0 d1 hst
                      clear hde
                      obtain ⟨p0, p1, hp0, hp1, rfl⟩ := ptT_nat hw1 hh1 hdpt.out
                      have tB := HBB.out.cell _ _ (tabB_nat LB hLB.out p0 p1 hp0 hp1)
                      have j0 : (p0 : Int) < 12 := by omega
                      have j1 : (p1 : Int) < 12 := by omega
                      cases hbB : atB LB ⟨(p0 : Int), (p1 : Int)⟩
                      · rw [hbB] at tB hst
                        rw [Bool.or_false] at hst
                        clear hbB
                        go_wp2_with fail
                        go_quiet (fail)
                        go_wp2_with fail
                        go_roundw
                        case rel => exact ⟨m + 1, bw, by omega, by go_num, rfl, by rw [hst.out]; exact hbw.out, own_atS HY.out rfl, HBB.out.at_S rfl, own_atS HO.out rfl, hs.out, HX.out.at_ rfl rfl rfl rfl⟩
                        case measure => first | (simp [intOf]; done) | (simp [intOf]; omega)
                      · rw [hbB] at tB hst
                        rw [Bool.or_true] at hst
                        clear hbB
                        go_wp2_with fail
                        go_quiet (fail)
                        go_wp2_with fail
                        go_roundw
                        case rel => exact ⟨m + 1, cd, by omega, by go_num, rfl, by rw [hst.out]; rfl, own_atS HY.out rfl, HBB.out.at_S rfl, own_atS HO.out rfl, hs.out, HX.out.at_ rfl rfl rfl rfl⟩
                        case measure => first | (simp [intOf]; done) | (simp [intOf]; omega)
                    · obtain rfl : m = ys.length := by omega
                      have hmd : decide ((ys.length : Int) < (ys.length : Int)) = false := by rw [decide_eq_false_iff_not]; omega
                      have htk := Lib.hid (show ys.take ys.length = ys from List.take_length)
                      rw [htk.out] at hbw
                      cases hany : ys.any (atB LB)
                      · have HN := Lib.hid (hkeep.out (fun ⟨c, hc, hr⟩ => by have := (hRO.out c (hyp.out c hc)).2 hr; rw [List.any_eq_false] at hany; exact hany c hc this))
                        rw [hany] at hbw
                        clear hany
                        have hbw2 := hbw.out
                        simp only [Bool.false_eq_true, if_false, if_true] at hbw2
                        subst hbw2
                        go_wp2_with fail
                        go_roundw
                        case rel => exact ⟨k + 1, _, by omega, by go_num, rfl, HN.out, hbd, HBB.out, HO.out, hs.out, HX.out⟩
                        case measure => first | (simp [intOf]; done) | (simp [intOf]; omega)
                      · have HN := Lib.hid (hnew.out (by obtain ⟨c, hc, hr⟩ := List.any_eq_true.1 hany; exact ⟨c, hc, (hRO.out c (hyp.out c hc)).1 hr⟩))
                        rw [hany] at hbw
                        clear hany
                        have hbw2 := hbw.out
                        simp only [Bool.false_eq_true, if_false, if_true] at hbw2
                        subst hbw2
                        rw [Hcd.out] at HN
                        go_wp2_with fail
                        go_roundw
                        case rel => exact ⟨k + 1, _, by omega, by go_num, rfl, HN.out, ⟨by omega, uA⟩, HBB.out, HO.out, hs.out, HX.out⟩
                        case measure => first | (simp [intOf]; done) | (simp [intOf]; omega)
              · have hcb : (cc != ef - (j : Int)) = true := by rw [bne_iff_ne]; exact hcl
                have HN := Lib.hid (Hkp.out (fun hh => absurd (Hno.out hh).2.2.1 hcl))
                clear hneg hmem hcl
                have hS : CmF' b1 (o1 + k * 2) G9 (a1 * 12 + a0) ⟨(a0 : Int), (a1 : Int)⟩ cc wr := ⟨c0, c1, tA⟩
                go_wp2_with fail
                go_quiet (fail)
                go_wp2_with fail
                refine wp_region_held_drew (S := (CmF' b1 (o1 + k * 2) G9 (a1 * 12 + a0) ⟨(a0 : Int), (a1 : Int)⟩ cc)) (by kernel_rfl) ?r16_hS0 (fun hHeld => ?r16_rest)
                case r16_hS0 => (try dsimp only); first | assumption | exact hS
                refine wpAnyH_take (i := 0) (v := ?r16_vv0) (by (simp only [List.getElem?_toArray, List.getElem?_cons_succ, List.getElem?_cons_zero]; rfl)) (by kernel_rfl) (by kernel_rfl) (by kernel_rfl) (by exact fun _ _ _ h => h) (Or.inl ⟨by rfl, ?r16_hy0⟩) (by assumption) ?r16_rest0
                case r16_hy0 => intro w hSw; (try dsimp only at hSw); (go_simp <;> (with_reducible rfl))
                try simp only [Act.put, List.setIfInBounds_toArray, List.set_cons_zero, List.set_cons_succ]
                refine wpAnyH_take (i := 1) (v := ?r16_vv1) (by (simp only [List.getElem?_toArray, List.getElem?_cons_succ, List.getElem?_cons_zero]; rfl)) (by kernel_rfl) (by kernel_rfl) (by kernel_rfl) (by exact fun _ _ _ h => h) (Or.inl ⟨by rfl, ?r16_hy1⟩) (by assumption) ?r16_rest1
                case r16_hy1 => intro w hSw; (try dsimp only at hSw); (go_simp <;> (with_reducible rfl))
                try simp only [Act.put, List.setIfInBounds_toArray, List.set_cons_zero, List.set_cons_succ]
                refine wpAnyH_take (i := 2) (v := ?r16_vv2) (by (simp only [List.getElem?_toArray, List.getElem?_cons_succ, List.getElem?_cons_zero]; rfl)) (by kernel_rfl) (by kernel_rfl) (by kernel_rfl) (by exact fun _ _ _ h => h) (Or.inl ⟨by rfl, ?r16_hy2⟩) (by assumption) ?r16_rest2
                case r16_hy2 => intro w hSw; (try dsimp only at hSw); (go_simp <;> (with_reducible rfl))
                try simp only [Act.put, List.setIfInBounds_toArray, List.set_cons_zero, List.set_cons_succ]
                refine wpAnyH_take (i := 3) (v := ?r16_vv3) (by (simp only [List.getElem?_toArray, List.getElem?_cons_succ, List.getElem?_cons_zero]; rfl)) (by kernel_rfl) (by kernel_rfl) (by kernel_rfl) (by exact fun _ _ _ h => h) (Or.inl ⟨by rfl, ?r16_hy3⟩) (by assumption) ?r16_rest3
                case r16_hy3 => intro w hSw; (try dsimp only at hSw); (go_simp <;> (with_reducible rfl))
                try simp only [Act.put, List.setIfInBounds_toArray, List.set_cons_zero, List.set_cons_succ]
                refine wpAnyH_take (i := 4) (v := ?r16_vv4) (by (simp only [List.getElem?_toArray, List.getElem?_cons_succ, List.getElem?_cons_zero]; rfl)) (by kernel_rfl) (by kernel_rfl) (by kernel_rfl) (by exact fun _ _ _ h => h) (Or.inl ⟨by rfl, ?r16_hy4⟩) (by assumption) ?r16_rest4
                case r16_hy4 => intro w hSw; (try dsimp only at hSw); (go_simp <;> (with_reducible rfl))
                try simp only [Act.put, List.setIfInBounds_toArray, List.set_cons_zero, List.set_cons_succ]
                refine wpAnyH_ready (rs := [5]) (by kernel_rfl) (by simp) ?_
                refine AllReadyH.cons (by (simp only [List.getElem?_toArray, List.getElem?_cons_succ, List.getElem?_cons_zero]; rfl)) (fun K hK => ?_) AllReadyH.nil
                go_simp
                (go_at_call 82; (with_reducible refine (qh1.out _ (drewNS_heap _ _)).mono ?_); rintro e w11 ⟨rfl, rfl⟩)
                try go_wp2_with fail
                refine hK.out _ _ ?r16_hS5 (fun hHeld => ?r16_r5)
                case r16_hS5 => (try dsimp only); first | assumption | exact hS
                clear hK K
                try simp only [Act.put, List.setIfInBounds_toArray, List.set_cons_zero, List.set_cons_succ]
                refine wpAnyH_take (i := 6) (v := ?r16_vv6) (by (simp only [List.getElem?_toArray, List.getElem?_cons_succ, List.getElem?_cons_zero]; rfl)) (by kernel_rfl) (by kernel_rfl) (by kernel_rfl) (by exact fun _ _ _ h => h) (Or.inl ⟨by rfl, ?r16_hy6⟩) (by assumption) ?r16_rest6
                case r16_hy6 => intro w hSw; (try dsimp only at hSw); (go_simp <;> (with_reducible rfl))
                try simp only [Act.put, List.setIfInBounds_toArray, List.set_cons_zero, List.set_cons_succ]
                refine wpAnyH_take (i := 7) (v := ?r16_vv7) (by (simp only [List.getElem?_toArray, List.getElem?_cons_succ, List.getElem?_cons_zero]; rfl)) (by kernel_rfl) (by kernel_rfl) (by kernel_rfl) (by exact fun _ _ _ h => h) (Or.inl ⟨by rfl, ?r16_hy7⟩) (by assumption) ?r16_rest7
                case r16_hy7 => intro w hSw; (try dsimp only at hSw); (go_simp <;> (with_reducible rfl))
                try simp only [Act.put, List.setIfInBounds_toArray, List.set_cons_zero, List.set_cons_succ]
                refine wpAnyH_take (i := 8) (v := ?r16_vv8) (by (simp only [List.getElem?_toArray, List.getElem?_cons_succ, List.getElem?_cons_zero]; rfl)) (by kernel_rfl) (by kernel_rfl) (by kernel_rfl) (by exact fun _ _ _ h => h) (Or.inl ⟨by rfl, ?r16_hy8⟩) (by assumption) ?r16_rest8
                case r16_hy8 => intro w hSw; (try dsimp only at hSw); (go_simp <;> (with_reducible rfl))
                try simp only [Act.put, List.setIfInBounds_toArray, List.set_cons_zero, List.set_cons_succ]
                refine wpAnyH_take (i := 9) (v := ?r16_vv9) (by (simp only [List.getElem?_toArray, List.getElem?_cons_succ, List.getElem?_cons_zero]; rfl)) (by kernel_rfl) (by kernel_rfl) (by kernel_rfl) (by exact fun _ _ _ h => h) (Or.inl ⟨by rfl, ?r16_hy9⟩) (by assumption) ?r16_rest9
                case r16_hy9 => intro w hSw; (try dsimp only at hSw); (go_simp <;> (with_reducible rfl))
                try simp only [Act.put, List.setIfInBounds_toArray, List.set_cons_zero, List.set_cons_succ]
                refine wpAnyH_take (i := 10) (v := ?r16_vv10) (by (simp only [List.getElem?_toArray, List.getElem?_cons_succ, List.getElem?_cons_zero]; rfl)) (by kernel_rfl) (by kernel_rfl) (by kernel_rfl) (by exact fun _ _ _ h => h) (Or.inl ⟨by rfl, ?r16_hy10⟩) (by assumption) ?r16_rest10
                case r16_hy10 => intro w hSw; (try dsimp only at hSw); (go_simp <;> (with_reducible rfl))
                try simp only [Act.put, List.setIfInBounds_toArray, List.set_cons_zero, List.set_cons_succ]
                refine wpAnyH_take (i := 11) (v := ?r16_vv11) (by (simp only [List.getElem?_toArray, List.getElem?_cons_succ, List.getElem?_cons_zero]; rfl)) (by kernel_rfl) (by kernel_rfl) (by kernel_rfl) (by exact fun _ _ _ h => h) (Or.inl ⟨by rfl, ?r16_hy11⟩) (by assumption) ?r16_rest11
                case r16_hy11 => intro w hSw; (try dsimp only at hSw); (go_simp <;> (with_reducible rfl))
                try simp only [Act.put, List.setIfInBounds_toArray, List.set_cons_zero, List.set_cons_succ]
                refine wpAnyH_take (i := 12) (v := ?r16_vv12) (by (simp only [List.getElem?_toArray, List.getElem?_cons_succ, List.getElem?_cons_zero]; rfl)) (by kernel_rfl) (by kernel_rfl) (by kernel_rfl) (by exact fun _ _ _ h => h) (Or.inl ⟨by rfl, ?r16_hy12⟩) (by assumption) ?r16_rest12
                case r16_hy12 => intro w hSw; (try dsimp only at hSw); (go_simp <;> (with_reducible rfl))
                try simp only [Act.put, List.setIfInBounds_toArray, List.set_cons_zero, List.set_cons_succ]
                refine wpAnyH_take (i := 13) (v := ?r16_vv13) (by (simp only [List.getElem?_toArray, List.getElem?_cons_succ, List.getElem?_cons_zero]; rfl)) (by kernel_rfl) (by kernel_rfl) (by kernel_rfl) (by exact fun _ _ _ h => h) (Or.inl ⟨by rfl, ?r16_hy13⟩) (by assumption) ?r16_rest13
                case r16_hy13 => intro w hSw; (try dsimp only at hSw); (go_simp <;> (with_reducible rfl))
                try simp only [Act.put, List.setIfInBounds_toArray, List.set_cons_zero, List.set_cons_succ]
                refine wpAnyH_take (i := 14) (v := ?r16_vv14) (by (simp only [List.getElem?_toArray, List.getElem?_cons_succ, List.getElem?_cons_zero]; rfl)) (by kernel_rfl) (by kernel_rfl) (by kernel_rfl) (by exact fun _ _ _ h => h) (Or.inl ⟨by rfl, ?r16_hy14⟩) (by assumption) ?r16_rest14
                case r16_hy14 => intro w hSw; (try dsimp only at hSw); (go_simp <;> (with_reducible rfl))
                try simp only [Act.put, List.setIfInBounds_toArray, List.set_cons_zero, List.set_cons_succ]
                refine wpAnyH_take (i := 15) (v := ?r16_vv15) (by (simp only [List.getElem?_toArray, List.getElem?_cons_succ, List.getElem?_cons_zero]; rfl)) (by kernel_rfl) (by kernel_rfl) (by kernel_rfl) (by exact fun _ _ _ h => h) (Or.inl ⟨by rfl, ?r16_hy15⟩) (by assumption) ?r16_rest15
                case r16_hy15 => intro w hSw; (try dsimp only at hSw); (go_simp <;> (with_reducible rfl))
                try simp only [Act.put, List.setIfInBounds_toArray, List.set_cons_zero, List.set_cons_succ]
                refine wpAnyH_take (i := 16) (v := ?r16_vv16) (by (simp only [List.getElem?_toArray, List.getElem?_cons_succ, List.getElem?_cons_zero]; rfl)) (by kernel_rfl) (by kernel_rfl) (by kernel_rfl) (by exact fun _ _ _ h => h) (Or.inl ⟨by rfl, ?r16_hy16⟩) (by assumption) ?r16_rest16
                case r16_hy16 => intro w hSw; (try dsimp only at hSw); (go_simp <;> (with_reducible rfl))
                try simp only [Act.put, List.setIfInBounds_toArray, List.set_cons_zero, List.set_cons_succ]
                refine wpAnyH_take (i := 17) (v := ?r16_vv17) (by (simp only [List.getElem?_toArray, List.getElem?_cons_succ, List.getElem?_cons_zero]; rfl)) (by kernel_rfl) (by kernel_rfl) (by kernel_rfl) (by exact fun _ _ _ h => h) (Or.inl ⟨by rfl, ?r16_hy17⟩) (by assumption) ?r16_rest17
                case r16_hy17 => intro w hSw; (try dsimp only at hSw); (go_simp <;> (with_reducible rfl))
                try simp only [Act.put, List.setIfInBounds_toArray, List.set_cons_zero, List.set_cons_succ]
                refine wpAnyH_take (i := 18) (v := ?r16_vv18) (by (simp only [List.getElem?_toArray, List.getElem?_cons_succ, List.getElem?_cons_zero]; rfl)) (by kernel_rfl) (by kernel_rfl) (by kernel_rfl) (by exact fun _ _ _ h => h) (Or.inl ⟨by rfl, ?r16_hy18⟩) (by assumption) ?r16_rest18
                case r16_hy18 => intro w hSw; (try dsimp only at hSw); (go_simp <;> (with_reducible rfl))
                try simp only [Act.put, List.setIfInBounds_toArray, List.set_cons_zero, List.set_cons_succ]
                refine wpAnyH_take (i := 19) (v := ?r16_vv19) (by (simp only [List.getElem?_toArray, List.getElem?_cons_succ, List.getElem?_cons_zero]; rfl)) (by kernel_rfl) (by kernel_rfl) (by kernel_rfl) (by exact fun _ _ _ h => h) (Or.inl ⟨by rfl, ?r16_hy19⟩) (by assumption) ?r16_rest19
                case r16_hy19 => intro w hSw; (try dsimp only at hSw); (go_simp <;> (with_reducible rfl))
                try simp only [Act.put, List.setIfInBounds_toArray, List.set_cons_zero, List.set_cons_succ]
                refine wpAnyH_take (i := 20) (v := ?r16_vv20) (by (simp only [List.getElem?_toArray, List.getElem?_cons_succ, List.getElem?_cons_zero]; rfl)) (by kernel_rfl) (by kernel_rfl) (by kernel_rfl) (by exact fun _ _ _ h => h) (Or.inl ⟨by rfl, ?r16_hy20⟩) (by assumption) ?r16_rest20
                case r16_hy20 => intro w hSw; (try dsimp only at hSw); (go_simp <;> (with_reducible rfl))
                try simp only [Act.put, List.setIfInBounds_toArray, List.set_cons_zero, List.set_cons_succ]
                refine wpAnyH_take (i := 21) (v := ?r16_vv21) (by (simp only [List.getElem?_toArray, List.getElem?_cons_succ, List.getElem?_cons_zero]; rfl)) (by kernel_rfl) (by kernel_rfl) (by kernel_rfl) (by exact fun _ _ _ h => h) (Or.inl ⟨by rfl, ?r16_hy21⟩) (by assumption) ?r16_rest21
                case r16_hy21 => intro w hSw; (try dsimp only at hSw); (go_simp <;> (with_reducible rfl))
                try simp only [Act.put, List.setIfInBounds_toArray, List.set_cons_zero, List.set_cons_succ]
                refine wpAnyH_take (i := 22) (v := ?r16_vv22) (by (simp only [List.getElem?_toArray, List.getElem?_cons_succ, List.getElem?_cons_zero]; rfl)) (by kernel_rfl) (by kernel_rfl) (by kernel_rfl) (by exact fun _ _ _ h => h) (Or.inl ⟨by rfl, ?r16_hy22⟩) (by assumption) ?r16_rest22
                case r16_hy22 => intro w hSw; (try dsimp only at hSw); (go_simp <;> (with_reducible rfl))
                try simp only [Act.put, List.setIfInBounds_toArray, List.set_cons_zero, List.set_cons_succ]
                refine wpAnyH_take (i := 23) (v := ?r16_vv23) (by (simp only [List.getElem?_toArray, List.getElem?_cons_succ, List.getElem?_cons_zero]; rfl)) (by kernel_rfl) (by kernel_rfl) (by kernel_rfl) (by exact fun _ _ _ h => h) (Or.inl ⟨by rfl, ?r16_hy23⟩) (by assumption) ?r16_rest23
                case r16_hy23 => intro w hSw; (try dsimp only at hSw); (go_simp <;> (with_reducible rfl))
                try simp only [Act.put, List.setIfInBounds_toArray, List.set_cons_zero, List.set_cons_succ]
                refine wpAnyH_take (i := 24) (v := ?r16_vv24) (by (simp only [List.getElem?_toArray, List.getElem?_cons_succ, List.getElem?_cons_zero]; rfl)) (by kernel_rfl) (by kernel_rfl) (by kernel_rfl) (by exact fun _ _ _ h => h) (Or.inl ⟨by rfl, ?r16_hy24⟩) (by assumption) ?r16_rest24
                case r16_hy24 => intro w hSw; (try dsimp only at hSw); (go_simp <;> (with_reducible rfl))
                try simp only [Act.put, List.setIfInBounds_toArray, List.set_cons_zero, List.set_cons_succ]
                refine wpAnyH_take (i := 25) (v := undef) (by (simp only [List.getElem?_toArray, List.getElem?_cons_succ, List.getElem?_cons_zero]; rfl)) (by kernel_rfl) (by kernel_rfl) (by kernel_rfl) (by exact fun _ _ _ h => h) (Or.inr ⟨by rfl, rfl⟩) (by assumption) ?_
                try simp only [Act.put, List.setIfInBounds_toArray, List.set_cons_zero, List.set_cons_succ]
                refine wpAnyH_take (i := 26) (v := undef) (by (simp only [List.getElem?_toArray, List.getElem?_cons_succ, List.getElem?_cons_zero]; rfl)) (by kernel_rfl) (by kernel_rfl) (by kernel_rfl) (by exact fun _ _ _ h => h) (Or.inr ⟨by rfl, rfl⟩) (by assumption) ?_
                try simp only [Act.put, List.setIfInBounds_toArray, List.set_cons_zero, List.set_cons_succ]
                refine wpAnyH_take (i := 27) (v := undef) (by (simp only [List.getElem?_toArray, List.getElem?_cons_succ, List.getElem?_cons_zero]; rfl)) (by kernel_rfl) (by kernel_rfl) (by kernel_rfl) (by exact fun _ _ _ h => h) (Or.inr ⟨by rfl, rfl⟩) (by assumption) ?_
                try simp only [Act.put, List.setIfInBounds_toArray, List.set_cons_zero, List.set_cons_succ]
                refine wpAnyH_take (i := 28) (v := undef) (by (simp only [List.getElem?_toArray, List.getElem?_cons_succ, List.getElem?_cons_zero]; rfl)) (by kernel_rfl) (by kernel_rfl) (by kernel_rfl) (by exact fun _ _ _ h => h) (Or.inr ⟨by rfl, rfl⟩) (by assumption) ?_
                try simp only [Act.put, List.setIfInBounds_toArray, List.set_cons_zero, List.set_cons_succ]
                refine wpAnyH_take (i := 29) (v := undef) (by (simp only [List.getElem?_toArray, List.getElem?_cons_succ, List.getElem?_cons_zero]; rfl)) (by kernel_rfl) (by kernel_rfl) (by kernel_rfl) (by exact fun _ _ _ h => h) (Or.inr ⟨by rfl, rfl⟩) (by assumption) ?_
                try simp only [Act.put, List.setIfInBounds_toArray, List.set_cons_zero, List.set_cons_succ]
                refine wpAnyH_take (i := 30) (v := undef) (by (simp only [List.getElem?_toArray, List.getElem?_cons_succ, List.getElem?_cons_zero]; rfl)) (by kernel_rfl) (by kernel_rfl) (by kernel_rfl) (by exact fun _ _ _ h => h) (Or.inr ⟨by rfl, rfl⟩) (by assumption) ?_
                try simp only [Act.put, List.setIfInBounds_toArray, List.set_cons_zero, List.set_cons_succ]
                refine wpAnyH_take (i := 31) (v := undef) (by (simp only [List.getElem?_toArray, List.getElem?_cons_succ, List.getElem?_cons_zero]; rfl)) (by kernel_rfl) (by kernel_rfl) (by kernel_rfl) (by exact fun _ _ _ h => h) (Or.inr ⟨by rfl, rfl⟩) (by assumption) ?_
                try simp only [Act.put, List.setIfInBounds_toArray, List.set_cons_zero, List.set_cons_succ]
                refine wpAnyH_take (i := 32) (v := ?r16_vv32) (by (simp only [List.getElem?_toArray, List.getElem?_cons_succ, List.getElem?_cons_zero]; rfl)) (by kernel_rfl) (by kernel_rfl) (by kernel_rfl) (by exact fun _ _ _ h => h) (Or.inl ⟨by rfl, ?r16_hy32⟩) (by assumption) ?r16_rest32
                case r16_hy32 => intro w hSw; (try dsimp only at hSw); (go_simp <;> (with_reducible rfl))
                try simp only [Act.put, List.setIfInBounds_toArray, List.set_cons_zero, List.set_cons_succ]
                refine wpAnyH_done (by kernel_rfl) ?_ _
                clear hS
                repeat clear hHeld
                go_wp2_with fail
                go_roundw
                case rel => exact ⟨k + 1, best, by omega, by go_num, rfl, HN.out, hbd, HBB.out.at_S rfl, own_atS HO.out rfl, hs.out, HX.out.at_ rfl rfl rfl rfl⟩
                case measure => first | (simp [intOf]; done) | (simp [intOf]; omega)
        · obtain rfl : k = xs.length := by omega
          have hkd : decide ((xs.length : Int) < (xs.length : Int)) = false := by rw [decide_eq_false_iff_not]; omega
          have HN := Lib.hid (LayT.step HL.out HQ.out (fun c => (hpt.out c).symm) hW.out hD.out HT.out HF.out (fun c _ => hCE.out c) (by rw [hEf]) (by rw [hEf]; exact hlt))
          have hslo := hol.out
          have hBx := Lib.hid (show B1 ≤ (wr.alloc (.cells #[.int .i64 best] 2)).heap.size from Nat.le_trans hs.out ((Below.refl _ _).alloc (Nat.le_refl _) _).size)
          go_wp2_with (at_builtin; refine push_app appI64S rfl _ _ rfl B1 out [best] u10 _ rfl rfl (HO.out.alloc _) (sl1iS _ best _ rfl _) (by simp; omega) (by simp; omega) hBx.out ?_)
          intro v15 w15 hO15 hG15 hat15
          have HX15 := Lib.hid ((HX.out.alloc (.cells #[.int .i64 best] 2)).grown hG15 (fun j hj => by have h1 := HO.out.base j hj; have := hGB.out; omega) (fun j hj e => hDA.out j hj e.symm))
          have HO15 := Lib.hid hO15
          have hs15 := Lib.hid (Nat.le_trans hBx.out hG15.size)
          have hDA15 := Lib.hid (show DisS (.slice A2 xs.length cap2) v15 from fun j h1 h2 => by
            rcases hat15 with e | e
            · rw [h2] at e
              exact hDA.out j h1 e.symm
            · have h3 := HX.out.row.lt j h1
              have h4 : (wr.alloc (.cells #[.int .i64 best] 2)).heap.size = wr.heap.size + 1 := by simp
              rw [h2] at e
              injection e with e
              first | omega | (rw [h4] at e; omega))
          clear hO15 hG15 hat15
          go_wp2_with fail
          go_roundw
          case rel => exact ⟨j + 1, out ++ [best], by omega, by congr 1; omega, HN.out, hDA15.out, HO15.out, hs15.out, HX15.out⟩
          case measure => first | (simp [intOf]; done) | (simp [intOf]; omega)
    · obtain rfl : ef = (j : Int) := by omega
      have hfin := Lib.hid (HL.out.fin hD.out HT.out HF.out hEf.symm)
      have hd : decide (0 < (j : Int) - (j : Int)) = false := by simp
      go_wp2_with fail
      go_ret
      exact ⟨⟨_, rfl, by rw [← hfin.out]; exact HO.out.more (by have := hGB.out; have := HX.out.s1; have := HX.out.s2; omega)⟩, HX.out.bel⟩
end Go.Proofs.Yteflpdfajfljfaa
