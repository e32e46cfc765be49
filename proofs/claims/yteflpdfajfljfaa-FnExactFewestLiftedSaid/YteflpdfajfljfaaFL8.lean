/-
What can be come to through some slabs, of the reference. Conditions: the square is valid, the start is one of its cells.
-/
import Derived.Test.YteflpdfajfljfaaFL7
set_option linter.unusedVariables false
set_option linter.unusedSimpArgs false
set_option maxRecDepth 100000
namespace Go.Proofs.Yteflpdfajfljfaa
open Go.RowKit
def bcells (L : List Bool) : Array Value := (L.map Value.bool).toArray
theorem bcells_size (L : List Bool) : (bcells L).size = L.length := by simp [bcells]
theorem bcells_one (L : List Bool) : (bcells L).all (·.oneCell') = true := by
  rw [Array.all_eq_true_iff_forall_mem]
  intro u hu
  simp only [bcells, List.mem_toArray, List.mem_map] at hu
  obtain ⟨b, _, rfl⟩ := hu
  rfl
theorem bcells_get (L : List Bool) (j : Nat) (b : Bool) (h : L[j]? = some b) : (bcells L)[j]? = some (.bool b) := by simp [bcells, h]
theorem bcells_set (L : List Bool) (j : Nat) (b : Bool) : (bcells L).setIfInBounds j (.bool b) = bcells (L.set j b) := by
  apply Array.ext'
  simp [bcells, List.map_set]
def atB (L : List Bool) (c : Cell) : Bool := L.getD (idxT c) false
theorem tabB_nat (L : List Bool) (hl : L.length = 144) (a b : Nat) (ha : a < 12) (hb : b < 12) : (bcells L)[b * 12 + a]? = some (.bool (atB L ⟨(a : Int), (b : Int)⟩)) := by
  refine bcells_get L _ _ ?_
  unfold atB
  rw [idxT_nat, List.getD_eq_getElem?_getD, List.getElem?_eq_getElem (by omega)]
  rfl
def zB144 : List Bool := List.replicate 144 false
theorem zB144_len : zB144.length = 144 := rfl
theorem zeroB : Try.zeroCells162 = bcells zB144 := by kernel_rfl
theorem infoB (L : List Bool) (hl : L.length = 144) : (Try.prog.info? 162).map (·.size) = some (bcells L).size := by rw [bcells_size, hl]; kernel_rfl
theorem atB_set {w h : Int} {L : List Bool} {c d : Cell} (hl : L.length = 144) (hw : w ≤ 12) (hh : h ≤ 12) (hc : gpB w h c = true) (hd : gpB w h d = true) : atB (L.set (idxT c) true) d = (atB L d || decide (d = c)) := by
  have h1 := idx_cel hw hh hc
  have h2 := idx_cel hw hh hd
  unfold atB
  rw [List.getD_eq_getElem?_getD, List.getD_eq_getElem?_getD]
  by_cases e : d = c
  · subst e
    rw [List.getElem?_set_self (by omega)]
    simp
  · have : idxT c ≠ idxT d := fun e2 => e (by rw [← h2.2, ← h1.2, e2])
    rw [List.getElem?_set_ne this]
    simp [e]
theorem atB_zero (c : Cell) : atB zB144 c = false := by
  unfold atB zB144
  rw [List.getD_eq_getElem?_getD, List.getElem?_replicate]
  split <;> rfl
theorem Sl.at_S {α : Type} {w w' : World} {B sz : Nat} {c : α → List Value} {v : Value} {xs : List α} (h : Sl w B c sz v xs) (he : w'.heap = w.heap) : Sl w' B c sz v xs := by
  obtain ⟨A, cap, hv, hl, hm, hc⟩ := h.out
  refine ⟨A, cap, hv, hl, hm, fun hp => ?_⟩
  obtain ⟨b, o, hA, hb, hc⟩ := hc hp
  exact ⟨b, o, hA, hb, fun i x hx j u hu => by have := hc i x hx j u hu; simp only [World.cell?, he] at this ⊢; exact this⟩
theorem drewNS_heap (w : World) (n : Nat) : (w.drewN n).heap = w.heap := rfl
abbrev CmB (b2 o2 gb gi : Nat) (p : Cell) (bv : Bool) (w' : World) : Prop :=
  w'.cell? ⟨b2, o2, none⟩ = some (.int .i8 p.x) ∧ w'.cell? ⟨b2, o2 + 1, none⟩ = some (.int .i8 p.y) ∧ w'.cell? ⟨gb, gi, none⟩ = some (.bool bv)
structure CrI (W : World) (b o : Nat) (w h : Int) (z : Value) (sl : List Slab) (fr : Cell) (G7 G9 : Nat) (L : List Bool) (x : World) : Prop where
  box : Bk x W.heap.size 36 #[.int .i8 fr.x, .int .i8 fr.y]
  res : Bk x (W.heap.size + 1) 162 Try.zeroCells162
  grid : Bk x G7 70 (gcells (gridL sl))
  tab : Bk x G9 162 (bcells L)
  sq : Sq.at_ x b o w h z
  bel : Below W.heap.size W x
  s1 : W.heap.size + 1 < G7
  s2 : G7 < G9
  s4 : b < W.heap.size
section
variable {W x y : World} {b o : Nat} {w h : Int} {z : Value} {sl : List Slab} {G7 G9 : Nat} {fr : Cell} {L : List Bool}
theorem CrI.ext (q : CrI W b o w h z sl fr G7 G9 L x) (hb : Below x.heap.size x y) : CrI W b o w h z sl fr G7 G9 L y :=
  ⟨q.box.ext hb, q.res.ext hb, q.grid.ext hb, q.tab.ext hb, q.sq.ext hb, ext_trans q.bel hb, q.s1, q.s2, q.s4⟩
theorem CrI.alloc (q : CrI W b o w h z sl fr G7 G9 L x) (ob : Obj) : CrI W b o w h z sl fr G7 G9 L (x.alloc ob) := q.ext ((Below.refl _ _).alloc (Nat.le_refl _) ob)
theorem CrI.at_ (q : CrI W b o w h z sl fr G7 G9 L x) (he : y.heap = x.heap) (h1 : y.os = x.os) (h2 : y.tape = x.tape) (h3 : y.output = x.output) : CrI W b o w h z sl fr G7 G9 L y :=
  ⟨q.box.at_S he, q.res.at_S he, q.grid.at_S he, q.tab.at_S he, q.sq.at_S he, below_atS q.bel he h1 h2 h3, q.s1, q.s2, q.s4⟩
theorem CrI.grown {ob : Option Nat} (q : CrI W b o w h z sl fr G7 G9 L x) (hG : x.grownBy y ob) (hB : ∀ j, ob = some j → G9 < j) : CrI W b o w h z sl fr G7 G9 L y := by
  have e1 := q.s1
  have e2 := q.s2
  have e4 := q.s4
  have hc : ∀ p, p ≤ G9 → p < x.heap.size → ∀ k, y.cell? ⟨p, k, none⟩ = x.cell? ⟨p, k, none⟩ := fun p hp hp2 k => by simp only [World.cell?, hG.block p hp2 (fun e => by have := hB _ e.symm; omega)]
  have hbx := q.sq.lt
  exact ⟨q.box.grownOb hG (fun e => by have := hB _ e.symm; omega), q.res.grownOb hG (fun e => by have := hB _ e.symm; omega), q.grid.grownOb hG (fun e => by have := hB _ e.symm; omega), q.tab.grownOb hG (fun e => by have := hB _ e.symm; omega),
    ⟨(hc b (by omega) hbx _).trans q.sq.c0, (hc b (by omega) hbx _).trans q.sq.c1, (hc b (by omega) hbx _).trans q.sq.c2, Nat.lt_of_lt_of_le hbx hG.size⟩, q.bel.grown hG q.bel.size (fun j hj => by have := hB j hj; omega), q.s1, q.s2, q.s4⟩
theorem CrI.put (q : CrI W b o w h z sl fr G7 G9 L x) (i : Nat) (n : Bool) : CrI W b o w h z sl fr G7 G9 (L.set i n) (x.setCell ⟨G9, i, none⟩ (.bool n)) := by
  have e1 := q.s1
  have e2 := q.s2
  have e4 := q.s4
  have hne : ∀ j, j ≠ G9 → (x.setCell ⟨G9, i, none⟩ (.bool n)).heap[j]? = x.heap[j]? := fun j hj => Below.heap_setCell _ _ _ _ (by simpa using hj)
  have hc : ∀ p, p < G9 → ∀ k, (x.setCell ⟨G9, i, none⟩ (.bool n)).cell? ⟨p, k, none⟩ = x.cell? ⟨p, k, none⟩ := fun p hp k => by simp only [World.cell?, hne p (by omega)]
  refine ⟨q.box.oth i _ (by omega), q.res.oth i _ (by omega), q.grid.oth i _ (by omega), ?_, ⟨(hc b (by omega) _).trans q.sq.c0, (hc b (by omega) _).trans q.sq.c1, (hc b (by omega) _).trans q.sq.c2, ?_⟩, q.bel.setCell (p := ⟨G9, i, none⟩) (by simp; omega) _, q.s1, q.s2, q.s4⟩
  · rw [← bcells_set]; exact q.tab.set i _
  · have := q.sq.lt; simpa [World.setCell] using this
end
set_option maxHeartbeats 8000000 in
theorem sReach_calls (b o : Nat) (w h : Int) (z : Value) (sl : List Slab) (fr : Cell) (out : List Int) (v : Value) (hv : sqOk w h sl = true) (hf : gpB w h fr = true) (W : World) (hq : SqIn W w h z sl) (ha : Sq.at_ W b o w h z) (hs : Sl W W.heap.size i64c 1 v out) :
    Calls Try.prog 142 #[.pointer (some ⟨b, o, none⟩), fr.v, v] W fun e w' => (∃ L : List Bool, L.length = 144 ∧ (∀ c, gpB w h c = true → (atB L c = true ↔ RO w h (cvS sl) fr out c)) ∧ e = .returned (.agg (bcells L))) ∧ Below W.heap.size W w' := by
  obtain ⟨⟨hw0, hw1⟩, ⟨hh0, hh1⟩, -⟩ := sqOk_edges hv
  have HQ0 := Lib.hid hq
  have HA0 := Lib.hid ha
  have HF := Lib.hid hf
  have HSO := Lib.hid hs
  have hge := Lib.hid (cvS_ge sl)
  have qs := Lib.hid (fun c (hc : gpB w h c = true) W' ha' => sSides_calls b o w h hq.w0 hq.w1 hq.h0 hq.h1 z c (gpB_true.1 hc).1 (by have := gpB_true.1 hc; omega) (gpB_true.1 hc).2.2.1 (by have := gpB_true.1 hc; omega) W' ha')
  have hub := Lib.hid (fun c => show cvS sl c < 60 from by have h1 := (atI_bounds sl c.x c.y).2; have h2 : sl.length ≤ 60 := (by simp only [sqOk, Bool.and_eq_true, decide_eq_true_eq] at hv; exact hv.1.2); unfold cvS; omega)
  have hgrd := Lib.hid (gridT_nat sl)
  have qhas := Lib.hid (fun n W1 W' (hk : Below W.heap.size W W1) (he : W'.heap = W1.heap) => hasF_calls out v n W' (show Sl W' W'.heap.size i64c 1 v out from by rw [he]; exact (HSO.out.ext hk).at_S he))
  have hB := ext_alloc ((Below.refl W.heap.size W).alloc (Nat.le_refl _) (.cells #[.int .i8 fr.x, .int .i8 fr.y] 36)) (.cells Try.zeroCells162 162)
  have HB := Lib.hid hB
  have K3 := Lib.hid ((Bk.new W 36 #[.int .i8 fr.x, .int .i8 fr.y] W.heap.size rfl).alloc (.cells Try.zeroCells162 162))
  have K4 := Lib.hid (Bk.new (W.alloc (.cells #[.int .i8 fr.x, .int .i8 fr.y] 36)) 162 Try.zeroCells162 (W.heap.size + 1) (by simp))
  have ql := Lib.hid (lay_calls b o w h hq.w0 hq.w1 hq.h0 hq.h1 sl hq.ok z _ (hq.sl.ext hB) (ha.ext hB))
  rw [hv] at ql
  have hbl := Lib.hid ha.lt
  clear hB hq ha hs hf
  unfold Cell.v at *
  go_enter Try.func142, Try.ntmps142
  go_wp2_with fail
  refine ql.out.mono ?_
  rintro e w1 ⟨g, rfl, hgl, hgr, hb1⟩
  have hgg := hgr rfl
  subst hgg
  have HB1 := Lib.hid (ext_trans HB.out hb1)
  have HB5 := Lib.hid (HB1.out.alloc HB1.out.size (.cells Try.zeroCells70 70))
  have K5 := Lib.hid (Bk.new w1 70 Try.zeroCells70 w1.heap.size rfl)
  have K31 := Lib.hid ((K3.out.ext hb1).alloc (.cells Try.zeroCells70 70))
  have K41 := Lib.hid ((K4.out.ext hb1).alloc (.cells Try.zeroCells70 70))
  have hs5 := Lib.hid (show W.heap.size + 1 < w1.heap.size from (K4.out.ext hb1).lt)
  have hglH := Lib.hid hgl
  clear hb1 hgl hgr K3 K4 HB ql
  go_wp2_with (refine wpList_store_bk rfl 70 (.tmp 7) (.tmp 18) rfl _ (gcells (gridL sl)) rfl rfl _ _ K5.out (by rw [zsize, gcells_size, hglH.out]) (ginfo _ hglH.out) (gcells_one _) ?_)
  intro w6 k6 G6
  have KG6 := Lib.hid k6
  have HB6 := Lib.hid (HB5.out.grown G6 HB5.out.size (fun j hj => by injection hj with hj; have := hs5.out; omega))
  have K36 := Lib.hid (K31.out.grown G6 (by have := hs5.out; omega))
  have K46 := Lib.hid (K41.out.grown G6 (by have := hs5.out; omega))
  clear k6 G6 K5 K31 K41 HB5 HB1
  generalize w1.heap.size = G7 at *
  have K7 := Lib.hid (Bk.new w6 162 Try.zeroCells162 w6.heap.size rfl)
  have HB7 := Lib.hid (HB6.out.alloc HB6.out.size (.cells Try.zeroCells162 162))
  have KG7 := Lib.hid (KG6.out.alloc (.cells Try.zeroCells162 162))
  have K37 := Lib.hid (K36.out.alloc (.cells Try.zeroCells162 162))
  have K47 := Lib.hid (K46.out.alloc (.cells Try.zeroCells162 162))
  have hs7 := Lib.hid (show G7 < w6.heap.size from KG6.out.lt)
  clear KG6 K36 K46 HB6
  go_wp2_with (refine wpList_store_bk rfl 162 (.tmp 9) (.tmp 20) rfl _ Try.zeroCells162 rfl rfl _ _ K7.out rfl (by rw [zeroB]; exact infoB zB144 zB144_len) (by rw [zeroB]; exact bcells_one _) ?_)
  intro w8 k8 G8
  have KT8 := Lib.hid (show Bk w8 w6.heap.size 162 (bcells zB144) from by rw [← zeroB]; exact k8)
  have HB8 := Lib.hid (HB7.out.grown G8 HB7.out.size (fun j hj => by injection hj with hj; have := hs7.out; have := hs5.out; omega))
  have KG8 := Lib.hid (KG7.out.grown G8 (by have := hs7.out; omega))
  have K38 := Lib.hid (K37.out.grown G8 (by have := hs7.out; have := hs5.out; omega))
  have K48 := Lib.hid (K47.out.grown G8 (by have := hs7.out; have := hs5.out; omega))
  clear k8 G8 K7 KG7 K37 K47 HB7
  generalize w6.heap.size = G9 at *
  have HX := Lib.hid (show CrI W b o w h z sl fr G7 G9 zB144 w8 from ⟨K38.out, K48.out, KG8.out, KT8.out, HA0.out.ext HB8.out, HB8.out, hs5.out, hs7.out, hbl.out⟩)
  clear KT8 HB8 KG8 K38 K48
  obtain ⟨fa, fb, hfa, hfb, rfl⟩ := ptT_nat hw1 hh1 HF.out
  have x0 := HX.out.box.cell 0 _ rfl
  have x1 := HX.out.box.cell 1 _ rfl
  have t1 := HX.out.tab.cell _ _ (tabB_nat zB144 rfl fa fb hfa hfb)
  have f1 := HX.out.tab.frz (fb * 12 + fa)
  have i0 : (fa : Int) < 12 := by omega
  have i1 : (fb : Int) < 12 := by omega
  generalize atB zB144 ⟨(fa : Int), (fb : Int)⟩ = old at *
  go_wp2_with fail
  go_region
  all_goals
    have HX2 := Lib.hid ((HX.out.put (fb * 12 + fa) true).at_ (y := (w8.setCell ⟨G9, fb * 12 + fa, none⟩ (.bool true)).drew) rfl rfl rfl rfl)
    generalize (w8.setCell ⟨G9, fb * 12 + fa, none⟩ (.bool true)).drew = w9 at *
    rw [← idxT_nat] at HX2
    have x0 := HX2.out.box.cell 0 _ rfl
    have x1 := HX2.out.box.cell 1 _ rfl
    have HXa := Lib.hid (HX2.out.alloc (.cells #[.int .i8 (fa : Int), .int .i8 (fb : Int)] 36))
    have hs9 := Lib.hid HX2.out.tab.lt
    have HOa := Lib.hid (show Own (w9.alloc (.cells #[.int .i8 (fa : Int), .int .i8 (fb : Int)] 36)) (G9 + 1) 36 Cell.c 2 (.slice (some ⟨w9.heap.size, 0, none⟩) 1 1) [⟨(fa : Int), (fb : Int)⟩] from by
      have := World.ownsRow_lit (base := G9 + 1) (e := 36) (size := 2) w9 #[.int .i8 (fa : Int), .int .i8 (fb : Int)] 1 hs9.out (by simp [maxLen]) (by simp)
      exact ⟨by simpa [Cell.c] using this⟩)
    have HI0 := Lib.hid (show RoI w h (cvS sl) ⟨(fa : Int), (fb : Int)⟩ out (atB (zB144.set (idxT ⟨(fa : Int), (fb : Int)⟩) true)) [⟨(fa : Int), (fb : Int)⟩] 0 from RoI.zero HF.out (fun c hc => by rw [atB_set zB144_len hw1 hh1 HF.out hc, atB_zero]; simp))
    have hL0 := Lib.hid (show (zB144.set (idxT ⟨(fa : Int), (fb : Int)⟩) true).length = 144 from by rw [List.length_set]; rfl)
    have hlen := Lib.hid (fun B Q i (q : RoI w h (cvS sl) ⟨(fa : Int), (fb : Int)⟩ out B Q i) => q.len hw1 hh1 HF.out)
    have hptR := Lib.hid (fun B Q i (q : RoI w h (cvS sl) ⟨(fa : Int), (fb : Int)⟩ out B Q i) => q.pt HF.out)
    clear t1 f1 HX HX2
    go_wp2_with fail
    generalize w9.alloc (.cells #[.int .i8 (fa : Int), .int .i8 (fb : Int)] 36) = w10 at *
    clear x0 x1 hs9
    go_loopw [10, 11] (fun oq i wr => ∃ (k : Nat) (Q : List Cell) (L : List Bool), k ≤ Q.length ∧ i = .int .i64 (k : Int) ∧ L.length = 144 ∧ RoI w h (cvS sl) ⟨(fa : Int), (fb : Int)⟩ out (atB L) Q k ∧ Own wr (G9 + 1) 36 Cell.c 2 oq Q ∧ CrI W b o w h z sl ⟨(fa : Int), (fb : Int)⟩ G7 G9 L wr) (fun _ i _ => 145 - (intOf i).toNat)
    case atStart => exact ⟨0, [⟨(fa : Int), (fb : Int)⟩], _, by omega, rfl, hL0.out, HI0.out, HOa.out, HXa.out⟩
    case round =>
      clear HI0 HOa HXa hL0
      obtain ⟨k, Q, L, hk, rfl, hL, hI, hO, hX⟩ := hrel
      have HI := Lib.hid hI
      have HO := Lib.hid hO
      have HX := Lib.hid hX
      have hL := Lib.hid hL
      have hQl := hlen.out _ Q k hI
      clear hI hO hX
      obtain ⟨A2, cap2, rfl, -, -, hcell⟩ := (HO.out.sl Cell.c_len).cell
      by_cases hlt : k < Q.length
      · obtain ⟨b1, o1, rfl, hbb, c0, c1⟩ := hcell k hlt
        clear hcell
        have hk0 : (0 : Int) ≤ (k : Int) := by omega
        have hk1 : (k : Int) < (Q.length : Int) := by omega
        have hkd : decide ((k : Int) < (Q.length : Int)) = true := by rw [decide_eq_true_eq]; omega
        have hapt := Lib.hid (hptR.out _ Q k HI.out Q[k] (List.getElem_mem hlt))
        have hat := Lib.hid (show Q[k]? = some Q[k] from List.getElem?_eq_getElem hlt)
        obtain ⟨a, hae⟩ : ∃ a, Q[k] = a := ⟨_, rfl⟩
        rw [hae] at hapt hat c0 c1
        clear hae
        have qa := Lib.hid (qs.out a hapt.out wr HX.out.sq)
        have hyl := Lib.hid (around_lenS w h a)
        have hyp := Lib.hid (fun c (hc : c ∈ aroundL w h a) => around_pt hc)
        have HJ0 := Lib.hid (fun ys => RoJ.zero (ys := ys) HI.out hat.out)
        have hfin := Lib.hid (fun B Q' (q : RoJ w h (cvS sl) ⟨(fa : Int), (fb : Int)⟩ out B Q' k a (aroundL w h a) (aroundL w h a).length) => q.fin)
        have hyput := Lib.hid (fun B Q' j (hj : j < (aroundL w h a).length) (q : RoJ w h (cvS sl) ⟨(fa : Int), (fb : Int)⟩ out B Q' k a (aroundL w h a) j) he hn B' hB => q.put hj (List.getElem_mem hj) he hn B' hB)
        replace HJ0 := Lib.hid (HJ0.out (aroundL w h a))
        generalize aroundL w h a = ys at *
        go_wp2_with fail
        refine qa.out.mono ?_
        rintro e w6 ⟨v6, rfl, hO6, hb6⟩
        obtain ⟨A4', cap4, rfl, -, -, -⟩ := (hO6.sl Cell.c_len).cell
        have HX6 := Lib.hid (HX.out.ext hb6)
        have HO6 := Lib.hid (HO.out.ext hb6)
        have HY6 := Lib.hid (hO6.more (B' := G9 + 1) HX.out.tab.lt)
        have hDis := Lib.hid (show DisS (.slice A4' ys.length cap4) (.slice (some ⟨b1, o1, none⟩) Q.length cap2) from fun j h1 h2 => by
          have e1 := hO6.base j h1
          have e2 := HO.out.lt j h2
          omega)
        clear hO6 hb6 HX HO qa c0 c1 hbb hQl hk0 hk1 hkd
        dsimp only
        go_wp2_with fail
        go_loopw [10, 13, 14] (fun oq i _ wr => ∃ (j : Nat) (Q : List Cell) (L : List Bool), j ≤ ys.length ∧ i = .int .i64 (j : Int) ∧ L.length = 144 ∧ RoJ w h (cvS sl) ⟨(fa : Int), (fb : Int)⟩ out (atB L) Q k a ys j ∧ DisS (.slice A4' ys.length cap4) oq ∧ Own wr (G9 + 1) 36 Cell.c 2 oq Q ∧ Own wr (G9 + 1) 36 Cell.c 2 (.slice A4' ys.length cap4) ys ∧ CrI W b o w h z sl ⟨(fa : Int), (fb : Int)⟩ G7 G9 L wr) (fun _ i _ _ => ys.length - (intOf i).toNat)
        case atStart => exact ⟨0, Q, L, by omega, rfl, hL.out, HJ0.out, hDis.out, HO6.out, HY6.out, HX6.out⟩
        case round =>
          clear HJ0 hDis HO6 HY6 HX6 hL hlt hat HI
          obtain ⟨j, Q, L, hj, rfl, hL, hJ, hD, hO, hY, hX⟩ := hrel
          have HJ := Lib.hid hJ
          have HD := Lib.hid hD
          have HO := Lib.hid hO
          have HY := Lib.hid hY
          have HX := Lib.hid hX
          have hL := Lib.hid hL
          have hQl := hlen.out _ Q k hJ.re
          clear hJ hD hO hY hX
          have hy4 := hyl.out
          by_cases hjl : j < ys.length
          · obtain ⟨A5, cap5, hvv, -, -, hcell⟩ := (HY.out.sl Cell.c_len).cell
            obtain ⟨rfl, rfl⟩ : A4' = A5 ∧ cap4 = cap5 := by injection hvv with e1 e2 e3; exact ⟨e1, e3⟩
            obtain ⟨b2, o2, rfl, hbb2, c0, c1⟩ := hcell j hjl
            clear hcell hvv
            have hjd : decide ((j : Int) < (ys.length : Int)) = true := by rw [decide_eq_true_eq]; omega
            have hj0 : (0 : Int) ≤ (j : Int) := by omega
            have hj1 : (j : Int) < (ys.length : Int) := by omega
            have hcpt := Lib.hid (hyp.out ys[j] (List.getElem_mem hjl))
            have hskip := Lib.hid (HJ.out.skip hjl)
            have hput := Lib.hid (hyput.out _ Q j hjl HJ.out)
            have hkey := Lib.hid (HJ.out.re.key ys[j] hcpt.out)
            obtain ⟨d, hde⟩ : ∃ d, ys[j] = d := ⟨_, rfl⟩
            rw [hde] at hcpt hskip hput hkey c0 c1
            obtain ⟨p0, p1, hp0, hp1, rfl⟩ := ptT_nat hw1 hh1 hcpt.out
            replace hput := Lib.hid (fun he hn => hput.out he hn (atB (L.set (idxT ⟨(p0 : Int), (p1 : Int)⟩) true)) (fun c hc => atB_set hL.out hw1 hh1 hcpt.out hc))
            have tD := HX.out.tab.cell _ _ (tabB_nat L hL.out p0 p1 hp0 hp1)
            have fD := HX.out.tab.frz (p1 * 12 + p0)
            have gD := HX.out.grid.cell _ _ (hgrd.out p0 p1 hp0 hp1)
            have uD := hub.out ⟨(p0 : Int), (p1 : Int)⟩
            have lD := hge.out ⟨(p0 : Int), (p1 : Int)⟩
            have qh1 := Lib.hid (fun W' (he : W'.heap = wr.heap) => qhas.out (cvS sl ⟨(p0 : Int), (p1 : Int)⟩) wr W' HX.out.bel he)
            have i0 : (p0 : Int) < 12 := by omega
            have i1 : (p1 : Int) < 12 := by omega
            have hdeH := Lib.hid hde
            clear hde HJ
            generalize cvS sl ⟨(p0 : Int), (p1 : Int)⟩ = cd at *
            cases hbd : atB L ⟨(p0 : Int), (p1 : Int)⟩
            · have hno := Lib.hid (show ⟨(p0 : Int), (p1 : Int)⟩ ∉ Q from fun hm => by have := hkey.out.2 hm; rw [hbd] at this; cases this)
              rw [hbd] at tD
              clear hkey hbd
              by_cases hneg : cd < 0
              · have hd1 : decide (cd < 0) = true := decide_eq_true hneg
                have HN := Lib.hid (hput.out (.inl hneg) hno.out)
                clear hneg hskip hput
                go_wp2_with fail
                go_quiet (fail)
                go_wp2_with fail
                have hS : CmB b2 (o2 + j * 2) G9 (p1 * 12 + p0) ⟨(p0 : Int), (p1 : Int)⟩ false wr := ⟨c0, c1, tD⟩
                refine wp_region_held_drew (S := (CmB b2 (o2 + j * 2) G9 (p1 * 12 + p0) ⟨(p0 : Int), (p1 : Int)⟩ false)) (by kernel_rfl) ?r4_hS0 (fun hHeld => ?r4_rest)
                case r4_hS0 => (try dsimp only); first | assumption | exact hS
                refine wpAnyH_take (i := 0) (v := ?r4_vv0) (by (simp only [List.getElem?_toArray, List.getElem?_cons_succ, List.getElem?_cons_zero]; rfl)) (by kernel_rfl) (by kernel_rfl) (by kernel_rfl) (by exact fun _ _ _ h => h) (Or.inl ⟨by rfl, ?r4_hy0⟩) (by assumption) ?r4_rest0
                case r4_hy0 => intro w hSw; (try dsimp only at hSw); (go_simp <;> (with_reducible rfl))
                try simp only [Act.put, List.setIfInBounds_toArray, List.set_cons_zero, List.set_cons_succ]
                refine wpAnyH_take (i := 1) (v := ?r4_vv1) (by (simp only [List.getElem?_toArray, List.getElem?_cons_succ, List.getElem?_cons_zero]; rfl)) (by kernel_rfl) (by kernel_rfl) (by kernel_rfl) (by exact fun _ _ _ h => h) (Or.inl ⟨by rfl, ?r4_hy1⟩) (by assumption) ?r4_rest1
                case r4_hy1 => intro w hSw; (try dsimp only at hSw); (go_simp <;> (with_reducible rfl))
                try simp only [Act.put, List.setIfInBounds_toArray, List.set_cons_zero, List.set_cons_succ]
                refine wpAnyH_take (i := 2) (v := ?r4_vv2) (by (simp only [List.getElem?_toArray, List.getElem?_cons_succ, List.getElem?_cons_zero]; rfl)) (by kernel_rfl) (by kernel_rfl) (by kernel_rfl) (by exact fun _ _ _ h => h) (Or.inl ⟨by rfl, ?r4_hy2⟩) (by assumption) ?r4_rest2
                case r4_hy2 => intro w hSw; (try dsimp only at hSw); (go_simp <;> (with_reducible rfl))
                try simp only [Act.put, List.setIfInBounds_toArray, List.set_cons_zero, List.set_cons_succ]
                refine wpAnyH_take (i := 3) (v := undef) (by (simp only [List.getElem?_toArray, List.getElem?_cons_succ, List.getElem?_cons_zero]; rfl)) (by kernel_rfl) (by kernel_rfl) (by kernel_rfl) (by exact fun _ _ _ h => h) (Or.inr ⟨by rfl, rfl⟩) (by assumption) ?_
                try simp only [Act.put, List.setIfInBounds_toArray, List.set_cons_zero, List.set_cons_succ]
                refine wpAnyH_take (i := 4) (v := undef) (by (simp only [List.getElem?_toArray, List.getElem?_cons_succ, List.getElem?_cons_zero]; rfl)) (by kernel_rfl) (by kernel_rfl) (by kernel_rfl) (by exact fun _ _ _ h => h) (Or.inr ⟨by rfl, rfl⟩) (by assumption) ?_
                try simp only [Act.put, List.setIfInBounds_toArray, List.set_cons_zero, List.set_cons_succ]
                refine wpAnyH_take (i := 5) (v := undef) (by (simp only [List.getElem?_toArray, List.getElem?_cons_succ, List.getElem?_cons_zero]; rfl)) (by kernel_rfl) (by kernel_rfl) (by kernel_rfl) (by exact fun _ _ _ h => h) (Or.inr ⟨by rfl, rfl⟩) (by assumption) ?_
                try simp only [Act.put, List.setIfInBounds_toArray, List.set_cons_zero, List.set_cons_succ]
                refine wpAnyH_take (i := 6) (v := ?r4_vv6) (by (simp only [List.getElem?_toArray, List.getElem?_cons_succ, List.getElem?_cons_zero]; rfl)) (by kernel_rfl) (by kernel_rfl) (by kernel_rfl) (by exact fun _ _ _ h => h) (Or.inl ⟨by rfl, ?r4_hy6⟩) (by assumption) ?r4_rest6
                case r4_hy6 => intro w hSw; (try dsimp only at hSw); (go_simp <;> (with_reducible rfl))
                try simp only [Act.put, List.setIfInBounds_toArray, List.set_cons_zero, List.set_cons_succ]
                refine wpAnyH_take (i := 7) (v := ?r4_vv7) (by (simp only [List.getElem?_toArray, List.getElem?_cons_succ, List.getElem?_cons_zero]; rfl)) (by kernel_rfl) (by kernel_rfl) (by kernel_rfl) (by exact fun _ _ _ h => h) (Or.inl ⟨by rfl, ?r4_hy7⟩) (by assumption) ?r4_rest7
                case r4_hy7 => intro w hSw; (try dsimp only at hSw); (go_simp <;> (with_reducible rfl))
                try simp only [Act.put, List.setIfInBounds_toArray, List.set_cons_zero, List.set_cons_succ]
                refine wpAnyH_take (i := 8) (v := ?r4_vv8) (by (simp only [List.getElem?_toArray, List.getElem?_cons_succ, List.getElem?_cons_zero]; rfl)) (by kernel_rfl) (by kernel_rfl) (by kernel_rfl) (by exact fun _ _ _ h => h) (Or.inl ⟨by rfl, ?r4_hy8⟩) (by assumption) ?r4_rest8
                case r4_hy8 => intro w hSw; (try dsimp only at hSw); (go_simp <;> (with_reducible rfl))
                try simp only [Act.put, List.setIfInBounds_toArray, List.set_cons_zero, List.set_cons_succ]
                refine wpAnyH_take (i := 9) (v := ?r4_vv9) (by (simp only [List.getElem?_toArray, List.getElem?_cons_succ, List.getElem?_cons_zero]; rfl)) (by kernel_rfl) (by kernel_rfl) (by kernel_rfl) (by exact fun _ _ _ h => h) (Or.inl ⟨by rfl, ?r4_hy9⟩) (by assumption) ?r4_rest9
                case r4_hy9 => intro w hSw; (try dsimp only at hSw); (go_simp <;> (with_reducible rfl))
                try simp only [Act.put, List.setIfInBounds_toArray, List.set_cons_zero, List.set_cons_succ]
                refine wpAnyH_take (i := 10) (v := ?r4_vv10) (by (simp only [List.getElem?_toArray, List.getElem?_cons_succ, List.getElem?_cons_zero]; rfl)) (by kernel_rfl) (by kernel_rfl) (by kernel_rfl) (by exact fun _ _ _ h => h) (Or.inl ⟨by rfl, ?r4_hy10⟩) (by assumption) ?r4_rest10
                case r4_hy10 => intro w hSw; (try dsimp only at hSw); (go_simp <;> (with_reducible rfl))
                try simp only [Act.put, List.setIfInBounds_toArray, List.set_cons_zero, List.set_cons_succ]
                refine wpAnyH_take (i := 11) (v := ?r4_vv11) (by (simp only [List.getElem?_toArray, List.getElem?_cons_succ, List.getElem?_cons_zero]; rfl)) (by kernel_rfl) (by kernel_rfl) (by kernel_rfl) (by exact fun _ _ _ h => h) (Or.inl ⟨by rfl, ?r4_hy11⟩) (by assumption) ?r4_rest11
                case r4_hy11 => intro w hSw; (try dsimp only at hSw); (go_simp <;> (with_reducible rfl))
                try simp only [Act.put, List.setIfInBounds_toArray, List.set_cons_zero, List.set_cons_succ]
                refine wpAnyH_take (i := 12) (v := ?r4_vv12) (by (simp only [List.getElem?_toArray, List.getElem?_cons_succ, List.getElem?_cons_zero]; rfl)) (by kernel_rfl) (by kernel_rfl) (by kernel_rfl) (by exact fun _ _ _ h => h) (Or.inl ⟨by rfl, ?r4_hy12⟩) (by assumption) ?r4_rest12
                case r4_hy12 => intro w hSw; (try dsimp only at hSw); (go_simp <;> (with_reducible rfl))
                try simp only [Act.put, List.setIfInBounds_toArray, List.set_cons_zero, List.set_cons_succ]
                refine wpAnyH_take (i := 13) (v := ?r4_vv13) (by (simp only [List.getElem?_toArray, List.getElem?_cons_succ, List.getElem?_cons_zero]; rfl)) (by kernel_rfl) (by kernel_rfl) (by kernel_rfl) (by exact fun _ _ _ h => h) (Or.inl ⟨by rfl, ?r4_hy13⟩) (by assumption) ?r4_rest13
                case r4_hy13 => intro w hSw; (try dsimp only at hSw); (go_simp <;> (with_reducible rfl))
                try simp only [Act.put, List.setIfInBounds_toArray, List.set_cons_zero, List.set_cons_succ]
                refine wpAnyH_take (i := 14) (v := ?r4_vv14) (by (simp only [List.getElem?_toArray, List.getElem?_cons_succ, List.getElem?_cons_zero]; rfl)) (by kernel_rfl) (by kernel_rfl) (by kernel_rfl) (by exact fun _ _ _ h => h) (Or.inl ⟨by rfl, ?r4_hy14⟩) (by assumption) ?r4_rest14
                case r4_hy14 => intro w hSw; (try dsimp only at hSw); (go_simp <;> (with_reducible rfl))
                try simp only [Act.put, List.setIfInBounds_toArray, List.set_cons_zero, List.set_cons_succ]
                refine wpAnyH_take (i := 15) (v := ?r4_vv15) (by (simp only [List.getElem?_toArray, List.getElem?_cons_succ, List.getElem?_cons_zero]; rfl)) (by kernel_rfl) (by kernel_rfl) (by kernel_rfl) (by exact fun _ _ _ h => h) (Or.inl ⟨by rfl, ?r4_hy15⟩) (by assumption) ?r4_rest15
                case r4_hy15 => intro w hSw; (try dsimp only at hSw); (go_simp <;> (with_reducible rfl))
                try simp only [Act.put, List.setIfInBounds_toArray, List.set_cons_zero, List.set_cons_succ]
                refine wpAnyH_take (i := 16) (v := ?r4_vv16) (by (simp only [List.getElem?_toArray, List.getElem?_cons_succ, List.getElem?_cons_zero]; rfl)) (by kernel_rfl) (by kernel_rfl) (by kernel_rfl) (by exact fun _ _ _ h => h) (Or.inl ⟨by rfl, ?r4_hy16⟩) (by assumption) ?r4_rest16
                case r4_hy16 => intro w hSw; (try dsimp only at hSw); (go_simp <;> (with_reducible rfl))
                try simp only [Act.put, List.setIfInBounds_toArray, List.set_cons_zero, List.set_cons_succ]
                refine wpAnyH_take (i := 17) (v := ?r4_vv17) (by (simp only [List.getElem?_toArray, List.getElem?_cons_succ, List.getElem?_cons_zero]; rfl)) (by kernel_rfl) (by kernel_rfl) (by kernel_rfl) (by exact fun _ _ _ h => h) (Or.inl ⟨by rfl, ?r4_hy17⟩) (by assumption) ?r4_rest17
                case r4_hy17 => intro w hSw; (try dsimp only at hSw); (go_simp <;> (with_reducible rfl))
                try simp only [Act.put, List.setIfInBounds_toArray, List.set_cons_zero, List.set_cons_succ]
                refine wpAnyH_take (i := 18) (v := ?r4_vv18) (by (simp only [List.getElem?_toArray, List.getElem?_cons_succ, List.getElem?_cons_zero]; rfl)) (by kernel_rfl) (by kernel_rfl) (by kernel_rfl) (by exact fun _ _ _ h => h) (Or.inl ⟨by rfl, ?r4_hy18⟩) (by assumption) ?r4_rest18
                case r4_hy18 => intro w hSw; (try dsimp only at hSw); (go_simp <;> (with_reducible rfl))
                try simp only [Act.put, List.setIfInBounds_toArray, List.set_cons_zero, List.set_cons_succ]
                refine wpAnyH_take (i := 19) (v := ?r4_vv19) (by (simp only [List.getElem?_toArray, List.getElem?_cons_succ, List.getElem?_cons_zero]; rfl)) (by kernel_rfl) (by kernel_rfl) (by kernel_rfl) (by exact fun _ _ _ h => h) (Or.inl ⟨by rfl, ?r4_hy19⟩) (by assumption) ?r4_rest19
                case r4_hy19 => intro w hSw; (try dsimp only at hSw); (go_simp <;> (with_reducible rfl))
                try simp only [Act.put, List.setIfInBounds_toArray, List.set_cons_zero, List.set_cons_succ]
                refine wpAnyH_take (i := 20) (v := ?r4_vv20) (by (simp only [List.getElem?_toArray, List.getElem?_cons_succ, List.getElem?_cons_zero]; rfl)) (by kernel_rfl) (by kernel_rfl) (by kernel_rfl) (by exact fun _ _ _ h => h) (Or.inl ⟨by rfl, ?r4_hy20⟩) (by assumption) ?r4_rest20
                case r4_hy20 => intro w hSw; (try dsimp only at hSw); (go_simp <;> (with_reducible rfl))
                try simp only [Act.put, List.setIfInBounds_toArray, List.set_cons_zero, List.set_cons_succ]
                refine wpAnyH_take (i := 21) (v := ?r4_vv21) (by (simp only [List.getElem?_toArray, List.getElem?_cons_succ, List.getElem?_cons_zero]; rfl)) (by kernel_rfl) (by kernel_rfl) (by kernel_rfl) (by exact fun _ _ _ h => h) (Or.inl ⟨by rfl, ?r4_hy21⟩) (by assumption) ?r4_rest21
                case r4_hy21 => intro w hSw; (try dsimp only at hSw); (go_simp <;> (with_reducible rfl))
                try simp only [Act.put, List.setIfInBounds_toArray, List.set_cons_zero, List.set_cons_succ]
                refine wpAnyH_take (i := 22) (v := ?r4_vv22) (by (simp only [List.getElem?_toArray, List.getElem?_cons_succ, List.getElem?_cons_zero]; rfl)) (by kernel_rfl) (by kernel_rfl) (by kernel_rfl) (by exact fun _ _ _ h => h) (Or.inl ⟨by rfl, ?r4_hy22⟩) (by assumption) ?r4_rest22
                case r4_hy22 => intro w hSw; (try dsimp only at hSw); (go_simp <;> (with_reducible rfl))
                try simp only [Act.put, List.setIfInBounds_toArray, List.set_cons_zero, List.set_cons_succ]
                refine wpAnyH_done (by kernel_rfl) ?_ _
                repeat clear hHeld
                clear hS
                replace HX := Lib.hid (HX.out.at_ (y := (wr.drewN nq).drew) rfl rfl rfl rfl)
                replace HO := Lib.hid (own_atS (w' := (wr.drewN nq).drew) HO.out rfl)
                replace HY := Lib.hid (own_atS (w' := (wr.drewN nq).drew) HY.out rfl)
                replace c0 : ((wr.drewN nq).drew).cell? ⟨b2, o2 + j * 2, none⟩ = some (.int .i8 (p0 : Int)) := c0
                replace c1 : ((wr.drewN nq).drew).cell? ⟨b2, o2 + j * 2 + 1, none⟩ = some (.int .i8 (p1 : Int)) := c1
                replace tD : ((wr.drewN nq).drew).cell? ⟨G9, p1 * 12 + p0, none⟩ = some (.bool false) := tD
                replace fD : ((wr.drewN nq).drew).frozen? ⟨G9, p1 * 12 + p0, none⟩ = false := fD
                clear gD qh1
                generalize (wr.drewN nq).drew = wq at *
                go_wp2_with fail
                go_region
                all_goals
                  have HX3 := Lib.hid (HX.out.put (p1 * 12 + p0) true)
                  have HO3 := Lib.hid (HO.out.keep (w' := wq.setCell ⟨G9, p1 * 12 + p0, none⟩ (.bool true)) (fun j hj => by have h1 := HO.out.base j hj; rw [Below.heap_setCell _ _ _ _ (show j ≠ _ by simp; omega)]))
                  have HY3 := Lib.hid (HY.out.keep (w' := wq.setCell ⟨G9, p1 * 12 + p0, none⟩ (.bool true)) (fun j hj => by have h1 := HY.out.base j hj; rw [Below.heap_setCell _ _ _ _ (show j ≠ _ by simp; omega)]))
                  clear HX HO HY c0 c1 tD fD
                  generalize hws : wq.setCell ⟨G9, p1 * 12 + p0, none⟩ (.bool true) = ws at *
                  rw [← idxT_nat] at HX3
                  obtain ⟨A5, cap5, hvv, -, -, hcell⟩ := (HY3.out.sl Cell.c_len).cell
                  obtain ⟨e7, rfl⟩ : some (⟨b2, o2, none⟩ : Addr) = A5 ∧ cap4 = cap5 := by injection hvv with e1 e2 e3; exact ⟨e1, e3⟩
                  subst e7
                  obtain ⟨b3, o3, hA3, hbb3, c0, c1⟩ := hcell j hjl
                  obtain ⟨rfl, rfl⟩ : b2 = b3 ∧ o2 = o3 := by injection hA3 with e; injection e with e1 e2; exact ⟨e1, e2⟩
                  rw [hdeH.out] at c0 c1
                  clear hcell hvv hA3 hws
                  have hQ1 := hQl
                  have HXd := Lib.hid (HX3.out.at_ (y := ws.drew) rfl rfl rfl rfl)
                  have HOd := Lib.hid (own_atS (w' := ws.drew) HO3.out rfl)
                  have HYd := Lib.hid (own_atS (w' := ws.drew) HY3.out rfl)
                  replace c0 : ws.drew.cell? ⟨b2, o2 + j * 2, none⟩ = some (.int .i8 (p0 : Int)) := c0
                  replace c1 : ws.drew.cell? ⟨b2, o2 + j * 2 + 1, none⟩ = some (.int .i8 (p1 : Int)) := c1
                  clear HX3 HO3 HY3
                  generalize ws.drew = wd at *
                  have hB9 := Lib.hid (show G9 + 1 ≤ (wd.alloc (.cells #[.int .i8 (p0 : Int), .int .i8 (p1 : Int)] 36)).heap.size from Nat.le_trans HXd.out.tab.lt ((Below.refl _ _).alloc (Nat.le_refl _) _).size)
                  go_wp2_with (at_builtin; refine push_cellat rfl _ _ rfl (G9 + 1) Q _ rfl (HOd.out.alloc _) _ ⟨(p0 : Int), (p1 : Int)⟩ rfl (Bk.new _ _ _ _ rfl) (by omega) hB9.out ?_)
                  intro v10 w10 hO10 hG10 hat10
                  have HX10 := Lib.hid ((HXd.out.alloc (.cells #[.int .i8 (p0 : Int), .int .i8 (p1 : Int)] 36)).grown hG10 (fun j hj => by have := HOd.out.base j hj; omega))
                  have HO10 := Lib.hid hO10
                  have HY10 := Lib.hid ((HYd.out.alloc (.cells #[.int .i8 (p0 : Int), .int .i8 (p1 : Int)] 36)).grownOb hG10 (fun j hj e => HD.out j hj e.symm))
                  have HD10 := Lib.hid (show DisS (.slice (some ⟨b2, o2, none⟩) ys.length cap4) v10 from fun j h1 h2 => by
                    rcases hat10 with e | e
                    · rw [h2] at e
                      exact HD.out j h1 e.symm
                    · have h3 := HYd.out.lt j h1
                      have h4 : (wd.alloc (.cells #[.int .i8 (p0 : Int), .int .i8 (p1 : Int)] 36)).heap.size = wd.heap.size + 1 := by simp
                      rw [h2] at e
                      injection e with e
                      first | omega | (rw [h4] at e; omega))
                  have hL3 := Lib.hid (show (L.set (idxT ⟨(p0 : Int), (p1 : Int)⟩) true).length = 144 from by rw [List.length_set]; exact hL.out)
                  clear hO10 hG10 hat10 c0 c1
                  go_wp2_with fail
                  go_roundw
                  case rel => exact ⟨j + 1, _, _, by omega, by go_num, hL3.out, HN.out, HD10.out, HO10.out, HY10.out, HX10.out⟩
                  case measure => first | (simp [intOf]; done) | (simp [intOf]; omega)
              · have hd1 : decide (cd < 0) = false := decide_eq_false hneg
                clear hneg
                by_cases hmem : cd ∈ out
                · have hd2 : decide (cd ∈ out) = true := decide_eq_true hmem
                  have HN := Lib.hid (hput.out (.inr hmem) hno.out)
                  rw [hd2] at qh1
                  clear hmem hskip hput
                  go_wp2_with fail
                  go_quiet (fail)
                  go_wp2_with fail
                  have hS : CmB b2 (o2 + j * 2) G9 (p1 * 12 + p0) ⟨(p0 : Int), (p1 : Int)⟩ false wr := ⟨c0, c1, tD⟩
                  refine wp_region_held_drew (S := (CmB b2 (o2 + j * 2) G9 (p1 * 12 + p0) ⟨(p0 : Int), (p1 : Int)⟩ false)) (by kernel_rfl) ?r5_hS0 (fun hHeld => ?r5_rest)
                  case r5_hS0 => (try dsimp only); first | assumption | exact hS
                  refine wpAnyH_take (i := 0) (v := ?r5_vv0) (by (simp only [List.getElem?_toArray, List.getElem?_cons_succ, List.getElem?_cons_zero]; rfl)) (by kernel_rfl) (by kernel_rfl) (by kernel_rfl) (by exact fun _ _ _ h => h) (Or.inl ⟨by rfl, ?r5_hy0⟩) (by assumption) ?r5_rest0
                  case r5_hy0 => intro w hSw; (try dsimp only at hSw); (go_simp <;> (with_reducible rfl))
                  try simp only [Act.put, List.setIfInBounds_toArray, List.set_cons_zero, List.set_cons_succ]
                  refine wpAnyH_take (i := 1) (v := ?r5_vv1) (by (simp only [List.getElem?_toArray, List.getElem?_cons_succ, List.getElem?_cons_zero]; rfl)) (by kernel_rfl) (by kernel_rfl) (by kernel_rfl) (by exact fun _ _ _ h => h) (Or.inl ⟨by rfl, ?r5_hy1⟩) (by assumption) ?r5_rest1
                  case r5_hy1 => intro w hSw; (try dsimp only at hSw); (go_simp <;> (with_reducible rfl))
                  try simp only [Act.put, List.setIfInBounds_toArray, List.set_cons_zero, List.set_cons_succ]
                  refine wpAnyH_take (i := 2) (v := ?r5_vv2) (by (simp only [List.getElem?_toArray, List.getElem?_cons_succ, List.getElem?_cons_zero]; rfl)) (by kernel_rfl) (by kernel_rfl) (by kernel_rfl) (by exact fun _ _ _ h => h) (Or.inl ⟨by rfl, ?r5_hy2⟩) (by assumption) ?r5_rest2
                  case r5_hy2 => intro w hSw; (try dsimp only at hSw); (go_simp <;> (with_reducible rfl))
                  try simp only [Act.put, List.setIfInBounds_toArray, List.set_cons_zero, List.set_cons_succ]
                  refine wpAnyH_take (i := 3) (v := ?r5_vv3) (by (simp only [List.getElem?_toArray, List.getElem?_cons_succ, List.getElem?_cons_zero]; rfl)) (by kernel_rfl) (by kernel_rfl) (by kernel_rfl) (by exact fun _ _ _ h => h) (Or.inl ⟨by rfl, ?r5_hy3⟩) (by assumption) ?r5_rest3
                  case r5_hy3 => intro w hSw; (try dsimp only at hSw); (go_simp <;> (with_reducible rfl))
                  try simp only [Act.put, List.setIfInBounds_toArray, List.set_cons_zero, List.set_cons_succ]
                  refine wpAnyH_take (i := 4) (v := ?r5_vv4) (by (simp only [List.getElem?_toArray, List.getElem?_cons_succ, List.getElem?_cons_zero]; rfl)) (by kernel_rfl) (by kernel_rfl) (by kernel_rfl) (by exact fun _ _ _ h => h) (Or.inl ⟨by rfl, ?r5_hy4⟩) (by assumption) ?r5_rest4
                  case r5_hy4 => intro w hSw; (try dsimp only at hSw); (go_simp <;> (with_reducible rfl))
                  try simp only [Act.put, List.setIfInBounds_toArray, List.set_cons_zero, List.set_cons_succ]
                  refine wpAnyH_ready (rs := [5]) (by kernel_rfl) (by simp) ?_
                  refine AllReadyH.cons (by (simp only [List.getElem?_toArray, List.getElem?_cons_succ, List.getElem?_cons_zero]; rfl)) (fun K hK => ?_) AllReadyH.nil
                  go_simp
                  (go_at_call 82; (with_reducible refine (qh1.out _ (drewNS_heap _ _)).mono ?_); rintro e w11 ⟨rfl, rfl⟩)
                  try go_wp2_with fail
                  refine hK.out _ _ ?r5_hS5 (fun hHeld => ?r5_r5)
                  case r5_hS5 => (try dsimp only); first | assumption | exact hS
                  clear hK K
                  try simp only [Act.put, List.setIfInBounds_toArray, List.set_cons_zero, List.set_cons_succ]
                  refine wpAnyH_take (i := 6) (v := ?r5_vv6) (by (simp only [List.getElem?_toArray, List.getElem?_cons_succ, List.getElem?_cons_zero]; rfl)) (by kernel_rfl) (by kernel_rfl) (by kernel_rfl) (by exact fun _ _ _ h => h) (Or.inl ⟨by rfl, ?r5_hy6⟩) (by assumption) ?r5_rest6
                  case r5_hy6 => intro w hSw; (try dsimp only at hSw); (go_simp <;> (with_reducible rfl))
                  try simp only [Act.put, List.setIfInBounds_toArray, List.set_cons_zero, List.set_cons_succ]
                  refine wpAnyH_take (i := 7) (v := ?r5_vv7) (by (simp only [List.getElem?_toArray, List.getElem?_cons_succ, List.getElem?_cons_zero]; rfl)) (by kernel_rfl) (by kernel_rfl) (by kernel_rfl) (by exact fun _ _ _ h => h) (Or.inl ⟨by rfl, ?r5_hy7⟩) (by assumption) ?r5_rest7
                  case r5_hy7 => intro w hSw; (try dsimp only at hSw); (go_simp <;> (with_reducible rfl))
                  try simp only [Act.put, List.setIfInBounds_toArray, List.set_cons_zero, List.set_cons_succ]
                  refine wpAnyH_take (i := 8) (v := ?r5_vv8) (by (simp only [List.getElem?_toArray, List.getElem?_cons_succ, List.getElem?_cons_zero]; rfl)) (by kernel_rfl) (by kernel_rfl) (by kernel_rfl) (by exact fun _ _ _ h => h) (Or.inl ⟨by rfl, ?r5_hy8⟩) (by assumption) ?r5_rest8
                  case r5_hy8 => intro w hSw; (try dsimp only at hSw); (go_simp <;> (with_reducible rfl))
                  try simp only [Act.put, List.setIfInBounds_toArray, List.set_cons_zero, List.set_cons_succ]
                  refine wpAnyH_take (i := 9) (v := ?r5_vv9) (by (simp only [List.getElem?_toArray, List.getElem?_cons_succ, List.getElem?_cons_zero]; rfl)) (by kernel_rfl) (by kernel_rfl) (by kernel_rfl) (by exact fun _ _ _ h => h) (Or.inl ⟨by rfl, ?r5_hy9⟩) (by assumption) ?r5_rest9
                  case r5_hy9 => intro w hSw; (try dsimp only at hSw); (go_simp <;> (with_reducible rfl))
                  try simp only [Act.put, List.setIfInBounds_toArray, List.set_cons_zero, List.set_cons_succ]
                  refine wpAnyH_take (i := 10) (v := ?r5_vv10) (by (simp only [List.getElem?_toArray, List.getElem?_cons_succ, List.getElem?_cons_zero]; rfl)) (by kernel_rfl) (by kernel_rfl) (by kernel_rfl) (by exact fun _ _ _ h => h) (Or.inl ⟨by rfl, ?r5_hy10⟩) (by assumption) ?r5_rest10
                  case r5_hy10 => intro w hSw; (try dsimp only at hSw); (go_simp <;> (with_reducible rfl))
                  try simp only [Act.put, List.setIfInBounds_toArray, List.set_cons_zero, List.set_cons_succ]
                  refine wpAnyH_take (i := 11) (v := ?r5_vv11) (by (simp only [List.getElem?_toArray, List.getElem?_cons_succ, List.getElem?_cons_zero]; rfl)) (by kernel_rfl) (by kernel_rfl) (by kernel_rfl) (by exact fun _ _ _ h => h) (Or.inl ⟨by rfl, ?r5_hy11⟩) (by assumption) ?r5_rest11
                  case r5_hy11 => intro w hSw; (try dsimp only at hSw); (go_simp <;> (with_reducible rfl))
                  try simp only [Act.put, List.setIfInBounds_toArray, List.set_cons_zero, List.set_cons_succ]
                  refine wpAnyH_take (i := 12) (v := ?r5_vv12) (by (simp only [List.getElem?_toArray, List.getElem?_cons_succ, List.getElem?_cons_zero]; rfl)) (by kernel_rfl) (by kernel_rfl) (by kernel_rfl) (by exact fun _ _ _ h => h) (Or.inl ⟨by rfl, ?r5_hy12⟩) (by assumption) ?r5_rest12
                  case r5_hy12 => intro w hSw; (try dsimp only at hSw); (go_simp <;> (with_reducible rfl))
                  try simp only [Act.put, List.setIfInBounds_toArray, List.set_cons_zero, List.set_cons_succ]
                  refine wpAnyH_take (i := 13) (v := ?r5_vv13) (by (simp only [List.getElem?_toArray, List.getElem?_cons_succ, List.getElem?_cons_zero]; rfl)) (by kernel_rfl) (by kernel_rfl) (by kernel_rfl) (by exact fun _ _ _ h => h) (Or.inl ⟨by rfl, ?r5_hy13⟩) (by assumption) ?r5_rest13
                  case r5_hy13 => intro w hSw; (try dsimp only at hSw); (go_simp <;> (with_reducible rfl))
                  try simp only [Act.put, List.setIfInBounds_toArray, List.set_cons_zero, List.set_cons_succ]
                  refine wpAnyH_take (i := 14) (v := ?r5_vv14) (by (simp only [List.getElem?_toArray, List.getElem?_cons_succ, List.getElem?_cons_zero]; rfl)) (by kernel_rfl) (by kernel_rfl) (by kernel_rfl) (by exact fun _ _ _ h => h) (Or.inl ⟨by rfl, ?r5_hy14⟩) (by assumption) ?r5_rest14
                  case r5_hy14 => intro w hSw; (try dsimp only at hSw); (go_simp <;> (with_reducible rfl))
                  try simp only [Act.put, List.setIfInBounds_toArray, List.set_cons_zero, List.set_cons_succ]
                  refine wpAnyH_take (i := 15) (v := ?r5_vv15) (by (simp only [List.getElem?_toArray, List.getElem?_cons_succ, List.getElem?_cons_zero]; rfl)) (by kernel_rfl) (by kernel_rfl) (by kernel_rfl) (by exact fun _ _ _ h => h) (Or.inl ⟨by rfl, ?r5_hy15⟩) (by assumption) ?r5_rest15
                  case r5_hy15 => intro w hSw; (try dsimp only at hSw); (go_simp <;> (with_reducible rfl))
                  try simp only [Act.put, List.setIfInBounds_toArray, List.set_cons_zero, List.set_cons_succ]
                  refine wpAnyH_take (i := 16) (v := ?r5_vv16) (by (simp only [List.getElem?_toArray, List.getElem?_cons_succ, List.getElem?_cons_zero]; rfl)) (by kernel_rfl) (by kernel_rfl) (by kernel_rfl) (by exact fun _ _ _ h => h) (Or.inl ⟨by rfl, ?r5_hy16⟩) (by assumption) ?r5_rest16
                  case r5_hy16 => intro w hSw; (try dsimp only at hSw); (go_simp <;> (with_reducible rfl))
                  try simp only [Act.put, List.setIfInBounds_toArray, List.set_cons_zero, List.set_cons_succ]
                  refine wpAnyH_take (i := 17) (v := ?r5_vv17) (by (simp only [List.getElem?_toArray, List.getElem?_cons_succ, List.getElem?_cons_zero]; rfl)) (by kernel_rfl) (by kernel_rfl) (by kernel_rfl) (by exact fun _ _ _ h => h) (Or.inl ⟨by rfl, ?r5_hy17⟩) (by assumption) ?r5_rest17
                  case r5_hy17 => intro w hSw; (try dsimp only at hSw); (go_simp <;> (with_reducible rfl))
                  try simp only [Act.put, List.setIfInBounds_toArray, List.set_cons_zero, List.set_cons_succ]
                  refine wpAnyH_take (i := 18) (v := ?r5_vv18) (by (simp only [List.getElem?_toArray, List.getElem?_cons_succ, List.getElem?_cons_zero]; rfl)) (by kernel_rfl) (by kernel_rfl) (by kernel_rfl) (by exact fun _ _ _ h => h) (Or.inl ⟨by rfl, ?r5_hy18⟩) (by assumption) ?r5_rest18
                  case r5_hy18 => intro w hSw; (try dsimp only at hSw); (go_simp <;> (with_reducible rfl))
                  try simp only [Act.put, List.setIfInBounds_toArray, List.set_cons_zero, List.set_cons_succ]
                  refine wpAnyH_take (i := 19) (v := ?r5_vv19) (by (simp only [List.getElem?_toArray, List.getElem?_cons_succ, List.getElem?_cons_zero]; rfl)) (by kernel_rfl) (by kernel_rfl) (by kernel_rfl) (by exact fun _ _ _ h => h) (Or.inl ⟨by rfl, ?r5_hy19⟩) (by assumption) ?r5_rest19
                  case r5_hy19 => intro w hSw; (try dsimp only at hSw); (go_simp <;> (with_reducible rfl))
                  try simp only [Act.put, List.setIfInBounds_toArray, List.set_cons_zero, List.set_cons_succ]
                  refine wpAnyH_take (i := 20) (v := ?r5_vv20) (by (simp only [List.getElem?_toArray, List.getElem?_cons_succ, List.getElem?_cons_zero]; rfl)) (by kernel_rfl) (by kernel_rfl) (by kernel_rfl) (by exact fun _ _ _ h => h) (Or.inl ⟨by rfl, ?r5_hy20⟩) (by assumption) ?r5_rest20
                  case r5_hy20 => intro w hSw; (try dsimp only at hSw); (go_simp <;> (with_reducible rfl))
                  try simp only [Act.put, List.setIfInBounds_toArray, List.set_cons_zero, List.set_cons_succ]
                  refine wpAnyH_take (i := 21) (v := ?r5_vv21) (by (simp only [List.getElem?_toArray, List.getElem?_cons_succ, List.getElem?_cons_zero]; rfl)) (by kernel_rfl) (by kernel_rfl) (by kernel_rfl) (by exact fun _ _ _ h => h) (Or.inl ⟨by rfl, ?r5_hy21⟩) (by assumption) ?r5_rest21
                  case r5_hy21 => intro w hSw; (try dsimp only at hSw); (go_simp <;> (with_reducible rfl))
                  try simp only [Act.put, List.setIfInBounds_toArray, List.set_cons_zero, List.set_cons_succ]
                  refine wpAnyH_take (i := 22) (v := ?r5_vv22) (by (simp only [List.getElem?_toArray, List.getElem?_cons_succ, List.getElem?_cons_zero]; rfl)) (by kernel_rfl) (by kernel_rfl) (by kernel_rfl) (by exact fun _ _ _ h => h) (Or.inl ⟨by rfl, ?r5_hy22⟩) (by assumption) ?r5_rest22
                  case r5_hy22 => intro w hSw; (try dsimp only at hSw); (go_simp <;> (with_reducible rfl))
                  try simp only [Act.put, List.setIfInBounds_toArray, List.set_cons_zero, List.set_cons_succ]
                  refine wpAnyH_done (by kernel_rfl) ?_ _
                  repeat clear hHeld
                  clear hS
                  replace HX := Lib.hid (HX.out.at_ (y := wr.drewN (nq + 1)) rfl rfl rfl rfl)
                  replace HO := Lib.hid (own_atS (w' := wr.drewN (nq + 1)) HO.out rfl)
                  replace HY := Lib.hid (own_atS (w' := wr.drewN (nq + 1)) HY.out rfl)
                  replace c0 : (wr.drewN (nq + 1)).cell? ⟨b2, o2 + j * 2, none⟩ = some (.int .i8 (p0 : Int)) := c0
                  replace c1 : (wr.drewN (nq + 1)).cell? ⟨b2, o2 + j * 2 + 1, none⟩ = some (.int .i8 (p1 : Int)) := c1
                  replace tD : (wr.drewN (nq + 1)).cell? ⟨G9, p1 * 12 + p0, none⟩ = some (.bool false) := tD
                  replace fD : (wr.drewN (nq + 1)).frozen? ⟨G9, p1 * 12 + p0, none⟩ = false := fD
                  clear gD qh1
                  generalize wr.drewN (nq + 1) = wq at *
                  go_wp2_with fail
                  go_region
                  all_goals
                    have HX3 := Lib.hid (HX.out.put (p1 * 12 + p0) true)
                    have HO3 := Lib.hid (HO.out.keep (w' := wq.setCell ⟨G9, p1 * 12 + p0, none⟩ (.bool true)) (fun j hj => by have h1 := HO.out.base j hj; rw [Below.heap_setCell _ _ _ _ (show j ≠ _ by simp; omega)]))
                    have HY3 := Lib.hid (HY.out.keep (w' := wq.setCell ⟨G9, p1 * 12 + p0, none⟩ (.bool true)) (fun j hj => by have h1 := HY.out.base j hj; rw [Below.heap_setCell _ _ _ _ (show j ≠ _ by simp; omega)]))
                    clear HX HO HY c0 c1 tD fD
                    generalize hws : wq.setCell ⟨G9, p1 * 12 + p0, none⟩ (.bool true) = ws at *
                    rw [← idxT_nat] at HX3
                    obtain ⟨A5, cap5, hvv, -, -, hcell⟩ := (HY3.out.sl Cell.c_len).cell
                    obtain ⟨e7, rfl⟩ : some (⟨b2, o2, none⟩ : Addr) = A5 ∧ cap4 = cap5 := by injection hvv with e1 e2 e3; exact ⟨e1, e3⟩
                    subst e7
                    obtain ⟨b3, o3, hA3, hbb3, c0, c1⟩ := hcell j hjl
                    obtain ⟨rfl, rfl⟩ : b2 = b3 ∧ o2 = o3 := by injection hA3 with e; injection e with e1 e2; exact ⟨e1, e2⟩
                    rw [hdeH.out] at c0 c1
                    clear hcell hvv hA3 hws
                    have hQ1 := hQl
                    have HXd := Lib.hid (HX3.out.at_ (y := ws.drew) rfl rfl rfl rfl)
                    have HOd := Lib.hid (own_atS (w' := ws.drew) HO3.out rfl)
                    have HYd := Lib.hid (own_atS (w' := ws.drew) HY3.out rfl)
                    replace c0 : ws.drew.cell? ⟨b2, o2 + j * 2, none⟩ = some (.int .i8 (p0 : Int)) := c0
                    replace c1 : ws.drew.cell? ⟨b2, o2 + j * 2 + 1, none⟩ = some (.int .i8 (p1 : Int)) := c1
                    clear HX3 HO3 HY3
                    generalize ws.drew = wd at *
                    have hB9 := Lib.hid (show G9 + 1 ≤ (wd.alloc (.cells #[.int .i8 (p0 : Int), .int .i8 (p1 : Int)] 36)).heap.size from Nat.le_trans HXd.out.tab.lt ((Below.refl _ _).alloc (Nat.le_refl _) _).size)
                    go_wp2_with (at_builtin; refine push_cellat rfl _ _ rfl (G9 + 1) Q _ rfl (HOd.out.alloc _) _ ⟨(p0 : Int), (p1 : Int)⟩ rfl (Bk.new _ _ _ _ rfl) (by omega) hB9.out ?_)
                    intro v10 w10 hO10 hG10 hat10
                    have HX10 := Lib.hid ((HXd.out.alloc (.cells #[.int .i8 (p0 : Int), .int .i8 (p1 : Int)] 36)).grown hG10 (fun j hj => by have := HOd.out.base j hj; omega))
                    have HO10 := Lib.hid hO10
                    have HY10 := Lib.hid ((HYd.out.alloc (.cells #[.int .i8 (p0 : Int), .int .i8 (p1 : Int)] 36)).grownOb hG10 (fun j hj e => HD.out j hj e.symm))
                    have HD10 := Lib.hid (show DisS (.slice (some ⟨b2, o2, none⟩) ys.length cap4) v10 from fun j h1 h2 => by
                      rcases hat10 with e | e
                      · rw [h2] at e
                        exact HD.out j h1 e.symm
                      · have h3 := HYd.out.lt j h1
                        have h4 : (wd.alloc (.cells #[.int .i8 (p0 : Int), .int .i8 (p1 : Int)] 36)).heap.size = wd.heap.size + 1 := by simp
                        rw [h2] at e
                        injection e with e
                        first | omega | (rw [h4] at e; omega))
                    have hL3 := Lib.hid (show (L.set (idxT ⟨(p0 : Int), (p1 : Int)⟩) true).length = 144 from by rw [List.length_set]; exact hL.out)
                    clear hO10 hG10 hat10 c0 c1
                    go_wp2_with fail
                    go_roundw
                    case rel => exact ⟨j + 1, _, _, by omega, by go_num, hL3.out, HN.out, HD10.out, HO10.out, HY10.out, HX10.out⟩
                    case measure => first | (simp [intOf]; done) | (simp [intOf]; omega)
                · have hd2 : decide (cd ∈ out) = false := decide_eq_false hmem
                  have hneg : ¬ cd < 0 := of_decide_eq_false hd1
                  have HN := Lib.hid (hskip.out (fun h => (h.elim hneg hmem).elim))
                  rw [hd2] at qh1
                  clear hmem hskip hput hneg
                  go_wp2_with fail
                  go_quiet (fail)
                  go_wp2_with fail
                  have hS : CmB b2 (o2 + j * 2) G9 (p1 * 12 + p0) ⟨(p0 : Int), (p1 : Int)⟩ false wr := ⟨c0, c1, tD⟩
                  refine wp_region_held_drew (S := (CmB b2 (o2 + j * 2) G9 (p1 * 12 + p0) ⟨(p0 : Int), (p1 : Int)⟩ false)) (by kernel_rfl) ?r6_hS0 (fun hHeld => ?r6_rest)
                  case r6_hS0 => (try dsimp only); first | assumption | exact hS
                  refine wpAnyH_take (i := 0) (v := ?r6_vv0) (by (simp only [List.getElem?_toArray, List.getElem?_cons_succ, List.getElem?_cons_zero]; rfl)) (by kernel_rfl) (by kernel_rfl) (by kernel_rfl) (by exact fun _ _ _ h => h) (Or.inl ⟨by rfl, ?r6_hy0⟩) (by assumption) ?r6_rest0
                  case r6_hy0 => intro w hSw; (try dsimp only at hSw); (go_simp <;> (with_reducible rfl))
                  try simp only [Act.put, List.setIfInBounds_toArray, List.set_cons_zero, List.set_cons_succ]
                  refine wpAnyH_take (i := 1) (v := ?r6_vv1) (by (simp only [List.getElem?_toArray, List.getElem?_cons_succ, List.getElem?_cons_zero]; rfl)) (by kernel_rfl) (by kernel_rfl) (by kernel_rfl) (by exact fun _ _ _ h => h) (Or.inl ⟨by rfl, ?r6_hy1⟩) (by assumption) ?r6_rest1
                  case r6_hy1 => intro w hSw; (try dsimp only at hSw); (go_simp <;> (with_reducible rfl))
                  try simp only [Act.put, List.setIfInBounds_toArray, List.set_cons_zero, List.set_cons_succ]
                  refine wpAnyH_take (i := 2) (v := ?r6_vv2) (by (simp only [List.getElem?_toArray, List.getElem?_cons_succ, List.getElem?_cons_zero]; rfl)) (by kernel_rfl) (by kernel_rfl) (by kernel_rfl) (by exact fun _ _ _ h => h) (Or.inl ⟨by rfl, ?r6_hy2⟩) (by assumption) ?r6_rest2
                  case r6_hy2 => intro w hSw; (try dsimp only at hSw); (go_simp <;> (with_reducible rfl))
                  try simp only [Act.put, List.setIfInBounds_toArray, List.set_cons_zero, List.set_cons_succ]
                  refine wpAnyH_take (i := 3) (v := ?r6_vv3) (by (simp only [List.getElem?_toArray, List.getElem?_cons_succ, List.getElem?_cons_zero]; rfl)) (by kernel_rfl) (by kernel_rfl) (by kernel_rfl) (by exact fun _ _ _ h => h) (Or.inl ⟨by rfl, ?r6_hy3⟩) (by assumption) ?r6_rest3
                  case r6_hy3 => intro w hSw; (try dsimp only at hSw); (go_simp <;> (with_reducible rfl))
                  try simp only [Act.put, List.setIfInBounds_toArray, List.set_cons_zero, List.set_cons_succ]
                  refine wpAnyH_take (i := 4) (v := ?r6_vv4) (by (simp only [List.getElem?_toArray, List.getElem?_cons_succ, List.getElem?_cons_zero]; rfl)) (by kernel_rfl) (by kernel_rfl) (by kernel_rfl) (by exact fun _ _ _ h => h) (Or.inl ⟨by rfl, ?r6_hy4⟩) (by assumption) ?r6_rest4
                  case r6_hy4 => intro w hSw; (try dsimp only at hSw); (go_simp <;> (with_reducible rfl))
                  try simp only [Act.put, List.setIfInBounds_toArray, List.set_cons_zero, List.set_cons_succ]
                  refine wpAnyH_ready (rs := [5]) (by kernel_rfl) (by simp) ?_
                  refine AllReadyH.cons (by (simp only [List.getElem?_toArray, List.getElem?_cons_succ, List.getElem?_cons_zero]; rfl)) (fun K hK => ?_) AllReadyH.nil
                  go_simp
                  (go_at_call 82; (with_reducible refine (qh1.out _ (drewNS_heap _ _)).mono ?_); rintro e w11 ⟨rfl, rfl⟩)
                  try go_wp2_with fail
                  refine hK.out _ _ ?r6_hS5 (fun hHeld => ?r6_r5)
                  case r6_hS5 => (try dsimp only); first | assumption | exact hS
                  clear hK K
                  try simp only [Act.put, List.setIfInBounds_toArray, List.set_cons_zero, List.set_cons_succ]
                  refine wpAnyH_take (i := 6) (v := ?r6_vv6) (by (simp only [List.getElem?_toArray, List.getElem?_cons_succ, List.getElem?_cons_zero]; rfl)) (by kernel_rfl) (by kernel_rfl) (by kernel_rfl) (by exact fun _ _ _ h => h) (Or.inl ⟨by rfl, ?r6_hy6⟩) (by assumption) ?r6_rest6
                  case r6_hy6 => intro w hSw; (try dsimp only at hSw); (go_simp <;> (with_reducible rfl))
                  try simp only [Act.put, List.setIfInBounds_toArray, List.set_cons_zero, List.set_cons_succ]
                  refine wpAnyH_take (i := 7) (v := ?r6_vv7) (by (simp only [List.getElem?_toArray, List.getElem?_cons_succ, List.getElem?_cons_zero]; rfl)) (by kernel_rfl) (by kernel_rfl) (by kernel_rfl) (by exact fun _ _ _ h => h) (Or.inl ⟨by rfl, ?r6_hy7⟩) (by assumption) ?r6_rest7
                  case r6_hy7 => intro w hSw; (try dsimp only at hSw); (go_simp <;> (with_reducible rfl))
                  try simp only [Act.put, List.setIfInBounds_toArray, List.set_cons_zero, List.set_cons_succ]
                  refine wpAnyH_take (i := 8) (v := undef) (by (simp only [List.getElem?_toArray, List.getElem?_cons_succ, List.getElem?_cons_zero]; rfl)) (by kernel_rfl) (by kernel_rfl) (by kernel_rfl) (by exact fun _ _ _ h => h) (Or.inr ⟨by rfl, rfl⟩) (by assumption) ?_
                  try simp only [Act.put, List.setIfInBounds_toArray, List.set_cons_zero, List.set_cons_succ]
                  refine wpAnyH_take (i := 9) (v := undef) (by (simp only [List.getElem?_toArray, List.getElem?_cons_succ, List.getElem?_cons_zero]; rfl)) (by kernel_rfl) (by kernel_rfl) (by kernel_rfl) (by exact fun _ _ _ h => h) (Or.inr ⟨by rfl, rfl⟩) (by assumption) ?_
                  try simp only [Act.put, List.setIfInBounds_toArray, List.set_cons_zero, List.set_cons_succ]
                  refine wpAnyH_take (i := 10) (v := undef) (by (simp only [List.getElem?_toArray, List.getElem?_cons_succ, List.getElem?_cons_zero]; rfl)) (by kernel_rfl) (by kernel_rfl) (by kernel_rfl) (by exact fun _ _ _ h => h) (Or.inr ⟨by rfl, rfl⟩) (by assumption) ?_
                  try simp only [Act.put, List.setIfInBounds_toArray, List.set_cons_zero, List.set_cons_succ]
                  refine wpAnyH_take (i := 11) (v := undef) (by (simp only [List.getElem?_toArray, List.getElem?_cons_succ, List.getElem?_cons_zero]; rfl)) (by kernel_rfl) (by kernel_rfl) (by kernel_rfl) (by exact fun _ _ _ h => h) (Or.inr ⟨by rfl, rfl⟩) (by assumption) ?_
                  try simp only [Act.put, List.setIfInBounds_toArray, List.set_cons_zero, List.set_cons_succ]
                  refine wpAnyH_take (i := 12) (v := undef) (by (simp only [List.getElem?_toArray, List.getElem?_cons_succ, List.getElem?_cons_zero]; rfl)) (by kernel_rfl) (by kernel_rfl) (by kernel_rfl) (by exact fun _ _ _ h => h) (Or.inr ⟨by rfl, rfl⟩) (by assumption) ?_
                  try simp only [Act.put, List.setIfInBounds_toArray, List.set_cons_zero, List.set_cons_succ]
                  refine wpAnyH_take (i := 13) (v := undef) (by (simp only [List.getElem?_toArray, List.getElem?_cons_succ, List.getElem?_cons_zero]; rfl)) (by kernel_rfl) (by kernel_rfl) (by kernel_rfl) (by exact fun _ _ _ h => h) (Or.inr ⟨by rfl, rfl⟩) (by assumption) ?_
                  try simp only [Act.put, List.setIfInBounds_toArray, List.set_cons_zero, List.set_cons_succ]
                  refine wpAnyH_take (i := 14) (v := undef) (by (simp only [List.getElem?_toArray, List.getElem?_cons_succ, List.getElem?_cons_zero]; rfl)) (by kernel_rfl) (by kernel_rfl) (by kernel_rfl) (by exact fun _ _ _ h => h) (Or.inr ⟨by rfl, rfl⟩) (by assumption) ?_
                  try simp only [Act.put, List.setIfInBounds_toArray, List.set_cons_zero, List.set_cons_succ]
                  refine wpAnyH_take (i := 15) (v := undef) (by (simp only [List.getElem?_toArray, List.getElem?_cons_succ, List.getElem?_cons_zero]; rfl)) (by kernel_rfl) (by kernel_rfl) (by kernel_rfl) (by exact fun _ _ _ h => h) (Or.inr ⟨by rfl, rfl⟩) (by assumption) ?_
                  try simp only [Act.put, List.setIfInBounds_toArray, List.set_cons_zero, List.set_cons_succ]
                  refine wpAnyH_take (i := 16) (v := undef) (by (simp only [List.getElem?_toArray, List.getElem?_cons_succ, List.getElem?_cons_zero]; rfl)) (by kernel_rfl) (by kernel_rfl) (by kernel_rfl) (by exact fun _ _ _ h => h) (Or.inr ⟨by rfl, rfl⟩) (by assumption) ?_
                  try simp only [Act.put, List.setIfInBounds_toArray, List.set_cons_zero, List.set_cons_succ]
                  refine wpAnyH_take (i := 17) (v := undef) (by (simp only [List.getElem?_toArray, List.getElem?_cons_succ, List.getElem?_cons_zero]; rfl)) (by kernel_rfl) (by kernel_rfl) (by kernel_rfl) (by exact fun _ _ _ h => h) (Or.inr ⟨by rfl, rfl⟩) (by assumption) ?_
                  try simp only [Act.put, List.setIfInBounds_toArray, List.set_cons_zero, List.set_cons_succ]
                  refine wpAnyH_take (i := 18) (v := undef) (by (simp only [List.getElem?_toArray, List.getElem?_cons_succ, List.getElem?_cons_zero]; rfl)) (by kernel_rfl) (by kernel_rfl) (by kernel_rfl) (by exact fun _ _ _ h => h) (Or.inr ⟨by rfl, rfl⟩) (by assumption) ?_
                  try simp only [Act.put, List.setIfInBounds_toArray, List.set_cons_zero, List.set_cons_succ]
                  refine wpAnyH_take (i := 19) (v := undef) (by (simp only [List.getElem?_toArray, List.getElem?_cons_succ, List.getElem?_cons_zero]; rfl)) (by kernel_rfl) (by kernel_rfl) (by kernel_rfl) (by exact fun _ _ _ h => h) (Or.inr ⟨by rfl, rfl⟩) (by assumption) ?_
                  try simp only [Act.put, List.setIfInBounds_toArray, List.set_cons_zero, List.set_cons_succ]
                  refine wpAnyH_take (i := 20) (v := undef) (by (simp only [List.getElem?_toArray, List.getElem?_cons_succ, List.getElem?_cons_zero]; rfl)) (by kernel_rfl) (by kernel_rfl) (by kernel_rfl) (by exact fun _ _ _ h => h) (Or.inr ⟨by rfl, rfl⟩) (by assumption) ?_
                  try simp only [Act.put, List.setIfInBounds_toArray, List.set_cons_zero, List.set_cons_succ]
                  refine wpAnyH_take (i := 21) (v := undef) (by (simp only [List.getElem?_toArray, List.getElem?_cons_succ, List.getElem?_cons_zero]; rfl)) (by kernel_rfl) (by kernel_rfl) (by kernel_rfl) (by exact fun _ _ _ h => h) (Or.inr ⟨by rfl, rfl⟩) (by assumption) ?_
                  try simp only [Act.put, List.setIfInBounds_toArray, List.set_cons_zero, List.set_cons_succ]
                  refine wpAnyH_take (i := 22) (v := ?r6_vv22) (by (simp only [List.getElem?_toArray, List.getElem?_cons_succ, List.getElem?_cons_zero]; rfl)) (by kernel_rfl) (by kernel_rfl) (by kernel_rfl) (by exact fun _ _ _ h => h) (Or.inl ⟨by rfl, ?r6_hy22⟩) (by assumption) ?r6_rest22
                  case r6_hy22 => intro w hSw; (try dsimp only at hSw); (go_simp <;> (with_reducible rfl))
                  try simp only [Act.put, List.setIfInBounds_toArray, List.set_cons_zero, List.set_cons_succ]
                  refine wpAnyH_done (by kernel_rfl) ?_ _
                  go_wp2_with fail
                  go_roundw
                  case rel => exact ⟨j + 1, Q, L, by omega, by go_num, hL.out, HN.out, HD.out, own_atS HO.out rfl, own_atS HY.out rfl, HX.out.at_ rfl rfl rfl rfl⟩
                  case measure => first | (simp [intOf]; done) | (simp [intOf]; omega)
            · have HN := Lib.hid (hskip.out (fun _ => hkey.out.1 hbd))
              rw [hbd] at tD
              clear hkey hbd hskip hput
              by_cases hneg : cd < 0
              · have hd1 : decide (cd < 0) = true := decide_eq_true hneg
                clear hneg
                go_wp2_with fail
                go_quiet (fail)
                go_wp2_with fail
                have hS : CmB b2 (o2 + j * 2) G9 (p1 * 12 + p0) ⟨(p0 : Int), (p1 : Int)⟩ true wr := ⟨c0, c1, tD⟩
                refine wp_region_held_drew (S := (CmB b2 (o2 + j * 2) G9 (p1 * 12 + p0) ⟨(p0 : Int), (p1 : Int)⟩ true)) (by kernel_rfl) ?r7_hS0 (fun hHeld => ?r7_rest)
                case r7_hS0 => (try dsimp only); first | assumption | exact hS
                refine wpAnyH_take (i := 0) (v := ?r7_vv0) (by (simp only [List.getElem?_toArray, List.getElem?_cons_succ, List.getElem?_cons_zero]; rfl)) (by kernel_rfl) (by kernel_rfl) (by kernel_rfl) (by exact fun _ _ _ h => h) (Or.inl ⟨by rfl, ?r7_hy0⟩) (by assumption) ?r7_rest0
                case r7_hy0 => intro w hSw; (try dsimp only at hSw); (go_simp <;> (with_reducible rfl))
                try simp only [Act.put, List.setIfInBounds_toArray, List.set_cons_zero, List.set_cons_succ]
                refine wpAnyH_take (i := 1) (v := ?r7_vv1) (by (simp only [List.getElem?_toArray, List.getElem?_cons_succ, List.getElem?_cons_zero]; rfl)) (by kernel_rfl) (by kernel_rfl) (by kernel_rfl) (by exact fun _ _ _ h => h) (Or.inl ⟨by rfl, ?r7_hy1⟩) (by assumption) ?r7_rest1
                case r7_hy1 => intro w hSw; (try dsimp only at hSw); (go_simp <;> (with_reducible rfl))
                try simp only [Act.put, List.setIfInBounds_toArray, List.set_cons_zero, List.set_cons_succ]
                refine wpAnyH_take (i := 2) (v := ?r7_vv2) (by (simp only [List.getElem?_toArray, List.getElem?_cons_succ, List.getElem?_cons_zero]; rfl)) (by kernel_rfl) (by kernel_rfl) (by kernel_rfl) (by exact fun _ _ _ h => h) (Or.inl ⟨by rfl, ?r7_hy2⟩) (by assumption) ?r7_rest2
                case r7_hy2 => intro w hSw; (try dsimp only at hSw); (go_simp <;> (with_reducible rfl))
                try simp only [Act.put, List.setIfInBounds_toArray, List.set_cons_zero, List.set_cons_succ]
                refine wpAnyH_take (i := 3) (v := undef) (by (simp only [List.getElem?_toArray, List.getElem?_cons_succ, List.getElem?_cons_zero]; rfl)) (by kernel_rfl) (by kernel_rfl) (by kernel_rfl) (by exact fun _ _ _ h => h) (Or.inr ⟨by rfl, rfl⟩) (by assumption) ?_
                try simp only [Act.put, List.setIfInBounds_toArray, List.set_cons_zero, List.set_cons_succ]
                refine wpAnyH_take (i := 4) (v := undef) (by (simp only [List.getElem?_toArray, List.getElem?_cons_succ, List.getElem?_cons_zero]; rfl)) (by kernel_rfl) (by kernel_rfl) (by kernel_rfl) (by exact fun _ _ _ h => h) (Or.inr ⟨by rfl, rfl⟩) (by assumption) ?_
                try simp only [Act.put, List.setIfInBounds_toArray, List.set_cons_zero, List.set_cons_succ]
                refine wpAnyH_take (i := 5) (v := undef) (by (simp only [List.getElem?_toArray, List.getElem?_cons_succ, List.getElem?_cons_zero]; rfl)) (by kernel_rfl) (by kernel_rfl) (by kernel_rfl) (by exact fun _ _ _ h => h) (Or.inr ⟨by rfl, rfl⟩) (by assumption) ?_
                try simp only [Act.put, List.setIfInBounds_toArray, List.set_cons_zero, List.set_cons_succ]
                refine wpAnyH_take (i := 6) (v := ?r7_vv6) (by (simp only [List.getElem?_toArray, List.getElem?_cons_succ, List.getElem?_cons_zero]; rfl)) (by kernel_rfl) (by kernel_rfl) (by kernel_rfl) (by exact fun _ _ _ h => h) (Or.inl ⟨by rfl, ?r7_hy6⟩) (by assumption) ?r7_rest6
                case r7_hy6 => intro w hSw; (try dsimp only at hSw); (go_simp <;> (with_reducible rfl))
                try simp only [Act.put, List.setIfInBounds_toArray, List.set_cons_zero, List.set_cons_succ]
                refine wpAnyH_take (i := 7) (v := ?r7_vv7) (by (simp only [List.getElem?_toArray, List.getElem?_cons_succ, List.getElem?_cons_zero]; rfl)) (by kernel_rfl) (by kernel_rfl) (by kernel_rfl) (by exact fun _ _ _ h => h) (Or.inl ⟨by rfl, ?r7_hy7⟩) (by assumption) ?r7_rest7
                case r7_hy7 => intro w hSw; (try dsimp only at hSw); (go_simp <;> (with_reducible rfl))
                try simp only [Act.put, List.setIfInBounds_toArray, List.set_cons_zero, List.set_cons_succ]
                refine wpAnyH_take (i := 8) (v := ?r7_vv8) (by (simp only [List.getElem?_toArray, List.getElem?_cons_succ, List.getElem?_cons_zero]; rfl)) (by kernel_rfl) (by kernel_rfl) (by kernel_rfl) (by exact fun _ _ _ h => h) (Or.inl ⟨by rfl, ?r7_hy8⟩) (by assumption) ?r7_rest8
                case r7_hy8 => intro w hSw; (try dsimp only at hSw); (go_simp <;> (with_reducible rfl))
                try simp only [Act.put, List.setIfInBounds_toArray, List.set_cons_zero, List.set_cons_succ]
                refine wpAnyH_take (i := 9) (v := ?r7_vv9) (by (simp only [List.getElem?_toArray, List.getElem?_cons_succ, List.getElem?_cons_zero]; rfl)) (by kernel_rfl) (by kernel_rfl) (by kernel_rfl) (by exact fun _ _ _ h => h) (Or.inl ⟨by rfl, ?r7_hy9⟩) (by assumption) ?r7_rest9
                case r7_hy9 => intro w hSw; (try dsimp only at hSw); (go_simp <;> (with_reducible rfl))
                try simp only [Act.put, List.setIfInBounds_toArray, List.set_cons_zero, List.set_cons_succ]
                refine wpAnyH_take (i := 10) (v := ?r7_vv10) (by (simp only [List.getElem?_toArray, List.getElem?_cons_succ, List.getElem?_cons_zero]; rfl)) (by kernel_rfl) (by kernel_rfl) (by kernel_rfl) (by exact fun _ _ _ h => h) (Or.inl ⟨by rfl, ?r7_hy10⟩) (by assumption) ?r7_rest10
                case r7_hy10 => intro w hSw; (try dsimp only at hSw); (go_simp <;> (with_reducible rfl))
                try simp only [Act.put, List.setIfInBounds_toArray, List.set_cons_zero, List.set_cons_succ]
                refine wpAnyH_take (i := 11) (v := ?r7_vv11) (by (simp only [List.getElem?_toArray, List.getElem?_cons_succ, List.getElem?_cons_zero]; rfl)) (by kernel_rfl) (by kernel_rfl) (by kernel_rfl) (by exact fun _ _ _ h => h) (Or.inl ⟨by rfl, ?r7_hy11⟩) (by assumption) ?r7_rest11
                case r7_hy11 => intro w hSw; (try dsimp only at hSw); (go_simp <;> (with_reducible rfl))
                try simp only [Act.put, List.setIfInBounds_toArray, List.set_cons_zero, List.set_cons_succ]
                refine wpAnyH_take (i := 12) (v := ?r7_vv12) (by (simp only [List.getElem?_toArray, List.getElem?_cons_succ, List.getElem?_cons_zero]; rfl)) (by kernel_rfl) (by kernel_rfl) (by kernel_rfl) (by exact fun _ _ _ h => h) (Or.inl ⟨by rfl, ?r7_hy12⟩) (by assumption) ?r7_rest12
                case r7_hy12 => intro w hSw; (try dsimp only at hSw); (go_simp <;> (with_reducible rfl))
                try simp only [Act.put, List.setIfInBounds_toArray, List.set_cons_zero, List.set_cons_succ]
                refine wpAnyH_take (i := 13) (v := ?r7_vv13) (by (simp only [List.getElem?_toArray, List.getElem?_cons_succ, List.getElem?_cons_zero]; rfl)) (by kernel_rfl) (by kernel_rfl) (by kernel_rfl) (by exact fun _ _ _ h => h) (Or.inl ⟨by rfl, ?r7_hy13⟩) (by assumption) ?r7_rest13
                case r7_hy13 => intro w hSw; (try dsimp only at hSw); (go_simp <;> (with_reducible rfl))
                try simp only [Act.put, List.setIfInBounds_toArray, List.set_cons_zero, List.set_cons_succ]
                refine wpAnyH_take (i := 14) (v := ?r7_vv14) (by (simp only [List.getElem?_toArray, List.getElem?_cons_succ, List.getElem?_cons_zero]; rfl)) (by kernel_rfl) (by kernel_rfl) (by kernel_rfl) (by exact fun _ _ _ h => h) (Or.inl ⟨by rfl, ?r7_hy14⟩) (by assumption) ?r7_rest14
                case r7_hy14 => intro w hSw; (try dsimp only at hSw); (go_simp <;> (with_reducible rfl))
                try simp only [Act.put, List.setIfInBounds_toArray, List.set_cons_zero, List.set_cons_succ]
                refine wpAnyH_take (i := 15) (v := ?r7_vv15) (by (simp only [List.getElem?_toArray, List.getElem?_cons_succ, List.getElem?_cons_zero]; rfl)) (by kernel_rfl) (by kernel_rfl) (by kernel_rfl) (by exact fun _ _ _ h => h) (Or.inl ⟨by rfl, ?r7_hy15⟩) (by assumption) ?r7_rest15
                case r7_hy15 => intro w hSw; (try dsimp only at hSw); (go_simp <;> (with_reducible rfl))
                try simp only [Act.put, List.setIfInBounds_toArray, List.set_cons_zero, List.set_cons_succ]
                refine wpAnyH_take (i := 16) (v := ?r7_vv16) (by (simp only [List.getElem?_toArray, List.getElem?_cons_succ, List.getElem?_cons_zero]; rfl)) (by kernel_rfl) (by kernel_rfl) (by kernel_rfl) (by exact fun _ _ _ h => h) (Or.inl ⟨by rfl, ?r7_hy16⟩) (by assumption) ?r7_rest16
                case r7_hy16 => intro w hSw; (try dsimp only at hSw); (go_simp <;> (with_reducible rfl))
                try simp only [Act.put, List.setIfInBounds_toArray, List.set_cons_zero, List.set_cons_succ]
                refine wpAnyH_take (i := 17) (v := ?r7_vv17) (by (simp only [List.getElem?_toArray, List.getElem?_cons_succ, List.getElem?_cons_zero]; rfl)) (by kernel_rfl) (by kernel_rfl) (by kernel_rfl) (by exact fun _ _ _ h => h) (Or.inl ⟨by rfl, ?r7_hy17⟩) (by assumption) ?r7_rest17
                case r7_hy17 => intro w hSw; (try dsimp only at hSw); (go_simp <;> (with_reducible rfl))
                try simp only [Act.put, List.setIfInBounds_toArray, List.set_cons_zero, List.set_cons_succ]
                refine wpAnyH_take (i := 18) (v := ?r7_vv18) (by (simp only [List.getElem?_toArray, List.getElem?_cons_succ, List.getElem?_cons_zero]; rfl)) (by kernel_rfl) (by kernel_rfl) (by kernel_rfl) (by exact fun _ _ _ h => h) (Or.inl ⟨by rfl, ?r7_hy18⟩) (by assumption) ?r7_rest18
                case r7_hy18 => intro w hSw; (try dsimp only at hSw); (go_simp <;> (with_reducible rfl))
                try simp only [Act.put, List.setIfInBounds_toArray, List.set_cons_zero, List.set_cons_succ]
                refine wpAnyH_take (i := 19) (v := ?r7_vv19) (by (simp only [List.getElem?_toArray, List.getElem?_cons_succ, List.getElem?_cons_zero]; rfl)) (by kernel_rfl) (by kernel_rfl) (by kernel_rfl) (by exact fun _ _ _ h => h) (Or.inl ⟨by rfl, ?r7_hy19⟩) (by assumption) ?r7_rest19
                case r7_hy19 => intro w hSw; (try dsimp only at hSw); (go_simp <;> (with_reducible rfl))
                try simp only [Act.put, List.setIfInBounds_toArray, List.set_cons_zero, List.set_cons_succ]
                refine wpAnyH_take (i := 20) (v := ?r7_vv20) (by (simp only [List.getElem?_toArray, List.getElem?_cons_succ, List.getElem?_cons_zero]; rfl)) (by kernel_rfl) (by kernel_rfl) (by kernel_rfl) (by exact fun _ _ _ h => h) (Or.inl ⟨by rfl, ?r7_hy20⟩) (by assumption) ?r7_rest20
                case r7_hy20 => intro w hSw; (try dsimp only at hSw); (go_simp <;> (with_reducible rfl))
                try simp only [Act.put, List.setIfInBounds_toArray, List.set_cons_zero, List.set_cons_succ]
                refine wpAnyH_take (i := 21) (v := ?r7_vv21) (by (simp only [List.getElem?_toArray, List.getElem?_cons_succ, List.getElem?_cons_zero]; rfl)) (by kernel_rfl) (by kernel_rfl) (by kernel_rfl) (by exact fun _ _ _ h => h) (Or.inl ⟨by rfl, ?r7_hy21⟩) (by assumption) ?r7_rest21
                case r7_hy21 => intro w hSw; (try dsimp only at hSw); (go_simp <;> (with_reducible rfl))
                try simp only [Act.put, List.setIfInBounds_toArray, List.set_cons_zero, List.set_cons_succ]
                refine wpAnyH_take (i := 22) (v := ?r7_vv22) (by (simp only [List.getElem?_toArray, List.getElem?_cons_succ, List.getElem?_cons_zero]; rfl)) (by kernel_rfl) (by kernel_rfl) (by kernel_rfl) (by exact fun _ _ _ h => h) (Or.inl ⟨by rfl, ?r7_hy22⟩) (by assumption) ?r7_rest22
                case r7_hy22 => intro w hSw; (try dsimp only at hSw); (go_simp <;> (with_reducible rfl))
                try simp only [Act.put, List.setIfInBounds_toArray, List.set_cons_zero, List.set_cons_succ]
                refine wpAnyH_done (by kernel_rfl) ?_ _
                go_wp2_with fail
                go_roundw
                case rel => exact ⟨j + 1, Q, L, by omega, by go_num, hL.out, HN.out, HD.out, own_atS HO.out rfl, own_atS HY.out rfl, HX.out.at_ rfl rfl rfl rfl⟩
                case measure => first | (simp [intOf]; done) | (simp [intOf]; omega)
              · have hd1 : decide (cd < 0) = false := decide_eq_false hneg
                clear hneg
                by_cases hmem : cd ∈ out
                · have hd2 : decide (cd ∈ out) = true := decide_eq_true hmem
                  rw [hd2] at qh1
                  clear hmem
                  go_wp2_with fail
                  go_quiet (fail)
                  go_wp2_with fail
                  have hS : CmB b2 (o2 + j * 2) G9 (p1 * 12 + p0) ⟨(p0 : Int), (p1 : Int)⟩ true wr := ⟨c0, c1, tD⟩
                  refine wp_region_held_drew (S := (CmB b2 (o2 + j * 2) G9 (p1 * 12 + p0) ⟨(p0 : Int), (p1 : Int)⟩ true)) (by kernel_rfl) ?r8_hS0 (fun hHeld => ?r8_rest)
                  case r8_hS0 => (try dsimp only); first | assumption | exact hS
                  refine wpAnyH_take (i := 0) (v := ?r8_vv0) (by (simp only [List.getElem?_toArray, List.getElem?_cons_succ, List.getElem?_cons_zero]; rfl)) (by kernel_rfl) (by kernel_rfl) (by kernel_rfl) (by exact fun _ _ _ h => h) (Or.inl ⟨by rfl, ?r8_hy0⟩) (by assumption) ?r8_rest0
                  case r8_hy0 => intro w hSw; (try dsimp only at hSw); (go_simp <;> (with_reducible rfl))
                  try simp only [Act.put, List.setIfInBounds_toArray, List.set_cons_zero, List.set_cons_succ]
                  refine wpAnyH_take (i := 1) (v := ?r8_vv1) (by (simp only [List.getElem?_toArray, List.getElem?_cons_succ, List.getElem?_cons_zero]; rfl)) (by kernel_rfl) (by kernel_rfl) (by kernel_rfl) (by exact fun _ _ _ h => h) (Or.inl ⟨by rfl, ?r8_hy1⟩) (by assumption) ?r8_rest1
                  case r8_hy1 => intro w hSw; (try dsimp only at hSw); (go_simp <;> (with_reducible rfl))
                  try simp only [Act.put, List.setIfInBounds_toArray, List.set_cons_zero, List.set_cons_succ]
                  refine wpAnyH_take (i := 2) (v := ?r8_vv2) (by (simp only [List.getElem?_toArray, List.getElem?_cons_succ, List.getElem?_cons_zero]; rfl)) (by kernel_rfl) (by kernel_rfl) (by kernel_rfl) (by exact fun _ _ _ h => h) (Or.inl ⟨by rfl, ?r8_hy2⟩) (by assumption) ?r8_rest2
                  case r8_hy2 => intro w hSw; (try dsimp only at hSw); (go_simp <;> (with_reducible rfl))
                  try simp only [Act.put, List.setIfInBounds_toArray, List.set_cons_zero, List.set_cons_succ]
                  refine wpAnyH_take (i := 3) (v := ?r8_vv3) (by (simp only [List.getElem?_toArray, List.getElem?_cons_succ, List.getElem?_cons_zero]; rfl)) (by kernel_rfl) (by kernel_rfl) (by kernel_rfl) (by exact fun _ _ _ h => h) (Or.inl ⟨by rfl, ?r8_hy3⟩) (by assumption) ?r8_rest3
                  case r8_hy3 => intro w hSw; (try dsimp only at hSw); (go_simp <;> (with_reducible rfl))
                  try simp only [Act.put, List.setIfInBounds_toArray, List.set_cons_zero, List.set_cons_succ]
                  refine wpAnyH_take (i := 4) (v := ?r8_vv4) (by (simp only [List.getElem?_toArray, List.getElem?_cons_succ, List.getElem?_cons_zero]; rfl)) (by kernel_rfl) (by kernel_rfl) (by kernel_rfl) (by exact fun _ _ _ h => h) (Or.inl ⟨by rfl, ?r8_hy4⟩) (by assumption) ?r8_rest4
                  case r8_hy4 => intro w hSw; (try dsimp only at hSw); (go_simp <;> (with_reducible rfl))
                  try simp only [Act.put, List.setIfInBounds_toArray, List.set_cons_zero, List.set_cons_succ]
                  refine wpAnyH_ready (rs := [5]) (by kernel_rfl) (by simp) ?_
                  refine AllReadyH.cons (by (simp only [List.getElem?_toArray, List.getElem?_cons_succ, List.getElem?_cons_zero]; rfl)) (fun K hK => ?_) AllReadyH.nil
                  go_simp
                  (go_at_call 82; (with_reducible refine (qh1.out _ (drewNS_heap _ _)).mono ?_); rintro e w11 ⟨rfl, rfl⟩)
                  try go_wp2_with fail
                  refine hK.out _ _ ?r8_hS5 (fun hHeld => ?r8_r5)
                  case r8_hS5 => (try dsimp only); first | assumption | exact hS
                  clear hK K
                  try simp only [Act.put, List.setIfInBounds_toArray, List.set_cons_zero, List.set_cons_succ]
                  refine wpAnyH_take (i := 6) (v := ?r8_vv6) (by (simp only [List.getElem?_toArray, List.getElem?_cons_succ, List.getElem?_cons_zero]; rfl)) (by kernel_rfl) (by kernel_rfl) (by kernel_rfl) (by exact fun _ _ _ h => h) (Or.inl ⟨by rfl, ?r8_hy6⟩) (by assumption) ?r8_rest6
                  case r8_hy6 => intro w hSw; (try dsimp only at hSw); (go_simp <;> (with_reducible rfl))
                  try simp only [Act.put, List.setIfInBounds_toArray, List.set_cons_zero, List.set_cons_succ]
                  refine wpAnyH_take (i := 7) (v := ?r8_vv7) (by (simp only [List.getElem?_toArray, List.getElem?_cons_succ, List.getElem?_cons_zero]; rfl)) (by kernel_rfl) (by kernel_rfl) (by kernel_rfl) (by exact fun _ _ _ h => h) (Or.inl ⟨by rfl, ?r8_hy7⟩) (by assumption) ?r8_rest7
                  case r8_hy7 => intro w hSw; (try dsimp only at hSw); (go_simp <;> (with_reducible rfl))
                  try simp only [Act.put, List.setIfInBounds_toArray, List.set_cons_zero, List.set_cons_succ]
                  refine wpAnyH_take (i := 8) (v := ?r8_vv8) (by (simp only [List.getElem?_toArray, List.getElem?_cons_succ, List.getElem?_cons_zero]; rfl)) (by kernel_rfl) (by kernel_rfl) (by kernel_rfl) (by exact fun _ _ _ h => h) (Or.inl ⟨by rfl, ?r8_hy8⟩) (by assumption) ?r8_rest8
                  case r8_hy8 => intro w hSw; (try dsimp only at hSw); (go_simp <;> (with_reducible rfl))
                  try simp only [Act.put, List.setIfInBounds_toArray, List.set_cons_zero, List.set_cons_succ]
                  refine wpAnyH_take (i := 9) (v := ?r8_vv9) (by (simp only [List.getElem?_toArray, List.getElem?_cons_succ, List.getElem?_cons_zero]; rfl)) (by kernel_rfl) (by kernel_rfl) (by kernel_rfl) (by exact fun _ _ _ h => h) (Or.inl ⟨by rfl, ?r8_hy9⟩) (by assumption) ?r8_rest9
                  case r8_hy9 => intro w hSw; (try dsimp only at hSw); (go_simp <;> (with_reducible rfl))
                  try simp only [Act.put, List.setIfInBounds_toArray, List.set_cons_zero, List.set_cons_succ]
                  refine wpAnyH_take (i := 10) (v := ?r8_vv10) (by (simp only [List.getElem?_toArray, List.getElem?_cons_succ, List.getElem?_cons_zero]; rfl)) (by kernel_rfl) (by kernel_rfl) (by kernel_rfl) (by exact fun _ _ _ h => h) (Or.inl ⟨by rfl, ?r8_hy10⟩) (by assumption) ?r8_rest10
                  case r8_hy10 => intro w hSw; (try dsimp only at hSw); (go_simp <;> (with_reducible rfl))
                  try simp only [Act.put, List.setIfInBounds_toArray, List.set_cons_zero, List.set_cons_succ]
                  refine wpAnyH_take (i := 11) (v := ?r8_vv11) (by (simp only [List.getElem?_toArray, List.getElem?_cons_succ, List.getElem?_cons_zero]; rfl)) (by kernel_rfl) (by kernel_rfl) (by kernel_rfl) (by exact fun _ _ _ h => h) (Or.inl ⟨by rfl, ?r8_hy11⟩) (by assumption) ?r8_rest11
                  case r8_hy11 => intro w hSw; (try dsimp only at hSw); (go_simp <;> (with_reducible rfl))
                  try simp only [Act.put, List.setIfInBounds_toArray, List.set_cons_zero, List.set_cons_succ]
                  refine wpAnyH_take (i := 12) (v := ?r8_vv12) (by (simp only [List.getElem?_toArray, List.getElem?_cons_succ, List.getElem?_cons_zero]; rfl)) (by kernel_rfl) (by kernel_rfl) (by kernel_rfl) (by exact fun _ _ _ h => h) (Or.inl ⟨by rfl, ?r8_hy12⟩) (by assumption) ?r8_rest12
                  case r8_hy12 => intro w hSw; (try dsimp only at hSw); (go_simp <;> (with_reducible rfl))
                  try simp only [Act.put, List.setIfInBounds_toArray, List.set_cons_zero, List.set_cons_succ]
                  refine wpAnyH_take (i := 13) (v := ?r8_vv13) (by (simp only [List.getElem?_toArray, List.getElem?_cons_succ, List.getElem?_cons_zero]; rfl)) (by kernel_rfl) (by kernel_rfl) (by kernel_rfl) (by exact fun _ _ _ h => h) (Or.inl ⟨by rfl, ?r8_hy13⟩) (by assumption) ?r8_rest13
                  case r8_hy13 => intro w hSw; (try dsimp only at hSw); (go_simp <;> (with_reducible rfl))
                  try simp only [Act.put, List.setIfInBounds_toArray, List.set_cons_zero, List.set_cons_succ]
                  refine wpAnyH_take (i := 14) (v := ?r8_vv14) (by (simp only [List.getElem?_toArray, List.getElem?_cons_succ, List.getElem?_cons_zero]; rfl)) (by kernel_rfl) (by kernel_rfl) (by kernel_rfl) (by exact fun _ _ _ h => h) (Or.inl ⟨by rfl, ?r8_hy14⟩) (by assumption) ?r8_rest14
                  case r8_hy14 => intro w hSw; (try dsimp only at hSw); (go_simp <;> (with_reducible rfl))
                  try simp only [Act.put, List.setIfInBounds_toArray, List.set_cons_zero, List.set_cons_succ]
                  refine wpAnyH_take (i := 15) (v := ?r8_vv15) (by (simp only [List.getElem?_toArray, List.getElem?_cons_succ, List.getElem?_cons_zero]; rfl)) (by kernel_rfl) (by kernel_rfl) (by kernel_rfl) (by exact fun _ _ _ h => h) (Or.inl ⟨by rfl, ?r8_hy15⟩) (by assumption) ?r8_rest15
                  case r8_hy15 => intro w hSw; (try dsimp only at hSw); (go_simp <;> (with_reducible rfl))
                  try simp only [Act.put, List.setIfInBounds_toArray, List.set_cons_zero, List.set_cons_succ]
                  refine wpAnyH_take (i := 16) (v := ?r8_vv16) (by (simp only [List.getElem?_toArray, List.getElem?_cons_succ, List.getElem?_cons_zero]; rfl)) (by kernel_rfl) (by kernel_rfl) (by kernel_rfl) (by exact fun _ _ _ h => h) (Or.inl ⟨by rfl, ?r8_hy16⟩) (by assumption) ?r8_rest16
                  case r8_hy16 => intro w hSw; (try dsimp only at hSw); (go_simp <;> (with_reducible rfl))
                  try simp only [Act.put, List.setIfInBounds_toArray, List.set_cons_zero, List.set_cons_succ]
                  refine wpAnyH_take (i := 17) (v := ?r8_vv17) (by (simp only [List.getElem?_toArray, List.getElem?_cons_succ, List.getElem?_cons_zero]; rfl)) (by kernel_rfl) (by kernel_rfl) (by kernel_rfl) (by exact fun _ _ _ h => h) (Or.inl ⟨by rfl, ?r8_hy17⟩) (by assumption) ?r8_rest17
                  case r8_hy17 => intro w hSw; (try dsimp only at hSw); (go_simp <;> (with_reducible rfl))
                  try simp only [Act.put, List.setIfInBounds_toArray, List.set_cons_zero, List.set_cons_succ]
                  refine wpAnyH_take (i := 18) (v := ?r8_vv18) (by (simp only [List.getElem?_toArray, List.getElem?_cons_succ, List.getElem?_cons_zero]; rfl)) (by kernel_rfl) (by kernel_rfl) (by kernel_rfl) (by exact fun _ _ _ h => h) (Or.inl ⟨by rfl, ?r8_hy18⟩) (by assumption) ?r8_rest18
                  case r8_hy18 => intro w hSw; (try dsimp only at hSw); (go_simp <;> (with_reducible rfl))
                  try simp only [Act.put, List.setIfInBounds_toArray, List.set_cons_zero, List.set_cons_succ]
                  refine wpAnyH_take (i := 19) (v := ?r8_vv19) (by (simp only [List.getElem?_toArray, List.getElem?_cons_succ, List.getElem?_cons_zero]; rfl)) (by kernel_rfl) (by kernel_rfl) (by kernel_rfl) (by exact fun _ _ _ h => h) (Or.inl ⟨by rfl, ?r8_hy19⟩) (by assumption) ?r8_rest19
                  case r8_hy19 => intro w hSw; (try dsimp only at hSw); (go_simp <;> (with_reducible rfl))
                  try simp only [Act.put, List.setIfInBounds_toArray, List.set_cons_zero, List.set_cons_succ]
                  refine wpAnyH_take (i := 20) (v := ?r8_vv20) (by (simp only [List.getElem?_toArray, List.getElem?_cons_succ, List.getElem?_cons_zero]; rfl)) (by kernel_rfl) (by kernel_rfl) (by kernel_rfl) (by exact fun _ _ _ h => h) (Or.inl ⟨by rfl, ?r8_hy20⟩) (by assumption) ?r8_rest20
                  case r8_hy20 => intro w hSw; (try dsimp only at hSw); (go_simp <;> (with_reducible rfl))
                  try simp only [Act.put, List.setIfInBounds_toArray, List.set_cons_zero, List.set_cons_succ]
                  refine wpAnyH_take (i := 21) (v := ?r8_vv21) (by (simp only [List.getElem?_toArray, List.getElem?_cons_succ, List.getElem?_cons_zero]; rfl)) (by kernel_rfl) (by kernel_rfl) (by kernel_rfl) (by exact fun _ _ _ h => h) (Or.inl ⟨by rfl, ?r8_hy21⟩) (by assumption) ?r8_rest21
                  case r8_hy21 => intro w hSw; (try dsimp only at hSw); (go_simp <;> (with_reducible rfl))
                  try simp only [Act.put, List.setIfInBounds_toArray, List.set_cons_zero, List.set_cons_succ]
                  refine wpAnyH_take (i := 22) (v := ?r8_vv22) (by (simp only [List.getElem?_toArray, List.getElem?_cons_succ, List.getElem?_cons_zero]; rfl)) (by kernel_rfl) (by kernel_rfl) (by kernel_rfl) (by exact fun _ _ _ h => h) (Or.inl ⟨by rfl, ?r8_hy22⟩) (by assumption) ?r8_rest22
                  case r8_hy22 => intro w hSw; (try dsimp only at hSw); (go_simp <;> (with_reducible rfl))
                  try simp only [Act.put, List.setIfInBounds_toArray, List.set_cons_zero, List.set_cons_succ]
                  refine wpAnyH_done (by kernel_rfl) ?_ _
                  go_wp2_with fail
                  go_roundw
                  case rel => exact ⟨j + 1, Q, L, by omega, by go_num, hL.out, HN.out, HD.out, own_atS HO.out rfl, own_atS HY.out rfl, HX.out.at_ rfl rfl rfl rfl⟩
                  case measure => first | (simp [intOf]; done) | (simp [intOf]; omega)
                · have hd2 : decide (cd ∈ out) = false := decide_eq_false hmem
                  rw [hd2] at qh1
                  clear hmem
                  go_wp2_with fail
                  go_quiet (fail)
                  go_wp2_with fail
                  have hS : CmB b2 (o2 + j * 2) G9 (p1 * 12 + p0) ⟨(p0 : Int), (p1 : Int)⟩ true wr := ⟨c0, c1, tD⟩
                  refine wp_region_held_drew (S := (CmB b2 (o2 + j * 2) G9 (p1 * 12 + p0) ⟨(p0 : Int), (p1 : Int)⟩ true)) (by kernel_rfl) ?r9_hS0 (fun hHeld => ?r9_rest)
                  case r9_hS0 => (try dsimp only); first | assumption | exact hS
                  refine wpAnyH_take (i := 0) (v := ?r9_vv0) (by (simp only [List.getElem?_toArray, List.getElem?_cons_succ, List.getElem?_cons_zero]; rfl)) (by kernel_rfl) (by kernel_rfl) (by kernel_rfl) (by exact fun _ _ _ h => h) (Or.inl ⟨by rfl, ?r9_hy0⟩) (by assumption) ?r9_rest0
                  case r9_hy0 => intro w hSw; (try dsimp only at hSw); (go_simp <;> (with_reducible rfl))
                  try simp only [Act.put, List.setIfInBounds_toArray, List.set_cons_zero, List.set_cons_succ]
                  refine wpAnyH_take (i := 1) (v := ?r9_vv1) (by (simp only [List.getElem?_toArray, List.getElem?_cons_succ, List.getElem?_cons_zero]; rfl)) (by kernel_rfl) (by kernel_rfl) (by kernel_rfl) (by exact fun _ _ _ h => h) (Or.inl ⟨by rfl, ?r9_hy1⟩) (by assumption) ?r9_rest1
                  case r9_hy1 => intro w hSw; (try dsimp only at hSw); (go_simp <;> (with_reducible rfl))
                  try simp only [Act.put, List.setIfInBounds_toArray, List.set_cons_zero, List.set_cons_succ]
                  refine wpAnyH_take (i := 2) (v := ?r9_vv2) (by (simp only [List.getElem?_toArray, List.getElem?_cons_succ, List.getElem?_cons_zero]; rfl)) (by kernel_rfl) (by kernel_rfl) (by kernel_rfl) (by exact fun _ _ _ h => h) (Or.inl ⟨by rfl, ?r9_hy2⟩) (by assumption) ?r9_rest2
                  case r9_hy2 => intro w hSw; (try dsimp only at hSw); (go_simp <;> (with_reducible rfl))
                  try simp only [Act.put, List.setIfInBounds_toArray, List.set_cons_zero, List.set_cons_succ]
                  refine wpAnyH_take (i := 3) (v := ?r9_vv3) (by (simp only [List.getElem?_toArray, List.getElem?_cons_succ, List.getElem?_cons_zero]; rfl)) (by kernel_rfl) (by kernel_rfl) (by kernel_rfl) (by exact fun _ _ _ h => h) (Or.inl ⟨by rfl, ?r9_hy3⟩) (by assumption) ?r9_rest3
                  case r9_hy3 => intro w hSw; (try dsimp only at hSw); (go_simp <;> (with_reducible rfl))
                  try simp only [Act.put, List.setIfInBounds_toArray, List.set_cons_zero, List.set_cons_succ]
                  refine wpAnyH_take (i := 4) (v := ?r9_vv4) (by (simp only [List.getElem?_toArray, List.getElem?_cons_succ, List.getElem?_cons_zero]; rfl)) (by kernel_rfl) (by kernel_rfl) (by kernel_rfl) (by exact fun _ _ _ h => h) (Or.inl ⟨by rfl, ?r9_hy4⟩) (by assumption) ?r9_rest4
                  case r9_hy4 => intro w hSw; (try dsimp only at hSw); (go_simp <;> (with_reducible rfl))
                  try simp only [Act.put, List.setIfInBounds_toArray, List.set_cons_zero, List.set_cons_succ]
                  refine wpAnyH_ready (rs := [5]) (by kernel_rfl) (by simp) ?_
                  refine AllReadyH.cons (by (simp only [List.getElem?_toArray, List.getElem?_cons_succ, List.getElem?_cons_zero]; rfl)) (fun K hK => ?_) AllReadyH.nil
                  go_simp
                  (go_at_call 82; (with_reducible refine (qh1.out _ (drewNS_heap _ _)).mono ?_); rintro e w11 ⟨rfl, rfl⟩)
                  try go_wp2_with fail
                  refine hK.out _ _ ?r9_hS5 (fun hHeld => ?r9_r5)
                  case r9_hS5 => (try dsimp only); first | assumption | exact hS
                  clear hK K
                  try simp only [Act.put, List.setIfInBounds_toArray, List.set_cons_zero, List.set_cons_succ]
                  refine wpAnyH_take (i := 6) (v := ?r9_vv6) (by (simp only [List.getElem?_toArray, List.getElem?_cons_succ, List.getElem?_cons_zero]; rfl)) (by kernel_rfl) (by kernel_rfl) (by kernel_rfl) (by exact fun _ _ _ h => h) (Or.inl ⟨by rfl, ?r9_hy6⟩) (by assumption) ?r9_rest6
                  case r9_hy6 => intro w hSw; (try dsimp only at hSw); (go_simp <;> (with_reducible rfl))
                  try simp only [Act.put, List.setIfInBounds_toArray, List.set_cons_zero, List.set_cons_succ]
                  refine wpAnyH_take (i := 7) (v := ?r9_vv7) (by (simp only [List.getElem?_toArray, List.getElem?_cons_succ, List.getElem?_cons_zero]; rfl)) (by kernel_rfl) (by kernel_rfl) (by kernel_rfl) (by exact fun _ _ _ h => h) (Or.inl ⟨by rfl, ?r9_hy7⟩) (by assumption) ?r9_rest7
                  case r9_hy7 => intro w hSw; (try dsimp only at hSw); (go_simp <;> (with_reducible rfl))
                  try simp only [Act.put, List.setIfInBounds_toArray, List.set_cons_zero, List.set_cons_succ]
                  refine wpAnyH_take (i := 8) (v := undef) (by (simp only [List.getElem?_toArray, List.getElem?_cons_succ, List.getElem?_cons_zero]; rfl)) (by kernel_rfl) (by kernel_rfl) (by kernel_rfl) (by exact fun _ _ _ h => h) (Or.inr ⟨by rfl, rfl⟩) (by assumption) ?_
                  try simp only [Act.put, List.setIfInBounds_toArray, List.set_cons_zero, List.set_cons_succ]
                  refine wpAnyH_take (i := 9) (v := undef) (by (simp only [List.getElem?_toArray, List.getElem?_cons_succ, List.getElem?_cons_zero]; rfl)) (by kernel_rfl) (by kernel_rfl) (by kernel_rfl) (by exact fun _ _ _ h => h) (Or.inr ⟨by rfl, rfl⟩) (by assumption) ?_
                  try simp only [Act.put, List.setIfInBounds_toArray, List.set_cons_zero, List.set_cons_succ]
                  refine wpAnyH_take (i := 10) (v := undef) (by (simp only [List.getElem?_toArray, List.getElem?_cons_succ, List.getElem?_cons_zero]; rfl)) (by kernel_rfl) (by kernel_rfl) (by kernel_rfl) (by exact fun _ _ _ h => h) (Or.inr ⟨by rfl, rfl⟩) (by assumption) ?_
                  try simp only [Act.put, List.setIfInBounds_toArray, List.set_cons_zero, List.set_cons_succ]
                  refine wpAnyH_take (i := 11) (v := undef) (by (simp only [List.getElem?_toArray, List.getElem?_cons_succ, List.getElem?_cons_zero]; rfl)) (by kernel_rfl) (by kernel_rfl) (by kernel_rfl) (by exact fun _ _ _ h => h) (Or.inr ⟨by rfl, rfl⟩) (by assumption) ?_
                  try simp only [Act.put, List.setIfInBounds_toArray, List.set_cons_zero, List.set_cons_succ]
                  refine wpAnyH_take (i := 12) (v := undef) (by (simp only [List.getElem?_toArray, List.getElem?_cons_succ, List.getElem?_cons_zero]; rfl)) (by kernel_rfl) (by kernel_rfl) (by kernel_rfl) (by exact fun _ _ _ h => h) (Or.inr ⟨by rfl, rfl⟩) (by assumption) ?_
                  try simp only [Act.put, List.setIfInBounds_toArray, List.set_cons_zero, List.set_cons_succ]
                  refine wpAnyH_take (i := 13) (v := undef) (by (simp only [List.getElem?_toArray, List.getElem?_cons_succ, List.getElem?_cons_zero]; rfl)) (by kernel_rfl) (by kernel_rfl) (by kernel_rfl) (by exact fun _ _ _ h => h) (Or.inr ⟨by rfl, rfl⟩) (by assumption) ?_
                  try simp only [Act.put, List.setIfInBounds_toArray, List.set_cons_zero, List.set_cons_succ]
                  refine wpAnyH_take (i := 14) (v := undef) (by (simp only [List.getElem?_toArray, List.getElem?_cons_succ, List.getElem?_cons_zero]; rfl)) (by kernel_rfl) (by kernel_rfl) (by kernel_rfl) (by exact fun _ _ _ h => h) (Or.inr ⟨by rfl, rfl⟩) (by assumption) ?_
                  try simp only [Act.put, List.setIfInBounds_toArray, List.set_cons_zero, List.set_cons_succ]
                  refine wpAnyH_take (i := 15) (v := undef) (by (simp only [List.getElem?_toArray, List.getElem?_cons_succ, List.getElem?_cons_zero]; rfl)) (by kernel_rfl) (by kernel_rfl) (by kernel_rfl) (by exact fun _ _ _ h => h) (Or.inr ⟨by rfl, rfl⟩) (by assumption) ?_
                  try simp only [Act.put, List.setIfInBounds_toArray, List.set_cons_zero, List.set_cons_succ]
                  refine wpAnyH_take (i := 16) (v := undef) (by (simp only [List.getElem?_toArray, List.getElem?_cons_succ, List.getElem?_cons_zero]; rfl)) (by kernel_rfl) (by kernel_rfl) (by kernel_rfl) (by exact fun _ _ _ h => h) (Or.inr ⟨by rfl, rfl⟩) (by assumption) ?_
                  try simp only [Act.put, List.setIfInBounds_toArray, List.set_cons_zero, List.set_cons_succ]
                  refine wpAnyH_take (i := 17) (v := undef) (by (simp only [List.getElem?_toArray, List.getElem?_cons_succ, List.getElem?_cons_zero]; rfl)) (by kernel_rfl) (by kernel_rfl) (by kernel_rfl) (by exact fun _ _ _ h => h) (Or.inr ⟨by rfl, rfl⟩) (by assumption) ?_
                  try simp only [Act.put, List.setIfInBounds_toArray, List.set_cons_zero, List.set_cons_succ]
                  refine wpAnyH_take (i := 18) (v := undef) (by (simp only [List.getElem?_toArray, List.getElem?_cons_succ, List.getElem?_cons_zero]; rfl)) (by kernel_rfl) (by kernel_rfl) (by kernel_rfl) (by exact fun _ _ _ h => h) (Or.inr ⟨by rfl, rfl⟩) (by assumption) ?_
                  try simp only [Act.put, List.setIfInBounds_toArray, List.set_cons_zero, List.set_cons_succ]
                  refine wpAnyH_take (i := 19) (v := undef) (by (simp only [List.getElem?_toArray, List.getElem?_cons_succ, List.getElem?_cons_zero]; rfl)) (by kernel_rfl) (by kernel_rfl) (by kernel_rfl) (by exact fun _ _ _ h => h) (Or.inr ⟨by rfl, rfl⟩) (by assumption) ?_
                  try simp only [Act.put, List.setIfInBounds_toArray, List.set_cons_zero, List.set_cons_succ]
                  refine wpAnyH_take (i := 20) (v := undef) (by (simp only [List.getElem?_toArray, List.getElem?_cons_succ, List.getElem?_cons_zero]; rfl)) (by kernel_rfl) (by kernel_rfl) (by kernel_rfl) (by exact fun _ _ _ h => h) (Or.inr ⟨by rfl, rfl⟩) (by assumption) ?_
                  try simp only [Act.put, List.setIfInBounds_toArray, List.set_cons_zero, List.set_cons_succ]
                  refine wpAnyH_take (i := 21) (v := undef) (by (simp only [List.getElem?_toArray, List.getElem?_cons_succ, List.getElem?_cons_zero]; rfl)) (by kernel_rfl) (by kernel_rfl) (by kernel_rfl) (by exact fun _ _ _ h => h) (Or.inr ⟨by rfl, rfl⟩) (by assumption) ?_
                  try simp only [Act.put, List.setIfInBounds_toArray, List.set_cons_zero, List.set_cons_succ]
                  refine wpAnyH_take (i := 22) (v := ?r9_vv22) (by (simp only [List.getElem?_toArray, List.getElem?_cons_succ, List.getElem?_cons_zero]; rfl)) (by kernel_rfl) (by kernel_rfl) (by kernel_rfl) (by exact fun _ _ _ h => h) (Or.inl ⟨by rfl, ?r9_hy22⟩) (by assumption) ?r9_rest22
                  case r9_hy22 => intro w hSw; (try dsimp only at hSw); (go_simp <;> (with_reducible rfl))
                  try simp only [Act.put, List.setIfInBounds_toArray, List.set_cons_zero, List.set_cons_succ]
                  refine wpAnyH_done (by kernel_rfl) ?_ _
                  go_wp2_with fail
                  go_roundw
                  case rel => exact ⟨j + 1, Q, L, by omega, by go_num, hL.out, HN.out, HD.out, own_atS HO.out rfl, own_atS HY.out rfl, HX.out.at_ rfl rfl rfl rfl⟩
                  case measure => first | (simp [intOf]; done) | (simp [intOf]; omega)
          · obtain rfl : j = ys.length := by omega
            have hjd : decide ((ys.length : Int) < (ys.length : Int)) = false := by rw [decide_eq_false_iff_not]; omega
            have HI9 := Lib.hid (hfin.out _ Q HJ.out)
            have hkR := (List.getElem?_eq_some_iff.1 HJ.out.at_).1
            go_wp2_with fail
            go_roundw
            case rel => exact ⟨k + 1, Q, L, by omega, by go_num, hL.out, HI9.out, HO.out, HX.out⟩
            case measure => first | (simp [intOf]; done) | (simp [intOf]; omega)
      · obtain rfl : k = Q.length := by omega
        have hkd : decide ((Q.length : Int) < (Q.length : Int)) = false := by rw [decide_eq_false_iff_not]; omega
        have hfin := Lib.hid HI.out.fin
        go_wp2_with (first | (refine wpList_load_bk rfl 162 (.tmp 9) rfl _ rfl _ _ _ _ HX.out.tab Try.underlying162 (infoB L hL.out) ?_) | (refine wpList_store_bk rfl 162 (.tmp 6) (.tmp 103) rfl _ (bcells L) rfl rfl _ _ HX.out.res (by rw [zeroB, bcells_size, bcells_size, hL.out]; rfl) (infoB L hL.out) (bcells_one _) ?_))
        intro w9 hB9 hG9
        have HB9 := Lib.hid (HX.out.bel.grown hG9 HX.out.bel.size (fun j hj => by injection hj with hj; omega))
        go_wp2_with fail
        (try simp only [Exit.inBlock, Exit.then])
        exact cellretS Try.results142 rfl hB9 Try.underlying162 (infoB L hL.out) rfl ⟨⟨L, hL.out, hfin.out, rfl⟩, HB9.out⟩
end Go.Proofs.Yteflpdfajfljfaa
