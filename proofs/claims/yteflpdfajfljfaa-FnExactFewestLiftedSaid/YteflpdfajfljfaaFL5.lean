/-
The first list of the fewest slabs that are lifted, of the program. Conditions: the square is valid, both ends are its cells.
-/
import Derived.Test.YteflpdfajfljfaaFL4
import Derived.Test.YteflpdfajfljfaaApp
set_option linter.unusedVariables false
set_option linter.unusedSimpArgs false
set_option maxRecDepth 100000
namespace Go.Proofs.Yteflpdfajfljfaa
open Go.RowKit
theorem appI64S : AppK i64c 1 8 29 2 := AppK.mk' (.int .i64 0) (by omega) i64c_len (by intro x u hu; simp [i64c] at hu; subst hu; rfl) Try.underlying29 (by kernel_rfl) rfl
abbrev FwS (w0 : World) (ob : Option Nat) (b : Nat) (w h : Int) (z : Value) (w' : World) : Prop :=
  w0.grownBy w' ob ∧ w'.cell? ⟨b, 0, none⟩ = some (.int .i8 w) ∧ w'.cell? ⟨b, 1, none⟩ = some (.int .i8 h) ∧ w'.cell? ⟨b, 2, none⟩ = some z
theorem grown_below {w0 w1 w2 : World} {ob : Option Nat} (hG : w0.grownBy w1 ob) (k : Below w1.heap.size w1 w2) : w0.grownBy w2 ob := hG.trans ⟨k.os, k.tape, k.output, k.size, fun j hj _ => k.block j hj⟩
theorem FwS.keep {w0 w1 w2 : World} {ob : Option Nat} {b : Nat} {w h : Int} {z : Value} (hb : b < w0.heap.size) (hS : FwS w0 ob b w h z w1) (k : Below w1.heap.size w1 w2) : FwS w0 ob b w h z w2 := by
  obtain ⟨h0, h1, h2, h3⟩ := hS
  have hlt : b < w1.heap.size := Nat.lt_of_lt_of_le hb h0.size
  have q : ∀ o, w2.cell? ⟨b, o, none⟩ = w1.cell? ⟨b, o, none⟩ := fun o => k.cell (p := ⟨b, o, none⟩) hlt
  exact ⟨grown_below h0 k, (q _).trans h1, (q _).trans h2, (q _).trans h3⟩
theorem FwS.app {w0 w1 w2 : World} {ob : Option Nat} {b : Nat} {w h : Int} {z : Value} (hb : b < w0.heap.size) (hne : some b ≠ ob) (hS : FwS w0 ob b w h z w1) (hG : w1.grownBy w2 ob) : FwS w0 ob b w h z w2 := by
  obtain ⟨h0, h1, h2, h3⟩ := hS
  have hlt : b < w1.heap.size := Nat.lt_of_lt_of_le hb h0.size
  have hbl := hG.block b hlt hne
  have q : ∀ o, w2.cell? ⟨b, o, none⟩ = w1.cell? ⟨b, o, none⟩ := fun o => by simp only [World.cell?, hbl]
  exact ⟨h0.trans hG, (q _).trans h1, (q _).trans h2, (q _).trans h3⟩
theorem Bk.grownOb {w w' : World} {g : Nat} {T : TypeId} {cs : Array Value} {ob : Option Nat} (h : Bk w g T cs) (hG : w.grownBy w' ob) (hne : some g ≠ ob) : Bk w' g T cs := (hG.block g h.lt hne).trans h
theorem MapC.grownOb {w w' : World} {g : Nat} {f : Cell → Option Int} {ob : Option Nat} (h : MapC w g f) (hG : w.grownBy w' ob) (hne : some g ≠ ob) : MapC w' g f := h.keep (hG.block g h.lt hne)
theorem Own.grownOb {α : Type} {w w' : World} {B : Nat} {E : TypeId} {c : α → List Value} {sz : Nat} {v : Value} {xs : List α} {ob : Option Nat} (h : Own w B E c sz v xs) (hG : w.grownBy w' ob) (hne : ∀ j, v.ownBlock = some j → some j ≠ ob) : Own w' B E c sz v xs := h.keep (fun k hk => hG.block k (h.lt k hk) (hne k hk))
theorem sl1iS (W : World) (n : Int) (g : Nat) (hg : g = W.heap.size) (E : TypeId) : Sl (W.alloc (.cells #[.int .i64 n] E)) (W.alloc (.cells #[.int .i64 n] E)).heap.size i64c 1 (.slice (some ⟨g, 0, none⟩) 1 1) [n] :=
  Sl.litw i64c 1 i64c_len W [n] _ rfl g hg E (by simp)
structure FxI (W : World) (B2 g : Nat) (M : Cell → Option Int) (sq fc : Array Value) (B1 : Nat) (o8 : Value) (out : List Int) (o10 : Value) (R : List Cell) (x : World) : Prop where
  map : MapC x g M
  sq : Bk x W.heap.size 34 sq
  fr : Bk x (W.heap.size + 1) 36 fc
  out : Own x B1 2 i64c 1 o8 out
  row : Own x B1 36 Cell.c 2 o10 R
  bel : Below W.heap.size W x
  gB : g < B2
  sB : W.heap.size + 1 < B2
  oB : ∀ j, o8.ownBlock = some j → j < B2
  rB : ∀ j, o10.ownBlock = some j → j < B2
section
variable {W x y : World} {B2 g B1 : Nat} {M : Cell → Option Int} {sq fc : Array Value} {o8 o10 : Value} {out : List Int} {R : List Cell}
theorem FxI.ext (q : FxI W B2 g M sq fc B1 o8 out o10 R x) (hb : Below x.heap.size x y) : FxI W B2 g M sq fc B1 o8 out o10 R y :=
  ⟨q.map.ext hb, q.sq.ext hb, q.fr.ext hb, q.out.ext hb, q.row.ext hb, ext_trans q.bel hb, q.gB, q.sB, q.oB, q.rB⟩
theorem FxI.alloc (q : FxI W B2 g M sq fc B1 o8 out o10 R x) (o : Obj) : FxI W B2 g M sq fc B1 o8 out o10 R (x.alloc o) := q.ext ((Below.refl _ _).alloc (Nat.le_refl _) o)
theorem FxI.grown {ob : Option Nat} (q : FxI W B2 g M sq fc B1 o8 out o10 R x) (hG : x.grownBy y ob) (hB : ∀ j, ob = some j → B2 ≤ j) : FxI W B2 g M sq fc B1 o8 out o10 R y :=
  ⟨q.map.grownOb hG (fun e => by have := hB _ e.symm; have := q.gB; omega), q.sq.grownOb hG (fun e => by have := hB _ e.symm; have := q.sB; omega), q.fr.grownOb hG (fun e => by have := hB _ e.symm; have := q.sB; omega),
   q.out.grownOb hG (fun j hj e => by have := hB _ e.symm; have := q.oB j hj; omega), q.row.grownOb hG (fun j hj e => by have := hB _ e.symm; have := q.rB j hj; omega),
   q.bel.grown hG q.bel.size (fun j hj => by have := hB j hj; have := q.sB; omega), q.gB, q.sB, q.oB, q.rB⟩
end
theorem Sc4.le {w h : Int} {cv E : Cell → Int} {v : Int} {R : List Cell} {i : Nat} {a : Cell} {ys : List Cell} {j : Nat} {best : Int} {cells : List Cell} (q : Sc4 w h cv E v R i a ys j best cells) : cells.length ≤ i + ys.length := by
  have h1 := q.len
  have h2 : cntE cv a best (ys.take j) ≤ ys.length := by
    unfold cntE
    refine Nat.le_trans List.countP_le_length ?_
    rw [List.length_take]
    omega
  omega
set_option maxHeartbeats 8000000 in
theorem fewest_callsS (w h : Int) (z : Value) (sl : List Slab) (fr tg : Cell) (hv : sqOk w h sl = true) (hf : gpB w h fr = true) (ht : gpB w h tg = true) (W : World) (hq : SqIn W w h z sl) :
    Calls Try.prog 79 #[sqv w h z, fr.v, tg.v] W fun e w' => (∃ u, e = .returned u ∧ Own w' W.heap.size 2 i64c 1 u (fewL w h (cvS sl) fr tg)) ∧ Below W.heap.size W w' := by
  obtain ⟨⟨hw0, hw1⟩, ⟨hh0, hh1⟩, -⟩ := sqOk_edges hv
  obtain ⟨A, cap, hz, -, -, -⟩ := hq.sl.slab
  subst hz
  have HQ0 := Lib.hid hq
  have HF := Lib.hid hf
  have HT := Lib.hid ht
  have hC := Lib.hid (cvS_conv hv)
  have qh := Lib.hid (fun W' hq' => ahead_callsS w h (.slice A sl.length cap) sl tg hv ht W' hq')
  have qn := Lib.hid (fun c (hc : gpB w h c = true) W' hq' => nextS_calls w h (.slice A sl.length cap) sl c (gpB_true.1 hc).1 (by have := gpB_true.1 hc; omega) (gpB_true.1 hc).2.2.1 (by have := gpB_true.1 hc; omega) W' hq')
  have qe := Lib.hid (fun a b (ha : gpB w h a = true) (hb : gpB w h b = true) W' hq' => entered_calls w h (.slice A sl.length cap) sl a b (gp_okS hw1 hh1 ha) (gp_okS hw1 hh1 hb) W' hq')
  have qc := Lib.hid (fun a (ha : gpB w h a = true) W' hq' => cover_calls w h (.slice A sl.length cap) sl a (gp_okS hw1 hh1 ha) W' hq')
  have qr := Lib.hid (fun (L : List Cell) v (hL : ∀ c ∈ L, gpB w h c = true) (hn : L.length ≤ 100000) W' hq' hs' => reach_callsS w h (.slice A sl.length cap) sl L v hv hL hn W' hq' hs')
  have hge := Lib.hid (cvS_ge sl)
  have hub := Lib.hid (fun c => show cvS sl c < sl.length from (atI_bounds sl c.x c.y).2)
  have hsl60 := Lib.hid (show sl.length ≤ 60 from by simp only [sqOk, Bool.and_eq_true, decide_eq_true_eq] at hv; exact hv.1.2)
  unfold AhT at qh
  generalize hcv : cvS sl = cv at *
  clear hq hv hf ht
  have HB := Lib.hid (ext_alloc (ext_alloc ((Below.refl W.heap.size W).alloc (Nat.le_refl _) (.cells #[.int .i8 w, .int .i8 h, .slice A sl.length cap] 34)) (.cells #[.int .i8 fr.x, .int .i8 fr.y] 36)) (.cells #[.int .i8 tg.x, .int .i8 tg.y] 36))
  have KG0 := (((Bk.new W 34 #[.int .i8 w, .int .i8 h, .slice A sl.length cap] W.heap.size rfl).alloc (.cells #[.int .i8 fr.x, .int .i8 fr.y] 36)).alloc (.cells #[.int .i8 tg.x, .int .i8 tg.y] 36))
  have KF0 := ((Bk.new (W.alloc (.cells #[.int .i8 w, .int .i8 h, .slice A sl.length cap] 34)) 36 #[.int .i8 fr.x, .int .i8 fr.y] (W.heap.size + 1) (by simp)).alloc (.cells #[.int .i8 tg.x, .int .i8 tg.y] 36))
  have KG := Lib.hid KG0
  have KF := Lib.hid KF0
  clear KG0 KF0
  unfold sqv Cell.v at *
  go_enter Try.func79, Try.ntmps79
  go_wp2_with fail
  refine (qh.out _ (HQ0.out.ext HB.out)).mono ?_
  rintro e w1 ⟨⟨g, M, rfl, hgb, hM, hA⟩, hb1⟩
  obtain ⟨E, hE0⟩ : ∃ E : Cell → Int, E = fun c => (M c).getD 0 := ⟨_, rfl⟩
  have hD := Lib.hid (show IsD w h cv tg E from by rw [hE0]; exact hA.1)
  have hME := Lib.hid (fun c => show (M c).getD 0 = E c from by rw [hE0])
  clear hE0 hA
  have HM := Lib.hid (hM.ext ((Below.refl w1.heap.size w1).alloc (Nat.le_refl _) (.cells #[] 2)))
  have HG := Lib.hid ((KG.out.ext hb1).alloc (.cells #[] 2))
  have HFr := Lib.hid ((KF.out.ext hb1).alloc (.cells #[] 2))
  have HB1 := Lib.hid (ext_alloc (ext_trans HB.out hb1) (.cells #[] 2))
  have hgb := Lib.hid (show W.heap.size + 3 ≤ g from by simpa using hgb)
  have hgl := Lib.hid hM.lt
  have HO := Lib.hid (Own.empty (α := Int) (c := i64c) (sz := 1) (E := 2) w1 w1.heap.size w1.heap.size rfl (Nat.le_refl _))
  have g0 := HG.out.cell 0 _ rfl
  have g1 := HG.out.cell 1 _ rfl
  have g2 := HG.out.cell 2 _ rfl
  have f0 := HFr.out.cell 0 _ rfl
  have f1 := HFr.out.cell 1 _ rfl
  have hs2 := Lib.hid (show w1.heap.size ≤ (w1.alloc (.cells #[] 2)).heap.size from by simp)
  clear hM hb1 KG KF HB
  dsimp only
  go_wp2_with fail
  generalize hB1 : w1.heap.size = B1 at *
  generalize w1.alloc (.cells #[] 2) = w2 at *
  refine (qc.out fr HF.out _ (HQ0.out.ext HB1.out)).mono ?_
  rintro e w3 ⟨rfl, hb3⟩
  replace HM := Lib.hid (HM.out.ext hb3)
  replace HG := Lib.hid (HG.out.ext hb3)
  replace HFr := Lib.hid (HFr.out.ext hb3)
  replace HB1 := Lib.hid (ext_trans HB1.out hb3)
  replace HO := Lib.hid (HO.out.ext hb3)
  have hs3 := Lib.hid (Nat.le_trans hs2.out hb3.size)
  clear hb3 g0 g1 g2 f0 f1
  dsimp only
  go_upto_if 27 with (fail)
  go_cut [8] (fun o wx => Own wx B1 2 i64c 1 o (if 0 ≤ cv fr then [cv fr] else []) ∧ MapC wx g M ∧ Bk wx W.heap.size 34 #[.int .i8 w, .int .i8 h, .slice A sl.length cap] ∧ Bk wx (W.heap.size + 1) 36 #[.int .i8 fr.x, .int .i8 fr.y] ∧ Below W.heap.size W wx ∧ B1 ≤ wx.heap.size)
  case first =>
    by_cases h0 : 0 ≤ cv fr
    · rw [show decide (0 ≤ cv fr) = true from decide_eq_true h0]
      have H0 := Lib.hid h0
      clear h0
      go_wp2_with (at_builtin; refine push_i64 rfl _ _ rfl B1 [] _ rfl (HO.out.alloc _) ⟨w3.heap.size, 0, none⟩ (cv fr) rfl (by simp) (by simp) (Nat.le_trans hs3.out (by simp)) ?_)
      intro v4 w4 hO4 hG4
      have hO4 := Lib.hid hO4
      have hob := Lib.hid (fun j (hj : (Value.slice (some ⟨B1, 0, none⟩) 0 0).ownBlock = some j) => show j = B1 from by simpa [Value.ownBlock] using hj.symm)
      have HM4 := Lib.hid ((HM.out.ext ((Below.refl w3.heap.size w3).alloc (Nat.le_refl _) (.cells #[.int .i64 (cv fr)] 2))).grownOb hG4 (fun e => by have := hob.out _ e.symm; have := hgl.out; omega))
      have HG4 := Lib.hid ((HG.out.alloc (.cells #[.int .i64 (cv fr)] 2)).grownOb hG4 (fun e => by have := hob.out _ e.symm; have := hgl.out; have := hgb.out; omega))
      have HF4 := Lib.hid ((HFr.out.alloc (.cells #[.int .i64 (cv fr)] 2)).grownOb hG4 (fun e => by have := hob.out _ e.symm; have := hgl.out; have := hgb.out; omega))
      have HB4 := Lib.hid ((ext_alloc HB1.out (.cells #[.int .i64 (cv fr)] 2)).grown hG4 (ext_alloc HB1.out _).size (fun j hj => by have := hob.out _ hj; have := hgl.out; have := hgb.out; omega))
      have hs4 := Lib.hid hG4.size
      clear hG4
      go_wp2_with fail
      go_meet
      exact ⟨by rw [if_pos (by have := H0.out; omega)]; exact hO4.out, HM4.out, HG4.out, HF4.out, HB4.out, Nat.le_trans hs3.out (Nat.le_trans (by simp) hs4.out)⟩
    · rw [show decide (0 ≤ cv fr) = false from decide_eq_false h0]
      have H0 := Lib.hid h0
      clear h0
      go_wp2_with fail
      go_meet
      exact ⟨by rw [if_neg (by have := H0.out; omega)]; exact HO.out, HM.out, HG.out, HFr.out, HB1.out, hs3.out⟩
  clear HM HG HFr HB1 HO
  obtain ⟨hO, hM, hG, hFr, hb, hs5⟩ := hcut
  have hs5 := Lib.hid hs5
  have HM := Lib.hid hM
  have HG := Lib.hid hG
  have HFr := Lib.hid hFr
  have HB1 := Lib.hid hb
  have HO := Lib.hid hO
  clear hO hM hG hFr hb
  have g0 := HG.out.cell 0 _ rfl
  have g1 := HG.out.cell 1 _ rfl
  have g2 := HG.out.cell 2 _ rfl
  have f0 := HFr.out.cell 0 _ rfl
  have f1 := HFr.out.cell 1 _ rfl
  have hba := HB1.out.alloc HB1.out.size (.cells #[.int .i8 fr.x, .int .i8 fr.y] 36)
  have q5 := Lib.hid (qr.out [fr] (.slice (some ⟨wc.heap.size, 0, none⟩) 1 1) (fun c hc => by rw [List.mem_singleton] at hc; rw [hc]; exact HF.out) (by simp) _ (HQ0.out.ext hba) (sl1c wc fr wc.heap.size rfl 36))
  have HMa := Lib.hid (HM.out.ext ((Below.refl wc.heap.size wc).alloc (Nat.le_refl _) (.cells #[.int .i8 fr.x, .int .i8 fr.y] 36)))
  have HGa := Lib.hid (HG.out.alloc (.cells #[.int .i8 fr.x, .int .i8 fr.y] 36))
  have HFa := Lib.hid (HFr.out.alloc (.cells #[.int .i8 fr.x, .int .i8 fr.y] 36))
  have HOa := Lib.hid (HO.out.alloc (.cells #[.int .i8 fr.x, .int .i8 fr.y] 36))
  have hba := Lib.hid hba
  have hB1c := Lib.hid (show B1 ≤ (wc.alloc (.cells #[.int .i8 fr.x, .int .i8 fr.y] 36)).heap.size from Nat.le_trans hs5.out (by simp))
  clear HM HG HFr HB1 HO
  go_wp2_with fail
  generalize wc.alloc (.cells #[.int .i8 fr.x, .int .i8 fr.y] 36) = w5 at *
  refine q5.out.mono ?_
  rintro e w6 ⟨⟨v6, R6, rfl, hO6, hR6, hl6⟩, hb6⟩
  have HM := Lib.hid (HMa.out.ext hb6)
  have HG := Lib.hid (HGa.out.ext hb6)
  have HFr := Lib.hid (HFa.out.ext hb6)
  have HB1 := Lib.hid (ext_trans hba.out hb6)
  have HO := Lib.hid (HOa.out.ext hb6)
  have HR := Lib.hid (hO6.more (B' := B1) hB1c.out)
  have HL0 := Lib.hid (LayR.begin w h cv E fr R6 hR6)
  have hl6 := Lib.hid hl6
  have hB1z := Lib.hid (Nat.le_trans hB1c.out hb6.size)
  clear hO6 hb6 hba HMa HGa HFa HOa hR6 g0 g1 g2 f0 f1 q5 hB1c
  have f0 := HFr.out.cell 0 _ rfl
  have f1 := HFr.out.cell 1 _ rfl
  have hfok := Lib.hid (gp_okS hw1 hh1 HF.out)
  have lk := HM.out.look Try.underlying164 (zeroI64S_run _) fr hfok.out
  rw [hME.out] at lk
  simp only [Cell.v] at lk
  have hE0 := hD.out.pos fr HF.out
  have hE22 := hD.out.le22 hw1 hh1 HT.out fr HF.out
  dsimp only
  go_wp2_with fail
  clear lk f0 f1
  generalize hEf : E fr = ef at *
  go_loopw [8, 10, 11] (fun o8 o10 lf wr => ∃ (j : Nat) (out : List Int) (R : List Cell), (j : Int) ≤ ef ∧ B1 ≤ wr.heap.size ∧ lf = .int .i64 (ef - (j : Int)) ∧ LayR w h cv E fr j out R ∧ R.length ≤ 145 * (j + 1) ∧ Own wr B1 2 i64c 1 o8 out ∧ Own wr B1 36 Cell.c 2 o10 R ∧ MapC wr g M ∧ Bk wr W.heap.size 34 #[.int .i8 w, .int .i8 h, .slice A sl.length cap] ∧ Bk wr (W.heap.size + 1) 36 #[.int .i8 fr.x, .int .i8 fr.y] ∧ Below W.heap.size W wr) (fun _ _ lf _ => (intOf lf).toNat)
  case atStart => exact ⟨0, _, R6, by omega, hB1z.out, by simp, HL0.out, by have := hl6.out; simp at this; omega, HO.out, HR.out, HM.out, HG.out, HFr.out, HB1.out⟩
  case round =>
    clear HL0 hl6 HO HR HM HG HFr HB1 hB1z
    obtain ⟨j, out, R, hj, hB1r, rfl, hL, hRl, hO, hR, hM, hG, hFr, hb⟩ := hrel
    have HL := Lib.hid hL
    have HM := Lib.hid hM
    have HG := Lib.hid hG
    have HFr := Lib.hid hFr
    have HBr := Lib.hid hb
    have HO := Lib.hid hO
    have HR := Lib.hid hR
    have hRl := Lib.hid hRl
    clear hL hM hG hFr hb hO hR
    by_cases hlt : (j : Int) < ef
    · have hd : decide (0 < ef - (j : Int)) = true := decide_eq_true (by omega)
      obtain ⟨A2, cap2, rfl, -, -, -⟩ := (HR.out.sl Cell.c_len).cell
      have hrpt := Lib.hid (HL.out.pt HF.out)
      have hj22 : (j : Int) ≤ 22 := by omega
      have HX0 := Lib.hid (show FxI W wr.heap.size g M #[.int .i8 w, .int .i8 h, .slice A sl.length cap] #[.int .i8 fr.x, .int .i8 fr.y] B1 u8 out (.slice A2 R.length cap2) R wr from ⟨HM.out, HG.out, HFr.out, HO.out, HR.out, HBr.out, HM.out.lt, HFr.out.lt, HO.out.lt, HR.out.lt⟩)
      have HX1 := Lib.hid (HX0.out.alloc (.cells #[] 36))
      have HW1 := Lib.hid (Own.empty (α := Cell) (c := Cell.c) (sz := 2) (E := 36) wr wr.heap.size wr.heap.size rfl (Nat.le_refl _))
      have hB21 := Lib.hid (show wr.heap.size ≤ (wr.alloc (.cells #[] 36)).heap.size from by simp)
      have hB12 := Lib.hid (show B1 ≤ wr.heap.size from hB1r)
      have hol := Lib.hid (show out.length ≤ 100 from by have h1 := HL.out.toT.len; have h2 := onI_01 cv fr; omega)
      have hobW := Lib.hid (fun j (hj : _ = some j) => show W.heap.size + 1 < j from by have h1 := HO.out.base j hj; have := hgl.out; have := hgb.out; omega)
      clear hB1r
      clear HX0 HM HG HFr HO HR HBr
      have hZ := Lib.hid (Sc3.zero w h cv E (E fr - ((j : Int) + 1)) R)
      have hstep := Lib.hid (fun best cells q => HL.out.step (best := best) (cells := cells) (tg := tg) q hD.out HT.out HF.out (by rw [hEf]; exact hlt))
      rw [hEf] at hZ hstep
      clear HL
      go_wp2_with fail
      generalize wr.alloc (.cells #[] 36) = w7 at *
      generalize wr.heap.size = B2 at *
      go_loopw [12, 13, 46] (fun b cs i wr => ∃ (k : Nat) (best : Int) (cells : List Cell), k ≤ R.length ∧ i = .int .i64 (k : Int) ∧ b = .int .i64 best ∧ Sc3 w h cv E (ef - ((j : Int) + 1)) R k best cells ∧ (-1 ≤ best ∧ best < 60) ∧ Own wr B2 36 Cell.c 2 cs cells ∧ FxI W B2 g M #[.int .i8 w, .int .i8 h, .slice A sl.length cap] #[.int .i8 fr.x, .int .i8 fr.y] B1 u8 out (.slice A2 R.length cap2) R wr ∧ B2 ≤ wr.heap.size) (fun _ _ i _ => R.length - (intOf i).toNat)
      case atStart => exact ⟨0, -1, [], by omega, rfl, rfl, hZ.out, by omega, HW1.out, HX1.out, hB21.out⟩
      case round =>
        clear hZ HW1 HX1 hB21
        obtain ⟨k, best, cells, hk, rfl, rfl, hSc, hbd, hW, hX, hB⟩ := hrel
        have HSc := Lib.hid hSc
        have HW := Lib.hid hW
        have HX := Lib.hid hX
        have hB2 := Lib.hid hB
        clear hSc hW hX hB
        by_cases hkl : k < R.length
        · obtain ⟨A3, cap3, hvv, -, -, hcell⟩ := (HX.out.row.sl Cell.c_len).cell
          obtain ⟨rfl, rfl⟩ : A2 = A3 ∧ cap2 = cap3 := by injection hvv with e1 e2 e3; exact ⟨e1, e3⟩
          obtain ⟨b1, o1, rfl, hbb, c0, c1⟩ := hcell k hkl
          clear hcell hvv
          have hk0 : (0 : Int) ≤ (k : Int) := by omega
          have hk1 : (k : Int) < (R.length : Int) := by omega
          have hkd : decide ((k : Int) < (R.length : Int)) = true := by rw [decide_eq_true_eq]; omega
          have hcpt := Lib.hid (hrpt.out R[k] (List.getElem_mem hkl))
          have hat := Lib.hid (show R[k]? = some R[k] from List.getElem?_eq_getElem hkl)
          have HZ4 := Lib.hid (fun ys => Sc4.zero (a := R[k]) (ys := ys) HSc.out)
          have hfin := Lib.hid (fun best cells q => Sc4.fin (w := w) (h := h) (best := best) (cells := cells) (E := E) (v := ef - ((j : Int) + 1)) hC.out q hat.out)
          obtain ⟨c, hce⟩ : ∃ c, R[k] = c := ⟨_, rfl⟩
          rw [hce] at hcpt c0 c1 HZ4 hfin
          clear hce hat
          have HXa := Lib.hid (HX.out.alloc (.cells #[.int .i8 c.x, .int .i8 c.y] 36))
          have HWa := Lib.hid (HW.out.alloc (.cells #[.int .i8 c.x, .int .i8 c.y] 36))
          have HCa := Lib.hid (Bk.new wr 36 #[.int .i8 c.x, .int .i8 c.y] wr.heap.size rfl)
          have hB2a := Lib.hid (show B2 ≤ (wr.alloc (.cells #[.int .i8 c.x, .int .i8 c.y] 36)).heap.size from Nat.le_trans hB2.out (by simp))
          have g0 := HXa.out.sq.cell 0 _ rfl
          have g1 := HXa.out.sq.cell 1 _ rfl
          have g2 := HXa.out.sq.cell 2 _ rfl
          have qa := Lib.hid (qn.out c hcpt.out _ (HQ0.out.ext (show Below W.heap.size W (wr.alloc (.cells #[.int .i8 c.x, .int .i8 c.y] 36)) from HXa.out.bel)))
          have hyl := Lib.hid (around_lenS w h c)
          have hyp := Lib.hid (fun x (hx : x ∈ aroundL w h c) => around_pt hx)
          replace HZ4 := Lib.hid (HZ4.out (aroundL w h c))
          have HND0 := Lib.hid (show ∀ j, _ → j ≠ wr.heap.size from fun j hj => Nat.ne_of_lt (HW.out.lt j hj))
          clear HX HW HSc
          generalize aroundL w h c = ys at *
          go_wp2_with fail
          generalize wr.alloc (.cells #[.int .i8 c.x, .int .i8 c.y] 36) = w8 at *
          have hNB := Lib.hid hB2.out
          generalize wr.heap.size = NB at *
          refine qa.out.mono ?_
          rintro e w9 ⟨v9, rfl, hO9, hb9⟩
          obtain ⟨A4', cap4, rfl, -, -, -⟩ := (hO9.sl Cell.c_len).cell
          have HX9 := Lib.hid (HXa.out.ext hb9)
          have HW9 := Lib.hid (HWa.out.ext hb9)
          have HC9 := Lib.hid (HCa.out.ext hb9)
          have HY9 := Lib.hid hO9
          have hB29 := Lib.hid (Nat.le_trans hB2a.out hb9.size)
          have HDis := Lib.hid (fun cs (hcs : ∀ j, cs.ownBlock = some j → j < w8.heap.size) => show DisS (.slice A4' ys.length cap4) cs from fun j h1 h2 => by
            have e1 := hO9.base j h1
            have e2 := hcs j h2
            omega)
          replace HDis := Lib.hid (HDis.out _ HWa.out.lt)
          clear hO9 hb9 HXa HWa HCa hB2a qa g0 g1 g2 c0 c1
          generalize w8.heap.size = B4 at *
          dsimp only
          go_wp2_with fail
          go_loopw [12, 13, 54] (fun b cs i wr => ∃ (m : Nat) (best : Int) (cells : List Cell), m ≤ ys.length ∧ i = .int .i64 (m : Int) ∧ b = .int .i64 best ∧ Sc4 w h cv E (ef - ((j : Int) + 1)) R k c ys m best cells ∧ (-1 ≤ best ∧ best < 60) ∧ DisS (.slice A4' ys.length cap4) cs ∧ (∀ j, cs.ownBlock = some j → j ≠ NB) ∧ Own wr B2 36 Cell.c 2 cs cells ∧ Own wr B4 36 Cell.c 2 (.slice A4' ys.length cap4) ys ∧ Bk wr NB 36 #[.int .i8 c.x, .int .i8 c.y] ∧ FxI W B2 g M #[.int .i8 w, .int .i8 h, .slice A sl.length cap] #[.int .i8 fr.x, .int .i8 fr.y] B1 u8 out (.slice (some ⟨b1, o1, none⟩) R.length cap2) R wr ∧ B2 ≤ wr.heap.size) (fun _ _ i _ => ys.length - (intOf i).toNat)
          case atStart => exact ⟨0, best, cells, by omega, rfl, rfl, HZ4.out, hbd, HDis.out, HND0.out, HW9.out, HY9.out, HC9.out, HX9.out, hB29.out⟩
          case round =>
            clear HZ4 HDis HND0 HW9 HY9 HC9 HX9 hB29 hbd
            obtain ⟨m, best, cells, hm, rfl, rfl, hSc, hbd, hD', hND', hW, hY, hC', hX, hB⟩ := hrel
            have HND := Lib.hid hND'
            have HSc := Lib.hid hSc
            have HD := Lib.hid hD'
            have HW := Lib.hid hW
            have HY := Lib.hid hY
            have HC := Lib.hid hC'
            have HX := Lib.hid hX
            have hB2 := Lib.hid hB
            clear hSc hD' hND' hW hY hC' hX hB
            have hy4 := hyl.out
            by_cases hml : m < ys.length
            · obtain ⟨A5, cap5, hvv, -, -, hcell⟩ := (HY.out.sl Cell.c_len).cell
              obtain ⟨rfl, rfl⟩ : A4' = A5 ∧ cap4 = cap5 := by injection hvv with e1 e2 e3; exact ⟨e1, e3⟩
              obtain ⟨b2, o2, rfl, hbb2, c0, c1⟩ := hcell m hml
              clear hcell hvv
              have hm0 : (0 : Int) ≤ (m : Int) := by omega
              have hm1 : (m : Int) < (ys.length : Int) := by omega
              have hmd : decide ((m : Int) < (ys.length : Int)) = true := by rw [decide_eq_true_eq]; omega
              have hdpt := Lib.hid (hyp.out ys[m] (List.getElem_mem hml))
              have Hsk := Lib.hid (HSc.out.skip hml)
              have Hle := Lib.hid (HSc.out.less hml)
              have Had := Lib.hid (HSc.out.add hml)
              have Hnw := Lib.hid (HSc.out.new hml)
              obtain ⟨d, hde⟩ : ∃ d, ys[m] = d := ⟨_, rfl⟩
              rw [hde] at hdpt c0 c1 Hsk Hle Had Hnw
              clear hde
              have hdok := Lib.hid (gp_okS hw1 hh1 hdpt.out)
              have HX7 := Lib.hid (HX.out.alloc (.cells #[.int .i8 d.x, .int .i8 d.y] 36))
              have HW7 := Lib.hid (HW.out.alloc (.cells #[.int .i8 d.x, .int .i8 d.y] 36))
              have HY7 := Lib.hid (HY.out.alloc (.cells #[.int .i8 d.x, .int .i8 d.y] 36))
              have HC7 := Lib.hid (HC.out.alloc (.cells #[.int .i8 d.x, .int .i8 d.y] 36))
              have HD7 := Lib.hid (Bk.new wr 36 #[.int .i8 d.x, .int .i8 d.y] wr.heap.size rfl)
              have hB27 := Lib.hid (show B2 ≤ (wr.alloc (.cells #[.int .i8 d.x, .int .i8 d.y] 36)).heap.size from Nat.le_trans hB2.out (by simp))
              have g0 := HX7.out.sq.cell 0 _ rfl
              have g1 := HX7.out.sq.cell 1 _ rfl
              have g2 := HX7.out.sq.cell 2 _ rfl
              have q1 := Lib.hid (qc.out d hdpt.out _ (HQ0.out.ext (show Below W.heap.size W (wr.alloc (.cells #[.int .i8 d.x, .int .i8 d.y] 36)) from HX7.out.bel)))
              have hud : cv d < 60 := by have := hub.out d; have := hsl60.out; omega
              clear HX HW HY HC hB2
              go_wp2_with fail
              generalize wr.alloc (.cells #[.int .i8 d.x, .int .i8 d.y] 36) = w7 at *
              refine q1.out.mono ?_
              rintro e w8 ⟨rfl, hb8⟩
              have HX8 := Lib.hid (HX7.out.ext hb8)
              have HW8 := Lib.hid (HW7.out.ext hb8)
              have HY8 := Lib.hid (HY7.out.ext hb8)
              have HC8 := Lib.hid (HC7.out.ext hb8)
              have HD8 := Lib.hid (HD7.out.ext hb8)
              have hB28 := Lib.hid (Nat.le_trans hB27.out hb8.size)
              clear hb8 HX7 HW7 HY7 HC7 HD7 hB27 q1 g0 g1 g2 c0 c1
              have g0 := HX8.out.sq.cell 0 _ rfl
              have g1 := HX8.out.sq.cell 1 _ rfl
              have g2 := HX8.out.sq.cell 2 _ rfl
              have m0 := HC8.out.cell 0 _ rfl
              have m1 := HC8.out.cell 1 _ rfl
              have y0 := HD8.out.cell 0 _ rfl
              have y1 := HD8.out.cell 1 _ rfl
              have q2 := Lib.hid (qe.out c d hcpt.out hdpt.out _ (HQ0.out.ext (show Below W.heap.size W w8 from HX8.out.bel)))
              have he01 := entI_01 cv c d
              dsimp only
              go_wp2_with fail
              refine q2.out.mono ?_
              rintro e w9 ⟨rfl, hb9⟩
              have HX9 := Lib.hid (HX8.out.ext hb9)
              have HW9 := Lib.hid (HW8.out.ext hb9)
              have HY9 := Lib.hid (HY8.out.ext hb9)
              have HC9 := Lib.hid (HC8.out.ext hb9)
              have HD9 := Lib.hid (HD8.out.ext hb9)
              have hB29 := Lib.hid (Nat.le_trans hB28.out hb9.size)
              clear hb9 HX8 HW8 HY8 HC8 HD8 hB28 q2 g0 g1 g2 m0 m1 y0 y1
              have y0 := HD9.out.cell 0 _ rfl
              have y1 := HD9.out.cell 1 _ rfl
              have lk := HX9.out.map.look Try.underlying164 (zeroI64S_run _) d hdok.out
              rw [hME.out] at lk
              simp only [Cell.v] at lk
              dsimp only
              by_cases hen : entI cv c d = 0
              · have HN := Lib.hid (Hsk.out (by rw [hen]; omega))
                rw [hen]
                clear Hsk Hle Had Hnw hen he01
                go_wp2_with fail
                go_roundw
                case rel => exact ⟨m + 1, best, cells, by omega, by go_num, rfl, HN.out, hbd, HD.out, HND.out, HW9.out, HY9.out, HC9.out, HX9.out, hB29.out⟩
                case measure => first | (simp [intOf]; done) | (simp [intOf]; omega)
              · have hen1 : entI cv c d = 1 := by omega
                rw [hen1]
                by_cases hEd : E d = ef - ((j : Int) + 1)
                · have hEd2 : (E d != ef - (j : Int) - 1) = false := by simp; omega
                  by_cases hbl : 0 ≤ best ∧ best < cv d
                  · have HN := Lib.hid (Hle.out hen1 hEd hbl.1 hbl.2)
                    have hb0 : decide (0 ≤ best) = true := decide_eq_true hbl.1
                    have hb1 : decide (best < cv d) = true := decide_eq_true hbl.2
                    clear Hsk Hle Had Hnw hen hen1 he01 hbl hEd
                    go_wp2_with fail
                    go_roundw
                    case rel => exact ⟨m + 1, best, cells, by omega, by go_num, rfl, HN.out, hbd, HD.out, HND.out, HW9.out, HY9.out, HC9.out, HX9.out, hB29.out⟩
                    case measure => first | (simp [intOf]; done) | (simp [intOf]; omega)
                  · by_cases hb0 : 0 ≤ best
                    · have hb0' : decide (0 ≤ best) = true := decide_eq_true hb0
                      have hb1 : decide (best < cv d) = false := decide_eq_false (by omega)
                      by_cases heq : cv d = best
                      · have HN := Lib.hid (Had.out hen1 hEd hb0 heq)
                        have hb2 : decide (cv d < best) = false := decide_eq_false (by omega)
                        have hb3 : decide (best < 0) = false := decide_eq_false (by omega)
                        clear Hsk Hle Had Hnw hen hen1 he01 hbl hEd heq hb0
                        have hba := Lib.hid (HX9.out.alloc (.cells #[.int .i8 d.x, .int .i8 d.y] 36))
                        have hle := HSc.out.le
                        go_wp2_with (at_builtin; refine push_cellat rfl _ _ rfl B2 cells _ rfl (HW9.out.alloc _) _ d rfl (Bk.new _ _ _ _ (by simp)) (by have := hRl.out; have := hyl.out; omega) (Nat.le_trans hB29.out (by simp)) ?_)
                        intro v10 w10 hO10 hG10 hat10
                        have HX10 := Lib.hid (hba.out.grown hG10 (fun j hj => HW9.out.base j hj))
                        have HC10 := Lib.hid ((HC9.out.alloc (.cells #[.int .i8 d.x, .int .i8 d.y] 36)).grownOb hG10 (fun e => HND.out _ e.symm rfl))
                        have HY10 := Lib.hid ((HY9.out.alloc (.cells #[.int .i8 d.x, .int .i8 d.y] 36)).grownOb hG10 (fun j hj e => HD.out j hj e.symm))
                        have HW10 := Lib.hid hO10
                        have HD10 := Lib.hid (show DisS (.slice (some ⟨b2, o2, none⟩) ys.length cap4) v10 from fun j h1 h2 => by
                          rcases hat10 with e | e
                          · rw [h2] at e
                            exact HD.out j h1 e.symm
                          · have h3 := HY9.out.lt j h1
                            rw [h2] at e
                            injection e with e
                            omega)
                        have hB210 := Lib.hid (Nat.le_trans (Nat.le_trans hB29.out (by simp)) hG10.size)
                        have HND10 := Lib.hid (show ∀ j, v10.ownBlock = some j → j ≠ NB from fun j h2 => by
                          rcases hat10 with e | e
                          · rw [h2] at e
                            exact HND.out j e.symm
                          · have h3 := HC9.out.lt
                            rw [h2] at e
                            injection e with e
                            omega)
                        clear hO10 hG10 hat10 y0 y1
                        go_wp2_with fail
                        go_roundw
                        case rel => exact ⟨m + 1, best, _, by omega, by go_num, rfl, HN.out, hbd, HD10.out, HND10.out, HW10.out, HY10.out, HC10.out, HX10.out, hB210.out⟩
                        case measure => first | (simp [intOf]; done) | (simp [intOf]; omega)
                      · have hlt2 : cv d < best := by omega
                        have HN := Lib.hid (Hnw.out hen1 hEd (.inr hlt2))
                        have hb2 : decide (cv d < best) = true := decide_eq_true hlt2
                        have hcd0 := (entI_one.1 hen1).1
                        clear Hsk Hle Had Hnw hen hen1 he01 hbl hEd heq hb0 hlt2
                        have hba := Lib.hid (HX9.out.alloc (.cells #[.int .i8 d.x, .int .i8 d.y] 36))
                        have hle := HSc.out.le
                        go_wp2_with (at_builtin; refine push_cellat rfl _ _ rfl B2 [] _ rfl (Own.nil_ _ _ _ _ _) _ d rfl (Bk.new _ _ _ _ (by simp)) (by simp) (Nat.le_trans hB29.out (by simp)) ?_)
                        intro v10 w10 hO10 hG10 hat10
                        have HX10 := Lib.hid (hba.out.grown hG10 (fun j hj => by simp [Value.ownBlock] at hj))
                        have HC10 := Lib.hid ((HC9.out.alloc (.cells #[.int .i8 d.x, .int .i8 d.y] 36)).grownOb hG10 (fun e => by simp [Value.ownBlock] at e))
                        have HY10 := Lib.hid ((HY9.out.alloc (.cells #[.int .i8 d.x, .int .i8 d.y] 36)).grownOb hG10 (fun j hj e => by simp [Value.ownBlock] at e))
                        have HW10 := Lib.hid hO10
                        have HD10 := Lib.hid (show DisS (.slice (some ⟨b2, o2, none⟩) ys.length cap4) v10 from fun j h1 h2 => by
                          rcases hat10 with e | e
                          · rw [h2] at e
                            simp [Value.ownBlock] at e
                          · have h3 := HY9.out.lt j h1
                            rw [h2] at e
                            injection e with e
                            omega)
                        have hB210 := Lib.hid (Nat.le_trans (Nat.le_trans hB29.out (by simp)) hG10.size)
                        have HND10 := Lib.hid (show ∀ j, v10.ownBlock = some j → j ≠ NB from fun j h2 => by
                          rcases hat10 with e | e
                          · rw [h2] at e
                            simp [Value.ownBlock] at e
                          · have h3 := HC9.out.lt
                            rw [h2] at e
                            injection e with e
                            omega)
                        clear hO10 hG10 hat10 y0 y1
                        go_wp2_with fail
                        go_roundw
                        case rel => exact ⟨m + 1, cv d, _, by omega, by go_num, rfl, HN.out, ⟨by have := hge.out d; omega, hud⟩, HD10.out, HND10.out, HW10.out, HY10.out, HC10.out, HX10.out, hB210.out⟩
                        case measure => first | (simp [intOf]; done) | (simp [intOf]; omega)
                    · have hb0' : decide (0 ≤ best) = false := decide_eq_false hb0
                      have HN := Lib.hid (Hnw.out hen1 hEd (.inl (by omega)))
                      have hcd0 := (entI_one.1 hen1).1
                      have hb2 : decide (cv d < best) = false := decide_eq_false (by omega)
                      have hb3 : decide (best < 0) = true := decide_eq_true (by omega)
                      clear Hsk Hle Had Hnw hen hen1 he01 hbl hEd hb0
                      have hba := Lib.hid (HX9.out.alloc (.cells #[.int .i8 d.x, .int .i8 d.y] 36))
                      have hle := HSc.out.le
                      go_wp2_with (at_builtin; refine push_cellat rfl _ _ rfl B2 [] _ rfl (Own.nil_ _ _ _ _ _) _ d rfl (Bk.new _ _ _ _ (by simp)) (by simp) (Nat.le_trans hB29.out (by simp)) ?_)
                      intro v10 w10 hO10 hG10 hat10
                      have HX10 := Lib.hid (hba.out.grown hG10 (fun j hj => by simp [Value.ownBlock] at hj))
                      have HC10 := Lib.hid ((HC9.out.alloc (.cells #[.int .i8 d.x, .int .i8 d.y] 36)).grownOb hG10 (fun e => by simp [Value.ownBlock] at e))
                      have HY10 := Lib.hid ((HY9.out.alloc (.cells #[.int .i8 d.x, .int .i8 d.y] 36)).grownOb hG10 (fun j hj e => by simp [Value.ownBlock] at e))
                      have HW10 := Lib.hid hO10
                      have HD10 := Lib.hid (show DisS (.slice (some ⟨b2, o2, none⟩) ys.length cap4) v10 from fun j h1 h2 => by
                        rcases hat10 with e | e
                        · rw [h2] at e
                          simp [Value.ownBlock] at e
                        · have h3 := HY9.out.lt j h1
                          rw [h2] at e
                          injection e with e
                          omega)
                      have hB210 := Lib.hid (Nat.le_trans (Nat.le_trans hB29.out (by simp)) hG10.size)
                      have HND10 := Lib.hid (show ∀ j, v10.ownBlock = some j → j ≠ NB from fun j h2 => by
                        rcases hat10 with e | e
                        · rw [h2] at e
                          simp [Value.ownBlock] at e
                        · have h3 := HC9.out.lt
                          rw [h2] at e
                          injection e with e
                          omega)
                      clear hO10 hG10 hat10 y0 y1
                      go_wp2_with fail
                      go_roundw
                      case rel => exact ⟨m + 1, cv d, _, by omega, by go_num, rfl, HN.out, ⟨by have := hge.out d; omega, hud⟩, HD10.out, HND10.out, HW10.out, HY10.out, HC10.out, HX10.out, hB210.out⟩
                      case measure => first | (simp [intOf]; done) | (simp [intOf]; omega)
                · have hEd2 : (E d != ef - (j : Int) - 1) = true := by simp; omega
                  have HN := Lib.hid (Hsk.out (fun h => hEd h.2))
                  clear Hsk Hle Had Hnw hen hen1 he01 hEd
                  go_wp2_with fail
                  go_roundw
                  case rel => exact ⟨m + 1, best, cells, by omega, by go_num, rfl, HN.out, hbd, HD.out, HND.out, HW9.out, HY9.out, HC9.out, HX9.out, hB29.out⟩
                  case measure => first | (simp [intOf]; done) | (simp [intOf]; omega)
            · obtain rfl : m = ys.length := by omega
              have hmd : decide ((ys.length : Int) < (ys.length : Int)) = false := by rw [decide_eq_false_iff_not]; omega
              have HN := Lib.hid (hfin.out best cells HSc.out)
              go_wp2_with fail
              go_roundw
              case rel => exact ⟨k + 1, best, cells, by omega, by go_num, rfl, HN.out, hbd, HW.out, HX.out, hB2.out⟩
              case measure => first | (simp [intOf]; done) | (simp [intOf]; omega)
        · obtain rfl : k = R.length := by omega
          have hkd : decide ((R.length : Int) < (R.length : Int)) = false := by rw [decide_eq_false_iff_not]; omega
          obtain ⟨hb0, hcp, hnext⟩ := hstep.out best cells HSc.out
          have hcl := HSc.out.len
          go_wp2_with fail
          clear hstep HSc
          have hob : ∀ j, u8.ownBlock = some j → W.heap.size + 1 < j ∧ j < B2 := fun j hj => ⟨hobW.out j hj, HX.out.oB j hj⟩
          have hoB := Lib.hid hob
          have qr2 := Lib.hid (fun X (hG : wr.grownBy X u8.ownBlock) => qr.out cells _ hcp (by have := hRl.out; omega) X (HQ0.out.ext (HX.out.bel.grown hG HX.out.bel.size (fun j hj => by have := hob j hj; omega))) ((HW.out.grownOb hG (fun j hj e => by have := hob j e.symm; have := HW.out.base j hj; omega)).sl Cell.c_len))
          have hS : FwS wr u8.ownBlock W.heap.size w h (.slice A sl.length cap) wr := ⟨World.grownBy.refl _ _, HX.out.sq.cell 0 _ rfl, HX.out.sq.cell 1 _ rfl, HX.out.sq.cell 2 _ rfl⟩
          have hlt9 := HX.out.sq.lt
          have hne9 : some W.heap.size ≠ u8.ownBlock := fun e => by have := hob _ e.symm; omega
          have hB1w := Lib.hid (show B1 ≤ wr.heap.size from Nat.le_trans hB12.out hB2.out)
          clear hob
          refine wp_region_held_drew (S := (FwS wr u8.ownBlock W.heap.size w h (.slice A sl.length cap))) (by kernel_rfl) ?r22_hS0 (fun hHeld => ?r22_rest)
          case r22_hS0 => (try dsimp only); first | assumption | exact FwS.keep hlt9 (by assumption) ((Below.refl _ _).drew) | exact FwS.keep hlt9 (by assumption) (by assumption) | exact FwS.keep hlt9 (by assumption) ((Below.refl _ _).alloc (Nat.le_refl _) _) | exact FwS.app hlt9 hne9 (by assumption) hG9
          refine wpAnyH_take (i := 0) (v := ?r22_vv0) (by (simp only [List.getElem?_toArray, List.getElem?_cons_succ, List.getElem?_cons_zero]; rfl)) (by kernel_rfl) (by kernel_rfl) (by kernel_rfl) (by exact fun _ _ _ h => h) (Or.inl ⟨by rfl, ?r22_hy0⟩) (by assumption) ?r22_rest0
          case r22_hy0 => intro w hSw; (try dsimp only at hSw); (go_simp <;> (with_reducible rfl))
          try simp only [Act.put, List.setIfInBounds_toArray, List.set_cons_zero, List.set_cons_succ]
          refine wpAnyH_take (i := 1) (v := ?r22_vv1) (by (simp only [List.getElem?_toArray, List.getElem?_cons_succ, List.getElem?_cons_zero]; rfl)) (by kernel_rfl) (by kernel_rfl) (by kernel_rfl) (by exact fun _ _ _ h => h) (Or.inl ⟨by rfl, ?r22_hy1⟩) (by assumption) ?r22_rest1
          case r22_hy1 => intro w hSw; (try dsimp only at hSw); (go_simp <;> (with_reducible rfl))
          try simp only [Act.put, List.setIfInBounds_toArray, List.set_cons_zero, List.set_cons_succ]
          refine wpAnyH_take (i := 4) (v := ?r22_vv4) (by (simp only [List.getElem?_toArray, List.getElem?_cons_succ, List.getElem?_cons_zero]; rfl)) (by kernel_rfl) (by kernel_rfl) (by kernel_rfl) (by exact fun _ _ _ h => h) (Or.inl ⟨by rfl, ?r22_hy4⟩) (by assumption) ?r22_rest4
          case r22_hy4 => intro w hSw; (try dsimp only at hSw); (go_simp <;> (with_reducible rfl))
          try simp only [Act.put, List.setIfInBounds_toArray, List.set_cons_zero, List.set_cons_succ]
          refine wpAnyH_take (i := 5) (v := ?r22_vv5) (by (simp only [List.getElem?_toArray, List.getElem?_cons_succ, List.getElem?_cons_zero]; rfl)) (by kernel_rfl) (by kernel_rfl) (by kernel_rfl) (by exact fun _ _ _ h => h) (Or.inl ⟨by rfl, ?r22_hy5⟩) (by assumption) ?r22_rest5
          case r22_hy5 => intro w hSw; (try dsimp only at hSw); (go_simp <;> (with_reducible rfl))
          try simp only [Act.put, List.setIfInBounds_toArray, List.set_cons_zero, List.set_cons_succ]
          refine wpAnyH_ready (rs := [2]) (by kernel_rfl) (by simp) ?_
          refine AllReadyH.cons (by (simp only [List.getElem?_toArray, List.getElem?_cons_succ, List.getElem?_cons_zero]; rfl)) (fun K hK => ?_) AllReadyH.nil
          go_simp
          skip
          try go_wp2_with fail
          refine hK.out _ _ ?r22_hS2 (fun hHeld => ?r22_r2)
          case r22_hS2 => (try dsimp only); first | assumption | exact FwS.keep hlt9 (by assumption) ((Below.refl _ _).drew) | exact FwS.keep hlt9 (by assumption) (by assumption) | exact FwS.keep hlt9 (by assumption) ((Below.refl _ _).alloc (Nat.le_refl _) _) | exact FwS.app hlt9 hne9 (by assumption) hG9
          clear hK K
          try simp only [Act.put, List.setIfInBounds_toArray, List.set_cons_zero, List.set_cons_succ]
          refine wpAnyH_ready (rs := [3]) (by kernel_rfl) (by simp) ?_
          refine AllReadyH.cons (by (simp only [List.getElem?_toArray, List.getElem?_cons_succ, List.getElem?_cons_zero]; rfl)) (fun K hK => ?_) AllReadyH.nil
          (refine step_app appI64S rfl _ _ rfl B1 out [best] u8 _ rfl rfl (by first | exact HX.out.out.alloc _ | exact (own_atS HX.out.out rfl).alloc _ | exact own_atS ((own_atS HX.out.out rfl).alloc _) rfl) (by first | exact sl1iS _ best _ rfl _ | exact Sl.ext (sl1iS _ best _ rfl _) ((Below.refl _ _).drew)) (by have := hol.out; simp; omega) (by have := hol.out; simp; omega) (by have := hB1w.out; first | (simp; omega) | exact Nat.le_trans this (by simp)) ?_; intro v9 w9 hO9 hG9 hat9)
          refine hK.out _ _ ?r22_hS3 (fun hHeld => ?r22_r3)
          case r22_hS3 => (try dsimp only); first | assumption | exact FwS.keep hlt9 (by assumption) ((Below.refl _ _).drew) | exact FwS.keep hlt9 (by assumption) (by assumption) | exact FwS.keep hlt9 (by assumption) ((Below.refl _ _).alloc (Nat.le_refl _) _) | exact FwS.app hlt9 hne9 (by assumption) hG9
          clear hK K
          try simp only [Act.put, List.setIfInBounds_toArray, List.set_cons_zero, List.set_cons_succ]
          refine wpAnyH_ready (rs := [6]) (by kernel_rfl) (by simp) ?_
          refine AllReadyH.cons (by (simp only [List.getElem?_toArray, List.getElem?_cons_succ, List.getElem?_cons_zero]; rfl)) (fun K hK => ?_) AllReadyH.nil
          go_simp
          (go_at_call 146; (with_reducible refine (qr2.out _ (And.left (b := _) (by assumption))).mono ?_); rintro e w10 ⟨⟨v10, R10, rfl, hO10, hR10, hl10⟩, hb10⟩)
          try go_wp2_with fail
          refine hK.out _ _ ?r22_hS6 (fun hHeld => ?r22_r6)
          case r22_hS6 => (try dsimp only); first | assumption | exact FwS.keep hlt9 (by assumption) ((Below.refl _ _).drew) | exact FwS.keep hlt9 (by assumption) (by assumption) | exact FwS.keep hlt9 (by assumption) ((Below.refl _ _).alloc (Nat.le_refl _) _) | exact FwS.app hlt9 hne9 (by assumption) hG9
          clear hK K
          try simp only [Act.put, List.setIfInBounds_toArray, List.set_cons_zero, List.set_cons_succ]
          refine wpAnyH_take (i := 7) (v := ?r22_vv7) (by (simp only [List.getElem?_toArray, List.getElem?_cons_succ, List.getElem?_cons_zero]; rfl)) (by kernel_rfl) (by kernel_rfl) (by kernel_rfl) (by exact fun _ _ _ h => h) (Or.inl ⟨by rfl, ?r22_hy7⟩) (by assumption) ?r22_rest7
          case r22_hy7 => intro w hSw; (try dsimp only at hSw); (go_simp <;> (with_reducible rfl))
          try simp only [Act.put, List.setIfInBounds_toArray, List.set_cons_zero, List.set_cons_succ]
          refine wpAnyH_take (i := 8) (v := ?r22_vv8) (by (simp only [List.getElem?_toArray, List.getElem?_cons_succ, List.getElem?_cons_zero]; rfl)) (by kernel_rfl) (by kernel_rfl) (by kernel_rfl) (by exact fun _ _ _ h => h) (Or.inl ⟨by rfl, ?r22_hy8⟩) (by assumption) ?r22_rest8
          case r22_hy8 => intro w hSw; (try dsimp only at hSw); (go_simp <;> (with_reducible rfl))
          try simp only [Act.put, List.setIfInBounds_toArray, List.set_cons_zero, List.set_cons_succ]
          refine wpAnyH_done (by kernel_rfl) ?_ _
          have hSF : FwS wr u8.ownBlock W.heap.size w h (.slice A sl.length cap) w10 := by assumption
          have HGR := Lib.hid hSF.1
          have HO10 := Lib.hid (Own.ext_atS hb10 hO9 rfl)
          have HR10 := Lib.hid (hO10.more (B' := B1) (by have h1 := hB1w.out; have h2 := hG9.size; first | omega | (simp at h2 ⊢; omega)))
          have hL10 := Lib.hid (hnext R10 hR10)
          have hl10 := Lib.hid hl10
          have HM10 := Lib.hid (HX.out.map.grownOb HGR.out (fun e => by have h1 := HX.out.out.base _ e.symm; have := hgl.out; omega))
          have HG10 := Lib.hid (HX.out.sq.grownOb HGR.out hne9)
          have HF10 := Lib.hid (HX.out.fr.grownOb HGR.out (fun e => by have := hoB.out _ e.symm; omega))
          have HB10 := Lib.hid (HX.out.bel.grown HGR.out HX.out.bel.size (fun j hj => by have := hoB.out j hj; omega))
          have hB110 := Lib.hid (Nat.le_trans hB1w.out HGR.out.size)
          clear hSF hS hO9 hO10 hG9 hat9 hb10 hR10 HX HW hnext qr2
          repeat clear hHeld
          go_wp2_with fail
          go_roundw
          case rel => exact ⟨j + 1, out ++ [best], R10, by omega, hB110.out, by congr 1; omega, hL10.out, by have h1 := hl10.out; have h2 := hRl.out; omega, HO10.out, HR10.out, HM10.out, HG10.out, HF10.out, HB10.out⟩
          case measure => first | (simp [intOf]; done) | (simp [intOf]; omega)
    · obtain rfl : ef = (j : Int) := by omega
      have hfin := Lib.hid (HL.out.toT.fin hD.out HT.out HF.out hEf.symm)
      go_wp2_with fail
      go_ret
      exact ⟨⟨_, rfl, by rw [← hfin.out]; exact HO.out.more (by have := hgl.out; have := hgb.out; omega)⟩, HBr.out⟩
end Go.Proofs.Yteflpdfajfljfaa
