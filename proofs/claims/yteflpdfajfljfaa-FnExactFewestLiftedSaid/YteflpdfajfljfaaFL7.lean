/-
Least numbers of slabs, of the reference. Conditions: the square is valid, the end is one of its cells.
-/
import Derived.Test.YteflpdfajfljfaaFL6
import Derived.Test.YteflpdfajfljfaaFL5
import Derived.Test.YteflpdfajfljfaaSQ12
set_option linter.unusedVariables false
set_option linter.unusedSimpArgs false
set_option maxRecDepth 100000
namespace Go.Proofs.Yteflpdfajfljfaa
open Go.RowKit
theorem ptT_nat {w h : Int} {c : Cell} (hw : w ≤ 12) (hh : h ≤ 12) (hc : gpB w h c = true) : ∃ a b : Nat, a < 12 ∧ b < 12 ∧ c = ⟨(a : Int), (b : Int)⟩ := by
  obtain ⟨x, y⟩ := c
  obtain ⟨h1, h2, h3, h4⟩ := gpB_true.1 hc
  simp only at h1 h2 h3 h4
  exact ⟨x.toNat, y.toNat, by omega, by omega, by congr 1 <;> omega⟩
theorem idxT_nat (a b : Nat) : idxT ⟨(a : Int), (b : Int)⟩ = b * 12 + a := by unfold idxT; simp only; omega
theorem tabT_nat (L : List Int) (hl : L.length = 144) (a b : Nat) (ha : a < 12) (hb : b < 12) : (gcells L)[b * 12 + a]? = some (.int .i64 (atT L ⟨(a : Int), (b : Int)⟩)) := by
  refine gcells_get L _ _ ?_
  unfold atT
  rw [idxT_nat, List.getD_eq_getElem?_getD, List.getElem?_eq_getElem (by omega)]
  rfl
theorem tabT_put (L : List Int) (a b : Nat) (n : Int) : (gcells L).setIfInBounds (b * 12 + a) (.int .i64 n) = gcells (L.set (idxT ⟨(a : Int), (b : Int)⟩) n) := by rw [gcells_set, idxT_nat]
theorem gridT_nat (sl : List Slab) (a b : Nat) (ha : a < 12) (hb : b < 12) : (gcells (gridL sl))[b * 12 + a]? = some (.int .i64 (cvS sl ⟨(a : Int), (b : Int)⟩ + 1)) := gcells_get _ _ _ (gridL_get sl a b ha hb)
def z144 : List Int := List.replicate 144 0
theorem z144_len : z144.length = 144 := rfl
theorem zeroT : Try.zeroCells69 = gcells z144 := by kernel_rfl
theorem infoT (L : List Int) (hl : L.length = 144) : (Try.prog.info? 69).map (·.size) = some (gcells L).size := by rw [gcells_size, hl]; kernel_rfl
/-- What the loops of the reference keep. -/
structure CxI (W : World) (b o : Nat) (w h : Int) (z : Value) (sl : List Slab) (G5 G7 B8 : Nat) (v8 : Value) (xs : List Cell) (tg : Cell) (L : List Int) (x : World) : Prop where
  box : Bk x W.heap.size 36 #[.int .i8 tg.x, .int .i8 tg.y]
  res : Bk x (W.heap.size + 1) 69 Try.zeroCells69
  grid : Bk x G5 70 (gcells (gridL sl))
  tab : Bk x G7 69 (gcells L)
  row : Own x B8 36 Cell.c 2 v8 xs
  sq : Sq.at_ x b o w h z
  bel : Below W.heap.size W x
  s1 : W.heap.size + 1 < G5
  s2 : G5 < G7
  s3 : G7 < B8
  s4 : b < W.heap.size
section
variable {W x y : World} {b o : Nat} {w h : Int} {z : Value} {sl : List Slab} {G5 G7 B8 : Nat} {v8 : Value} {xs : List Cell} {tg : Cell} {L : List Int}
theorem CxI.ext (q : CxI W b o w h z sl G5 G7 B8 v8 xs tg L x) (hb : Below x.heap.size x y) : CxI W b o w h z sl G5 G7 B8 v8 xs tg L y :=
  ⟨q.box.ext hb, q.res.ext hb, q.grid.ext hb, q.tab.ext hb, q.row.ext hb, q.sq.ext hb, ext_trans q.bel hb, q.s1, q.s2, q.s3, q.s4⟩
theorem Bk.at_S {x y : World} {g : Nat} {T : TypeId} {cs : Array Value} (h : Bk x g T cs) (he : y.heap = x.heap) : Bk y g T cs := by unfold Bk at *; rw [he]; exact h
theorem Sq.at_.at_S {x y : World} {b o : Nat} {w h : Int} {z : Value} (q : Sq.at_ x b o w h z) (he : y.heap = x.heap) : Sq.at_ y b o w h z := by
  have hc : ∀ p, y.cell? p = x.cell? p := fun p => by simp only [World.cell?, he]
  exact ⟨(hc _).trans q.c0, (hc _).trans q.c1, (hc _).trans q.c2, by rw [he]; exact q.lt⟩
theorem CxI.at_ (q : CxI W b o w h z sl G5 G7 B8 v8 xs tg L x) (he : y.heap = x.heap) (h1 : y.os = x.os) (h2 : y.tape = x.tape) (h3 : y.output = x.output) : CxI W b o w h z sl G5 G7 B8 v8 xs tg L y :=
  ⟨q.box.at_S he, q.res.at_S he, q.grid.at_S he, q.tab.at_S he, own_atS q.row he, q.sq.at_S he, below_atS q.bel he h1 h2 h3, q.s1, q.s2, q.s3, q.s4⟩
theorem CxI.put (q : CxI W b o w h z sl G5 G7 B8 v8 xs tg L x) (i : Nat) (n : Int) : CxI W b o w h z sl G5 G7 B8 v8 xs tg (L.set i n) (x.setCell ⟨G7, i, none⟩ (.int .i64 n)) := by
  have e1 := q.s1
  have e2 := q.s2
  have e3 := q.s3
  have e4 := q.s4
  have hne : ∀ j, j ≠ G7 → (x.setCell ⟨G7, i, none⟩ (.int .i64 n)).heap[j]? = x.heap[j]? := fun j hj => Below.heap_setCell _ _ _ _ (by simpa using hj)
  have hc : ∀ p, p < G7 → ∀ k, (x.setCell ⟨G7, i, none⟩ (.int .i64 n)).cell? ⟨p, k, none⟩ = x.cell? ⟨p, k, none⟩ := fun p hp k => by simp only [World.cell?, hne p (by omega)]
  refine ⟨q.box.oth i _ (by omega), q.res.oth i _ (by omega), q.grid.oth i _ (by omega), ?_, q.row.keep (fun j hj => hne j (by have := q.row.base j hj; omega)), ⟨(hc b (by omega) _).trans q.sq.c0, (hc b (by omega) _).trans q.sq.c1, (hc b (by omega) _).trans q.sq.c2, ?_⟩, q.bel.setCell (p := ⟨G7, i, none⟩) (by simp; omega) _, q.s1, q.s2, q.s3, q.s4⟩
  · rw [← gcells_set]; exact q.tab.set i _
  · have := q.sq.lt; simpa [World.setCell] using this
end
theorem fill_step {w h : Int} {L : List Int} {xs : List Cell} (hw : w ≤ 12) (hh : h ≤ 12) (hl : L.length = 144) (hpt : ∀ c ∈ xs, gpB w h c = true) (k : Nat) (hk : k < xs.length) (hi : ∀ j (hj : j < xs.length), j < k → atT L xs[j] = 1000) :
    (L.set (idxT xs[k]) 1000).length = 144 ∧ ∀ j (hj : j < xs.length), j < k + 1 → atT (L.set (idxT xs[k]) 1000) xs[j] = 1000 := by
  have hp := hpt xs[k] (List.getElem_mem hk)
  refine ⟨by rw [List.length_set]; exact hl, fun j hj hjk => ?_⟩
  by_cases e : xs[j] = xs[k]
  · rw [e, atT_same hl hw hh hp]
  · rw [atT_oth hw hh hp (hpt xs[j] (List.getElem_mem hj)) e]
    have : j ≠ k := fun e2 => e (by subst e2; rfl)
    exact hi j hj (by omega)
theorem coI_start {w h : Int} {cv : Cell → Int} {tg : Cell} {L : List Int} {xs : List Cell} (hw : w ≤ 12) (hh : h ≤ 12) (ht : gpB w h tg = true) (hl : L.length = 144) (hall : ∀ c, c ∈ xs ↔ gpB w h c = true) (hi : ∀ j (hj : j < xs.length), atT L xs[j] = 1000) :
    CoI w h cv tg (L.set (idxT tg) (onI cv tg)) := by
  refine ⟨by rw [List.length_set]; exact hl, fun c hc => ?_, ?_⟩
  · by_cases e : c = tg
    · subst e
      rw [atT_same hl hw hh ht]
      have := onI_01 cv c
      exact .inr ⟨by omega, by rw [Int.sub_self]; exact .here⟩
    · rw [atT_oth hw hh ht hc e]
      obtain ⟨j, hj, rfl⟩ := List.getElem_of_mem ((hall c).2 hc)
      exact .inl (hi j hj)
  · rw [atT_same hl hw hh ht]; exact Int.le_refl _
theorem min_on (cv : Cell → Int) (hcv : ∀ c, -1 ≤ cv c) (c : Cell) : min 1 (cv c + 1) = onI cv c := by
  have := hcv c
  unfold onI
  split <;> omega
abbrev CmT (tb gb gi : Nat) (t : Cell) (gv : Int) (w' : World) : Prop :=
  w'.cell? ⟨tb, 0, none⟩ = some (.int .i8 t.x) ∧ w'.cell? ⟨tb, 1, none⟩ = some (.int .i8 t.y) ∧ w'.cell? ⟨gb, gi, none⟩ = some (.int .i64 gv)
theorem CmT.set {tb gb gi : Nat} {t : Cell} {gv : Int} {w : World} (q : CmT tb gb gi t gv w) {g : Nat} (h1 : tb ≠ g) (h2 : gb ≠ g) (i : Nat) (v : Value) : CmT tb gb gi t gv (w.setCell ⟨g, i, none⟩ v) := by
  have hc : ∀ p, p ≠ g → ∀ k, (w.setCell ⟨g, i, none⟩ v).cell? ⟨p, k, none⟩ = w.cell? ⟨p, k, none⟩ := fun p hp k => by simp only [World.cell?, Below.heap_setCell w ⟨g, i, none⟩ v p (by simpa using hp)]
  exact ⟨(hc _ h1 _).trans q.1, (hc _ h1 _).trans q.2.1, (hc _ h2 _).trans q.2.2⟩
theorem cellretS {P : Program} {fn : Func} {t : Nat} {R : Ending → World → Prop} {a : Act} {W : World} {T n e : TypeId} (hr : fn.results = #[.cell t T]) {p : Nat} (hp : a.tmps.getD t undef = .pointer (some ⟨p, 0, none⟩)) {cs : Array Value} {T' : TypeId} (hb : Bk W p T' cs)
    (hu : P.underlying T = some (.array n e)) (hi : (P.info? T).map (·.size) = some cs.size) (hd : a.defers = []) (hR : R (.returned (.agg cs)) W) : bodyPost P fn R .ret a W := by
  refine bodyPost_ret (v := .agg cs) ?_ hd hR
  have := run_loadVar_mid (P := P) W p 0 T cs.toList _ (fun j v hj => by rw [Nat.zero_add]; exact hb.cell j v (by simpa using hj)) hu rfl (by simpa using hi)
  have hp2 : a.tmps[t]?.getD undef = .pointer (some ⟨p, 0, none⟩) := by simpa using hp
  simp [results, hr, hp2, this, asAddr, Sem.run_bind, Result.andThen]
set_option maxHeartbeats 8000000 in
theorem sCosts_calls (b o : Nat) (w h : Int) (z : Value) (sl : List Slab) (tg : Cell) (hv : sqOk w h sl = true) (ht : gpB w h tg = true) (W : World) (hq : SqIn W w h z sl) (ha : Sq.at_ W b o w h z) :
    Calls Try.prog 140 #[.pointer (some ⟨b, o, none⟩), tg.v] W fun e w' => (∃ L, L.length = 144 ∧ IsD w h (cvS sl) tg (fun c => atT L c - onI (cvS sl) c) ∧ e = .returned (.agg (gcells L))) ∧ Below W.heap.size W w' := by
  obtain ⟨⟨hw0, hw1⟩, ⟨hh0, hh1⟩, -⟩ := sqOk_edges hv
  have HQ0 := Lib.hid hq
  have HA0 := Lib.hid ha
  have HT := Lib.hid ht
  have e1 : ((w.toNat : Nat) : Int) = w := by omega
  have e2 : ((h.toNat : Nat) : Int) = h := by omega
  have qa := Lib.hid (fun W' (ha' : Sq.at_ W' b o ((w.toNat : Nat) : Int) ((h.toNat : Nat) : Int) z) => sAll_callsS b o w.toNat h.toNat (by omega) (by omega) z W' ha')
  rw [e1, e2] at qa
  have hpt := Lib.hid (fun c => ptsS_mem w.toNat h.toNat c)
  rw [e1, e2] at hpt
  have hpl := Lib.hid (show (ptsS w.toNat h.toNat).length ≤ 144 from by
    rw [ptsS_len]
    have : h.toNat * w.toNat ≤ 12 * 12 := Nat.mul_le_mul (by omega) (by omega)
    omega)
  have hge := Lib.hid (cvS_ge sl)
  have hend := Lib.hid (fun L (t : CoI w h (cvS sl) tg L) c => t.isD (cvS_ge sl) hw1 hh1 ht (ptsS w.toNat h.toNat) (fun c hc => (hpt.out c).2 hc) c)
  generalize ptsS w.toNat h.toNat = xs at *
  have hstart := Lib.hid (fun L hl hi => coI_start (cv := cvS sl) (L := L) hw1 hh1 ht hl hpt.out hi)
  have hmin := Lib.hid (min_on (cvS sl) (cvS_ge sl) tg)
  have qs := Lib.hid (fun c (hc : gpB w h c = true) W' ha' => sSides_calls b o w h hq.w0 hq.w1 hq.h0 hq.h1 z c (gpB_true.1 hc).1 (by have := gpB_true.1 hc; omega) (gpB_true.1 hc).2.2.1 (by have := gpB_true.1 hc; omega) W' ha')
  have hub := Lib.hid (fun c => show cvS sl c < 60 from by have h1 := (atI_bounds sl c.x c.y).2; have h2 : sl.length ≤ 60 := (by simp only [sqOk, Bool.and_eq_true, decide_eq_true_eq] at hv; exact hv.1.2); unfold cvS; omega)
  have hgrd := Lib.hid (gridT_nat sl)
  clear e1 e2 ht
  have hB := ext_alloc ((Below.refl W.heap.size W).alloc (Nat.le_refl _) (.cells #[.int .i8 tg.x, .int .i8 tg.y] 36)) (.cells Try.zeroCells69 69)
  have HB := Lib.hid hB
  have K3 := Lib.hid ((Bk.new W 36 #[.int .i8 tg.x, .int .i8 tg.y] W.heap.size rfl).alloc (.cells Try.zeroCells69 69))
  have K4 := Lib.hid (Bk.new (W.alloc (.cells #[.int .i8 tg.x, .int .i8 tg.y] 36)) 69 Try.zeroCells69 (W.heap.size + 1) (by simp))
  have ql := Lib.hid (lay_calls b o w h hq.w0 hq.w1 hq.h0 hq.h1 sl hq.ok z _ (hq.sl.ext hB) (ha.ext hB))
  rw [hv] at ql
  have hbl := Lib.hid ha.lt
  clear hB hq ha
  unfold Cell.v at *
  go_enter Try.func140, Try.ntmps140
  go_wp2_with fail
  refine ql.out.mono ?_
  rintro e w1 ⟨g, rfl, hgl, hgr, hb1⟩
  have hgg := hgr rfl
  subst hgg
  have HB1 := Lib.hid (ext_trans HB.out hb1)
  have HB5 := Lib.hid (HB1.out.alloc HB1.out.size (.cells Try.zeroCells70 70))
  have K5 := Lib.hid (Bk.new w1 70 Try.zeroCells70 w1.heap.size rfl)
  have K31 := Lib.hid ((K3.out.ext hb1).alloc (.cells Try.zeroCells70 70))
  have K41 := Lib.hid ((K4.out.ext hb1).alloc (.cells Try.zeroCells70 70))
  have hs5 := Lib.hid (show W.heap.size + 1 < w1.heap.size from (K4.out.ext hb1).lt)
  have hglH := Lib.hid hgl
  clear hb1 hgl hgr K3 K4 HB ql
  go_wp2_with (refine wpList_store_bk rfl 70 (.tmp 5) (.tmp 19) rfl _ (gcells (gridL sl)) rfl rfl _ _ K5.out (by rw [zsize, gcells_size, hglH.out]) (ginfo _ hglH.out) (gcells_one _) ?_)
  intro w6 k6 G6
  have KG6 := Lib.hid k6
  have HB6 := Lib.hid (HB5.out.grown G6 HB5.out.size (fun j hj => by injection hj with hj; have := hs5.out; omega))
  have K36 := Lib.hid (K31.out.grown G6 (by have := hs5.out; omega))
  have K46 := Lib.hid (K41.out.grown G6 (by have := hs5.out; omega))
  clear k6 G6 K5 K31 K41 HB5 HB1
  generalize w1.heap.size = G5 at *
  have K7 := Lib.hid (Bk.new w6 69 Try.zeroCells69 w6.heap.size rfl)
  have HB7 := Lib.hid (HB6.out.alloc HB6.out.size (.cells Try.zeroCells69 69))
  have KG7 := Lib.hid (KG6.out.alloc (.cells Try.zeroCells69 69))
  have K37 := Lib.hid (K36.out.alloc (.cells Try.zeroCells69 69))
  have K47 := Lib.hid (K46.out.alloc (.cells Try.zeroCells69 69))
  have hs7 := Lib.hid (show G5 < w6.heap.size from KG6.out.lt)
  clear KG6 K36 K46 HB6
  go_wp2_with (refine wpList_store_bk rfl 69 (.tmp 7) (.tmp 21) rfl _ Try.zeroCells69 rfl rfl _ _ K7.out rfl (by rw [zeroT]; exact infoT z144 z144_len) (by rw [zeroT]; exact gcells_one _) ?_)
  intro w8 k8 G8
  have KT8 := Lib.hid (show Bk w8 w6.heap.size 69 (gcells z144) from by rw [← zeroT]; exact k8)
  have HB8 := Lib.hid (HB7.out.grown G8 HB7.out.size (fun j hj => by injection hj with hj; have := hs7.out; have := hs5.out; omega))
  have KG8 := Lib.hid (KG7.out.grown G8 (by have := hs7.out; omega))
  have K38 := Lib.hid (K37.out.grown G8 (by have := hs7.out; have := hs5.out; omega))
  have K48 := Lib.hid (K47.out.grown G8 (by have := hs7.out; have := hs5.out; omega))
  clear k8 G8 K7 KG7 K37 K47 HB7
  generalize w6.heap.size = G7 at *
  go_wp2_with fail
  refine (qa.out _ (HA0.out.ext HB8.out)).mono ?_
  rintro e w9 ⟨v9, rfl, hO9, hb9⟩
  obtain ⟨A2, cap2, rfl, -, -, -⟩ := (hO9.sl Cell.c_len).cell
  have hs8 := Lib.hid KT8.out.lt
  have HX := Lib.hid (show CxI W b o w h z sl G5 G7 w8.heap.size (.slice A2 xs.length cap2) xs tg z144 w9 from ⟨K38.out.ext hb9, K48.out.ext hb9, KG8.out.ext hb9, KT8.out.ext hb9, hO9, HA0.out.ext (ext_trans HB8.out hb9), ext_trans HB8.out hb9, hs5.out, hs7.out, hs8.out, hbl.out⟩)
  clear hO9 hb9 KT8 HB8 KG8 K38 K48
  generalize w8.heap.size = B8 at *
  dsimp only
  go_wp2_with fail
  have hz8 := Lib.hid (show z144.length = 144 from rfl)
  go_loopw [9] (fun i wr => ∃ (k : Nat) (L : List Int), k ≤ xs.length ∧ i = .int .i64 (k : Int) ∧ L.length = 144 ∧ (∀ j (hj : j < xs.length), j < k → atT L xs[j] = 1000) ∧ CxI W b o w h z sl G5 G7 B8 (.slice A2 xs.length cap2) xs tg L wr) (fun i _ => xs.length - (intOf i).toNat)
  case atStart => exact ⟨0, z144, by omega, rfl, hz8.out, fun j hj hj2 => by omega, HX.out⟩
  case round =>
    clear HX
    obtain ⟨k, L, hk, rfl, hL, hin, hX⟩ := hrel
    have HL := Lib.hid hL
    have HIN := Lib.hid hin
    have HX := Lib.hid hX
    clear hL hin hX
    have hp144 := hpl.out
    by_cases hlt : k < xs.length
    · obtain ⟨A3, cap3, hvv, -, -, hcell⟩ := (HX.out.row.sl Cell.c_len).cell
      obtain ⟨rfl, rfl⟩ : A2 = A3 ∧ cap2 = cap3 := by injection hvv with e1 e2 e3; exact ⟨e1, e3⟩
      obtain ⟨b2, o2, rfl, hbb, c0, c1⟩ := hcell k hlt
      have hst := Lib.hid (fill_step hw1 hh1 HL.out (fun c hc => (hpt.out c).1 hc) k hlt HIN.out)
      have hqpt := Lib.hid ((hpt.out xs[k]).1 (List.getElem_mem hlt))
      have hkd : decide ((k : Int) < (xs.length : Int)) = true := by rw [decide_eq_true_eq]; omega
      have hk0 : (0 : Int) ≤ (k : Int) := by omega
      have hk1 : (k : Int) < (xs.length : Int) := by omega
      clear hcell hvv
      obtain ⟨q, hqe⟩ : ∃ q, xs[k] = q := ⟨_, rfl⟩
      rw [hqe] at hst hqpt c0 c1
      clear hqe
      obtain ⟨a, bb, ha, hb2, rfl⟩ := ptT_nat hw1 hh1 hqpt.out
      have t1 := HX.out.tab.cell _ _ (tabT_nat L HL.out a bb ha hb2)
      have f1 := HX.out.tab.frz (bb * 12 + a)
      have i0 : (a : Int) < 12 := by omega
      have i1 : (bb : Int) < 12 := by omega
      generalize atT L ⟨(a : Int), (bb : Int)⟩ = old at *
      obtain ⟨th, hth⟩ : ∃ th : Int, th = 1000 := ⟨_, rfl⟩
      go_wp2_with fail
      go_region
      all_goals
        have HXb := Lib.hid (HX.out.put (bb * 12 + a) 1000)
        go_wp2_with fail
        go_roundw
        case rel => exact ⟨k + 1, _, by omega, by go_num, hst.out.1, hst.out.2, by rw [idxT_nat]; exact HXb.out.at_ rfl rfl rfl rfl⟩
        case measure => first | (simp [intOf]; done) | (simp [intOf]; omega)
    · obtain rfl : k = xs.length := by omega
      have hkd : decide ((xs.length : Int) < (xs.length : Int)) = false := by rw [decide_eq_false_iff_not]; omega
      have HS := Lib.hid (hstart.out L HL.out (fun j hj => HIN.out j hj hj))
      obtain ⟨ta, tb, hta, htb, rfl⟩ := ptT_nat hw1 hh1 HT.out
      have gv := HX.out.grid.cell _ _ (hgrd.out ta tb hta htb)
      have x0 := HX.out.box.cell 0 _ rfl
      have x1 := HX.out.box.cell 1 _ rfl
      have t1 := HX.out.tab.cell _ _ (tabT_nat L HL.out ta tb hta htb)
      have f1 := HX.out.tab.frz (tb * 12 + ta)
      have i0 : (ta : Int) < 12 := by omega
      have i1 : (tb : Int) < 12 := by omega
      have HI := Lib.hid (idxT_nat ta tb)
      have qm := Lib.hid (fun W' => min_calls 1 (cvS sl ⟨(ta : Int), (tb : Int)⟩ + 1) W')
      rw [hmin.out] at qm
      have hne1 : W.heap.size ≠ G7 := by have := HX.out.s1; have := HX.out.s2; omega
      have hne2 : G5 ≠ G7 := by have := HX.out.s2; omega
      have hS : CmT W.heap.size G5 (tb * 12 + ta) ⟨(ta : Int), (tb : Int)⟩ (cvS sl ⟨(ta : Int), (tb : Int)⟩ + 1) wr := ⟨x0, x1, gv⟩
      generalize atT L ⟨(ta : Int), (tb : Int)⟩ = old at *
      generalize hon : onI (cvS sl) ⟨(ta : Int), (tb : Int)⟩ = on at *
      clear x0 x1 gv
      go_wp2_with fail
      refine wp_region_held_drew (S := (CmT W.heap.size G5 (tb * 12 + ta) ⟨(ta : Int), (tb : Int)⟩ (cvS sl ⟨(ta : Int), (tb : Int)⟩ + 1))) (by kernel_rfl) ?r3_hS0 (fun hHeld => ?r3_rest)
      case r3_hS0 => (try dsimp only); first | assumption | exact CmT.set (by assumption) hne1 hne2 _ _
      refine wpAnyH_take (i := 0) (v := ?r3_vv0) (by (simp only [List.getElem?_toArray, List.getElem?_cons_succ, List.getElem?_cons_zero]; rfl)) (by kernel_rfl) (by kernel_rfl) (by kernel_rfl) (by exact fun _ _ _ h => h) (Or.inl ⟨by rfl, ?r3_hy0⟩) (by assumption) ?r3_rest0
      case r3_hy0 => intro w hSw; (try dsimp only at hSw); (go_simp <;> (with_reducible rfl))
      try simp only [Act.put, List.setIfInBounds_toArray, List.set_cons_zero, List.set_cons_succ]
      refine wpAnyH_take (i := 1) (v := ?r3_vv1) (by (simp only [List.getElem?_toArray, List.getElem?_cons_succ, List.getElem?_cons_zero]; rfl)) (by kernel_rfl) (by kernel_rfl) (by kernel_rfl) (by exact fun _ _ _ h => h) (Or.inl ⟨by rfl, ?r3_hy1⟩) (by assumption) ?r3_rest1
      case r3_hy1 => intro w hSw; (try dsimp only at hSw); (go_simp <;> (with_reducible rfl))
      try simp only [Act.put, List.setIfInBounds_toArray, List.set_cons_zero, List.set_cons_succ]
      refine wpAnyH_take (i := 2) (v := ?r3_vv2) (by (simp only [List.getElem?_toArray, List.getElem?_cons_succ, List.getElem?_cons_zero]; rfl)) (by kernel_rfl) (by kernel_rfl) (by kernel_rfl) (by exact fun _ _ _ h => h) (Or.inl ⟨by rfl, ?r3_hy2⟩) (by assumption) ?r3_rest2
      case r3_hy2 => intro w hSw; (try dsimp only at hSw); (go_simp <;> (with_reducible rfl))
      try simp only [Act.put, List.setIfInBounds_toArray, List.set_cons_zero, List.set_cons_succ]
      refine wpAnyH_take (i := 3) (v := ?r3_vv3) (by (simp only [List.getElem?_toArray, List.getElem?_cons_succ, List.getElem?_cons_zero]; rfl)) (by kernel_rfl) (by kernel_rfl) (by kernel_rfl) (by exact fun _ _ _ h => h) (Or.inl ⟨by rfl, ?r3_hy3⟩) (by assumption) ?r3_rest3
      case r3_hy3 => intro w hSw; (try dsimp only at hSw); (go_simp <;> (with_reducible rfl))
      try simp only [Act.put, List.setIfInBounds_toArray, List.set_cons_zero, List.set_cons_succ]
      refine wpAnyH_take (i := 4) (v := ?r3_vv4) (by (simp only [List.getElem?_toArray, List.getElem?_cons_succ, List.getElem?_cons_zero]; rfl)) (by kernel_rfl) (by kernel_rfl) (by kernel_rfl) (by exact fun _ _ _ h => h) (Or.inl ⟨by rfl, ?r3_hy4⟩) (by assumption) ?r3_rest4
      case r3_hy4 => intro w hSw; (try dsimp only at hSw); (go_simp <;> (with_reducible rfl))
      try simp only [Act.put, List.setIfInBounds_toArray, List.set_cons_zero, List.set_cons_succ]
      refine wpAnyH_take (i := 5) (v := ?r3_vv5) (by (simp only [List.getElem?_toArray, List.getElem?_cons_succ, List.getElem?_cons_zero]; rfl)) (by kernel_rfl) (by kernel_rfl) (by kernel_rfl) (by exact fun _ _ _ h => h) (Or.inl ⟨by rfl, ?r3_hy5⟩) (by assumption) ?r3_rest5
      case r3_hy5 => intro w hSw; (try dsimp only at hSw); (go_simp <;> (with_reducible rfl))
      try simp only [Act.put, List.setIfInBounds_toArray, List.set_cons_zero, List.set_cons_succ]
      refine wpAnyH_take (i := 6) (v := ?r3_vv6) (by (simp only [List.getElem?_toArray, List.getElem?_cons_succ, List.getElem?_cons_zero]; rfl)) (by kernel_rfl) (by kernel_rfl) (by kernel_rfl) (by exact fun _ _ _ h => h) (Or.inl ⟨by rfl, ?r3_hy6⟩) (by assumption) ?r3_rest6
      case r3_hy6 => intro w hSw; (try dsimp only at hSw); (go_simp <;> (with_reducible rfl))
      try simp only [Act.put, List.setIfInBounds_toArray, List.set_cons_zero, List.set_cons_succ]
      refine wpAnyH_take (i := 7) (v := ?r3_vv7) (by (simp only [List.getElem?_toArray, List.getElem?_cons_succ, List.getElem?_cons_zero]; rfl)) (by kernel_rfl) (by kernel_rfl) (by kernel_rfl) (by exact fun _ _ _ h => h) (Or.inl ⟨by rfl, ?r3_hy7⟩) (by assumption) ?r3_rest7
      case r3_hy7 => intro w hSw; (try dsimp only at hSw); (go_simp <;> (with_reducible rfl))
      try simp only [Act.put, List.setIfInBounds_toArray, List.set_cons_zero, List.set_cons_succ]
      refine wpAnyH_take (i := 8) (v := ?r3_vv8) (by (simp only [List.getElem?_toArray, List.getElem?_cons_succ, List.getElem?_cons_zero]; rfl)) (by kernel_rfl) (by kernel_rfl) (by kernel_rfl) (by exact fun _ _ _ h => h) (Or.inl ⟨by rfl, ?r3_hy8⟩) (by assumption) ?r3_rest8
      case r3_hy8 => intro w hSw; (try dsimp only at hSw); (go_simp <;> (with_reducible rfl))
      try simp only [Act.put, List.setIfInBounds_toArray, List.set_cons_zero, List.set_cons_succ]
      refine wpAnyH_take (i := 9) (v := ?r3_vv9) (by (simp only [List.getElem?_toArray, List.getElem?_cons_succ, List.getElem?_cons_zero]; rfl)) (by kernel_rfl) (by kernel_rfl) (by kernel_rfl) (by exact fun _ _ _ h => h) (Or.inl ⟨by rfl, ?r3_hy9⟩) (by assumption) ?r3_rest9
      case r3_hy9 => intro w hSw; (try dsimp only at hSw); (go_simp <;> (with_reducible rfl))
      try simp only [Act.put, List.setIfInBounds_toArray, List.set_cons_zero, List.set_cons_succ]
      refine wpAnyH_take (i := 10) (v := ?r3_vv10) (by (simp only [List.getElem?_toArray, List.getElem?_cons_succ, List.getElem?_cons_zero]; rfl)) (by kernel_rfl) (by kernel_rfl) (by kernel_rfl) (by exact fun _ _ _ h => h) (Or.inl ⟨by rfl, ?r3_hy10⟩) (by assumption) ?r3_rest10
      case r3_hy10 => intro w hSw; (try dsimp only at hSw); (go_simp <;> (with_reducible rfl))
      try simp only [Act.put, List.setIfInBounds_toArray, List.set_cons_zero, List.set_cons_succ]
      refine wpAnyH_take (i := 12) (v := ?r3_vv12) (by (simp only [List.getElem?_toArray, List.getElem?_cons_succ, List.getElem?_cons_zero]; rfl)) (by kernel_rfl) (by kernel_rfl) (by kernel_rfl) (by exact fun _ _ _ h => h) (Or.inl ⟨by rfl, ?r3_hy12⟩) (by assumption) ?r3_rest12
      case r3_hy12 => intro w hSw; (try dsimp only at hSw); (go_simp <;> (with_reducible rfl))
      try simp only [Act.put, List.setIfInBounds_toArray, List.set_cons_zero, List.set_cons_succ]
      refine wpAnyH_ready (rs := [11]) (by kernel_rfl) (by simp) ?_
      refine AllReadyH.cons (by (simp only [List.getElem?_toArray, List.getElem?_cons_succ, List.getElem?_cons_zero]; rfl)) (fun K hK => ?_) AllReadyH.nil
      go_simp
      (go_at_call 187; (with_reducible refine (qm.out _).mono ?_); rintro e w11 ⟨rfl, rfl⟩)
      try go_wp2_with fail
      refine hK.out _ _ ?r3_hS11 (fun hHeld => ?r3_r11)
      case r3_hS11 => (try dsimp only); first | assumption | exact CmT.set (by assumption) hne1 hne2 _ _
      clear hK K
      try simp only [Act.put, List.setIfInBounds_toArray, List.set_cons_zero, List.set_cons_succ]
      refine wpAnyH_take (i := 13) (v := ?r3_vv13) (by (simp only [List.getElem?_toArray, List.getElem?_cons_succ, List.getElem?_cons_zero]; rfl)) (by kernel_rfl) (by kernel_rfl) (by kernel_rfl) (by exact fun _ _ _ h => h) (Or.inl ⟨by rfl, ?r3_hy13⟩) (by assumption) ?r3_rest13
      case r3_hy13 => intro w hSw; (try dsimp only at hSw); (go_simp <;> (with_reducible rfl))
      try simp only [Act.put, List.setIfInBounds_toArray, List.set_cons_zero, List.set_cons_succ]
      refine wpAnyH_ready (rs := [14]) (by kernel_rfl) (by simp) ?_
      refine AllReadyH.cons (by (simp only [List.getElem?_toArray, List.getElem?_cons_succ, List.getElem?_cons_zero]; rfl)) (fun K hK => ?_) AllReadyH.nil
      go_simp
      skip
      try go_wp2_with fail
      refine hK.out _ _ ?r3_hS14 (fun hHeld => ?r3_r14)
      case r3_hS14 => (try dsimp only); first | assumption | exact CmT.set (by assumption) hne1 hne2 _ _
      clear hK K
      try simp only [Act.put, List.setIfInBounds_toArray, List.set_cons_zero, List.set_cons_succ]
      refine wpAnyH_done (by kernel_rfl) ?_ _
      have HXb := Lib.hid (HX.out.put (tb * 12 + ta) on)
      rw [← HI.out] at HXb
      clear hS t1 f1 HX
      repeat clear hHeld
      go_wp2_with fail
      obtain ⟨L1, hL1⟩ : ∃ L1, L1 = L.set (idxT ⟨(ta : Int), (tb : Int)⟩) on := ⟨_, rfl⟩
      rw [← hL1] at HXb HS
      have HX1 := Lib.hid (HXb.out.at_ (y := (wr.setCell ⟨G7, tb * 12 + ta, none⟩ (.int .i64 on)).drew) rfl rfl rfl rfl)
      clear hL1 HXb HL HIN hmin qm hon hstart
      go_loopg [10] (2 * potT L1 + 1) (fun n chg wr => ∃ (ch : Bool) (L : List Int), chg = .bool ch ∧ CoI w h (cvS sl) ⟨(ta : Int), (tb : Int)⟩ L ∧ (ch = false → ∀ a ∈ xs, closC w h (cvS sl) L a) ∧ 2 * potT L + (if ch then 1 else 0) ≤ n ∧ CxI W b o w h z sl G5 G7 B8 (.slice A2 xs.length cap2) xs ⟨(ta : Int), (tb : Int)⟩ L wr)
      case atStart => exact ⟨true, L1, rfl, HS.out, fun h => (by cases h), Nat.le_refl _, HX1.out.at_ rfl rfl rfl rfl⟩
      case round =>
        clear HX1 HS
        obtain ⟨ch0, L0, rfl, hT, hcl, hpt0, hX⟩ := hrel
        have HX := Lib.hid hX
        have HTT := Lib.hid hT
        clear hT hX
        cases ch0 with
        | false =>
          have HL := Lib.hid (hend.out L0 HTT.out (fun a ha => hcl rfl a ha))
          clear hcl hpt0
          have hl := Lib.hid HTT.out.len
          go_wp2_with (first | (refine wpList_load_bk rfl 69 (.tmp 7) rfl _ rfl _ _ _ _ HX.out.tab Try.underlying69 (infoT L0 hl.out) ?_) | (refine wpList_store_bk rfl 69 (.tmp 4) (.tmp 150) rfl _ (gcells L0) rfl rfl _ _ HX.out.res (by rw [zeroT, gcells_size, gcells_size, hl.out]; rfl) (infoT L0 hl.out) (gcells_one _) ?_))
          intro w9 hB9 hG9
          have HB9 := Lib.hid (HX.out.bel.grown hG9 HX.out.bel.size (fun j hj => by injection hj with hj; omega))
          go_wp2_with fail
          (try simp only [Exit.inBlock, Exit.then])
          exact cellretS Try.results140 rfl hB9 Try.underlying69 (infoT L0 hl.out) rfl ⟨⟨L0, hl.out, HL.out, rfl⟩, HB9.out⟩
        | true =>
          have hpt1 := Lib.hid (show 2 * potT L0 + 1 ≤ gk from hpt0)
          clear hcl hpt0
          go_wp2_with fail
          go_loopw [10, 11] (fun chg i wr => ∃ (ch : Bool) (k : Nat) (L : List Int), k ≤ xs.length ∧ i = .int .i64 (k : Int) ∧ chg = .bool ch ∧ C3 w h (cvS sl) ⟨(ta : Int), (tb : Int)⟩ L0 xs k ch L ∧ CxI W b o w h z sl G5 G7 B8 (.slice A2 xs.length cap2) xs ⟨(ta : Int), (tb : Int)⟩ L wr) (fun _ i _ => xs.length - (intOf i).toNat)
          case atStart => exact ⟨false, 0, L0, by omega, rfl, rfl, C3.zero HTT.out, HX.out⟩
          case round =>
            clear HX
            obtain ⟨ch, k, L, hk, rfl, rfl, hQ, hX⟩ := hrel
            have HQ := Lib.hid hQ
            have HX := Lib.hid hX
            clear hQ hX
            have hp144 := hpl.out
            by_cases hlt : k < xs.length
            · obtain ⟨A3, cap3, hvv, -, -, hcell⟩ := (HX.out.row.sl Cell.c_len).cell
              obtain ⟨rfl, rfl⟩ : A2 = A3 ∧ cap2 = cap3 := by injection hvv with e1 e2 e3; exact ⟨e1, e3⟩
              obtain ⟨b1, o1, rfl, hbb, c0, c1⟩ := hcell k hlt
              have hqpt := Lib.hid ((hpt.out xs[k]).1 (List.getElem_mem hlt))
              have hkd : decide ((k : Int) < (xs.length : Int)) = true := by rw [decide_eq_true_eq]; omega
              have hk0 : (0 : Int) ≤ (k : Int) := by omega
              have hk1 : (k : Int) < (xs.length : Int) := by omega
              have hfin3 := Lib.hid (fun a e ch L q => C4.fin (w := w) (h := h) (cv := cvS sl) (tg := ⟨(ta : Int), (tb : Int)⟩) (L0 := L0) (ch := ch) (L := L) (a := a) hlt e q)
              have hQ4 := Lib.hid (fun a ys => C4.zero (a := a) (ys := ys) HQ.out)
              obtain ⟨q, hqe⟩ : ∃ q, xs[k] = q := ⟨_, rfl⟩
              have HQE := Lib.hid hqe
              rw [hqe] at hqpt c0 c1
              clear hcell hvv hqe HQ
              obtain ⟨a0, a1, ha0, ha1, rfl⟩ := ptT_nat hw1 hh1 hqpt.out
              have hfin := Lib.hid (hfin3.out _ HQE.out)
              clear hfin3
              have qb := Lib.hid (qs.out _ hqpt.out wr HX.out.sq)
              have hyl := Lib.hid (around_lenS w h ⟨(a0 : Int), (a1 : Int)⟩)
              have hyp := Lib.hid (fun c (hc : c ∈ aroundL w h ⟨(a0 : Int), (a1 : Int)⟩) => around_pt hc)
              have hput := Lib.hid (fun c (hc : c ∈ aroundL w h ⟨(a0 : Int), (a1 : Int)⟩) j ch L (q : C4 w h (cvS sl) ⟨(ta : Int), (tb : Int)⟩ L0 xs k ⟨(a0 : Int), (a1 : Int)⟩ (aroundL w h ⟨(a0 : Int), (a1 : Int)⟩) j ch L) hlt => q.put (cvS_ge sl) hw1 hh1 HT.out hqpt.out hc hlt)
              replace hQ4 := Lib.hid (hQ4.out ⟨(a0 : Int), (a1 : Int)⟩ (aroundL w h ⟨(a0 : Int), (a1 : Int)⟩))
              generalize aroundL w h ⟨(a0 : Int), (a1 : Int)⟩ = ys at *
              go_wp2_with fail
              refine qb.out.mono ?_
              rintro e w6 ⟨v6, rfl, hO6, hb6⟩
              obtain ⟨A4', cap4, rfl, -, -, -⟩ := (hO6.sl Cell.c_len).cell
              have HX6 := Lib.hid (HX.out.ext hb6)
              have HY6 := Lib.hid (hO6.more (B' := G7 + 1) HX.out.tab.lt)
              clear hO6 hb6 HX qb c0 c1
              go_wp2_with fail
              go_loopw [10, 13, 14, 15] (fun chg i _ _ wr => ∃ (ch : Bool) (j : Nat) (L : List Int), j ≤ ys.length ∧ i = .int .i64 (j : Int) ∧ chg = .bool ch ∧ C4 w h (cvS sl) ⟨(ta : Int), (tb : Int)⟩ L0 xs k ⟨(a0 : Int), (a1 : Int)⟩ ys j ch L ∧ Own wr (G7 + 1) 36 Cell.c 2 (.slice A4' ys.length cap4) ys ∧ CxI W b o w h z sl G5 G7 B8 (.slice (some ⟨b1, o1, none⟩) xs.length cap2) xs ⟨(ta : Int), (tb : Int)⟩ L wr) (fun _ i _ _ _ => ys.length - (intOf i).toNat)
              case atStart => exact ⟨ch, 0, L, by omega, rfl, rfl, hQ4.out, HY6.out, HX6.out⟩
              case round =>
                clear HX6 HY6 hQ4
                obtain ⟨ch, j, L, hj, rfl, rfl, hQ, hY, hX⟩ := hrel
                have HQ := Lib.hid hQ
                have HY := Lib.hid hY
                have HX := Lib.hid hX
                clear hQ hY hX
                have hy4 := hyl.out
                by_cases hjl : j < ys.length
                · obtain ⟨A5, cap5, hvv, -, -, hcell⟩ := (HY.out.sl Cell.c_len).cell
                  obtain ⟨rfl, rfl⟩ : A4' = A5 ∧ cap4 = cap5 := by injection hvv with e1 e2 e3; exact ⟨e1, e3⟩
                  obtain ⟨b2, o2, rfl, hbb2, c0, c1⟩ := hcell j hjl
                  clear hcell hvv
                  obtain ⟨A6, cap6, hvv, -, -, hcell⟩ := (HX.out.row.sl Cell.c_len).cell
                  obtain ⟨e7, e8⟩ : some (⟨b1, o1, none⟩ : Addr) = A6 ∧ cap2 = cap6 := by injection hvv with e1 e2 e3; exact ⟨e1, e3⟩
                  subst e7; subst e8
                  obtain ⟨b3, o3, hA3, hbb3, d0, d1⟩ := hcell k hlt
                  obtain ⟨rfl, rfl⟩ : b1 = b3 ∧ o1 = o3 := by injection hA3 with e; injection e with e1 e2; exact ⟨e1, e2⟩
                  rw [HQE.out] at d0 d1
                  clear hcell hvv hA3
                  have hjd : decide ((j : Int) < (ys.length : Int)) = true := by rw [decide_eq_true_eq]; omega
                  have hj0 : (0 : Int) ≤ (j : Int) := by omega
                  have hj1 : (j : Int) < (ys.length : Int) := by omega
                  have hcpt := Lib.hid (hyp.out ys[j] (List.getElem_mem hjl))
                  have hkp := Lib.hid (HQ.out.keep hjl)
                  have hpp := Lib.hid (hput.out ys[j] (List.getElem_mem hjl) j ch L HQ.out)
                  obtain ⟨d, hde⟩ : ∃ d, ys[j] = d := ⟨_, rfl⟩
                  rw [hde] at hcpt hkp hpp c0 c1
                  clear hde
                  obtain ⟨p0, p1, hp0, hp1, rfl⟩ := ptT_nat hw1 hh1 hcpt.out
                  have bA := HQ.out.tab.bd hqpt.out
                  have bC := HQ.out.tab.bd hcpt.out
                  have tC := HX.out.tab.cell _ _ (tabT_nat L HQ.out.tab.len p0 p1 hp0 hp1)
                  have tA := HX.out.tab.cell _ _ (tabT_nat L HQ.out.tab.len a0 a1 ha0 ha1)
                  have fA := HX.out.tab.frz (a1 * 12 + a0)
                  have gC := HX.out.grid.cell _ _ (hgrd.out p0 p1 hp0 hp1)
                  have gA := HX.out.grid.cell _ _ (hgrd.out a0 a1 ha0 ha1)
                  have uA := hub.out ⟨(a0 : Int), (a1 : Int)⟩
                  have uC := hub.out ⟨(p0 : Int), (p1 : Int)⟩
                  have lA := hge.out ⟨(a0 : Int), (a1 : Int)⟩
                  have lC := hge.out ⟨(p0 : Int), (p1 : Int)⟩
                  have hlv := Lib.hid (show lvI (cvS sl) ⟨(a0 : Int), (a1 : Int)⟩ ⟨(p0 : Int), (p1 : Int)⟩ = if 0 ≤ cvS sl ⟨(a0 : Int), (a1 : Int)⟩ ∧ cvS sl ⟨(a0 : Int), (a1 : Int)⟩ ≠ cvS sl ⟨(p0 : Int), (p1 : Int)⟩ then 1 else 0 from rfl)
                  have i0 : (p0 : Int) < 12 := by omega
                  have i1 : (p1 : Int) < 12 := by omega
                  have i2 : (a0 : Int) < 12 := by omega
                  have i3 : (a1 : Int) < 12 := by omega
                  clear HQ
                  generalize lvI (cvS sl) ⟨(a0 : Int), (a1 : Int)⟩ ⟨(p0 : Int), (p1 : Int)⟩ = lv at *
                  generalize cvS sl ⟨(a0 : Int), (a1 : Int)⟩ = ca at *
                  generalize cvS sl ⟨(p0 : Int), (p1 : Int)⟩ = cp at *
                  generalize atT L ⟨(p0 : Int), (p1 : Int)⟩ = fc at *
                  generalize atT L ⟨(a0 : Int), (a1 : Int)⟩ = fa at *
                  have wC : IntKind.i64.wrap (fc + 1) = fc + 1 := wrapIn _ (by omega) (by omega)
                  by_cases hca : ca = -1
                  · have t1 : (ca + 1 != 0) = false := by rw [hca]; rfl
                    have hlv2 : lv = 0 := by rw [hlv.out, if_neg (by omega)]
                    by_cases hcmp : fc + lv < fa
                    · have HN := Lib.hid (hpp.out hcmp)
                      rw [hlv2] at hcmp
                      have hcd : decide (fc < fa) = true := decide_eq_true (by omega)
                      have hval := Lib.hid (show fc + lv = fc from by rw [hlv2]; omega)
                      rw [hval.out] at HN
                      clear hcmp hkp hpp hlv hlv2 hval
                      go_wp2_with fail
                      go_quiet (fail)
                      go_wp2_with fail
                      go_quiet (fail)
                      go_wp2_with fail
                      go_quiet (fail)
                      go_wp2_with fail
                      go_quiet (fail)
                      go_wp2_with fail
                      go_region
                      all_goals
                        have HXb := Lib.hid (HX.out.put (a1 * 12 + a0) (fc))
                        rw [← idxT_nat] at HXb
                        have HYb := Lib.hid (HY.out.keep (w' := wr.setCell ⟨G7, a1 * 12 + a0, none⟩ (.int .i64 (fc))) (fun j hj => by have h1 := HY.out.base j hj; rw [Below.heap_setCell _ _ _ _ (show j ≠ _ by simp; omega)]))
                        rw [← idxT_nat] at HYb
                        go_wp2_with fail
                        go_roundw
                        case rel => exact ⟨true, j + 1, _, by omega, by go_num, rfl, HN.out, own_atS HYb.out (by rw [idxT_nat]; rfl), HXb.out.at_ (by rw [idxT_nat]; rfl) (by rw [idxT_nat]; rfl) (by rw [idxT_nat]; rfl) (by rw [idxT_nat]; rfl)⟩
                        case measure => first | (simp [intOf]; done) | (simp [intOf]; omega)
                    · have HN := Lib.hid (hkp.out hcmp)
                      rw [hlv2] at hcmp
                      have hcd : decide (fc < fa) = false := decide_eq_false (by omega)
                      clear hcmp hkp hpp hlv hlv2
                      go_wp2_with fail
                      go_quiet (fail)
                      go_wp2_with fail
                      go_quiet (fail)
                      go_wp2_with fail
                      go_quiet (fail)
                      go_wp2_with fail
                      go_quiet (fail)
                      go_wp2_with fail
                      go_roundw
                      case rel => exact ⟨ch, j + 1, L, by omega, by go_num, rfl, HN.out, own_atS HY.out rfl, HX.out.at_ rfl rfl rfl rfl⟩
                      case measure => first | (simp [intOf]; done) | (simp [intOf]; omega)
                  · have t1 : (ca + 1 != 0) = true := by rw [bne_iff_ne]; omega
                    by_cases hcc : ca = cp
                    · have t2 : (ca + 1 != cp + 1) = false := by rw [hcc]; simp
                      have hlv2 : lv = 0 := by rw [hlv.out, if_neg (by omega)]
                      clear hcc
                      by_cases hcmp : fc + lv < fa
                      · have HN := Lib.hid (hpp.out hcmp)
                        rw [hlv2] at hcmp
                        have hcd : decide (fc < fa) = true := decide_eq_true (by omega)
                        have hval := Lib.hid (show fc + lv = fc from by rw [hlv2]; omega)
                        rw [hval.out] at HN
                        clear hcmp hkp hpp hlv hlv2 hval
                        go_wp2_with fail
                        go_quiet (fail)
                        go_wp2_with fail
                        go_quiet (fail)
                        go_wp2_with fail
                        go_quiet (fail)
                        go_wp2_with fail
                        go_quiet (fail)
                        go_wp2_with fail
                        go_region
                        all_goals
                          have HXb := Lib.hid (HX.out.put (a1 * 12 + a0) (fc))
                          rw [← idxT_nat] at HXb
                          have HYb := Lib.hid (HY.out.keep (w' := wr.setCell ⟨G7, a1 * 12 + a0, none⟩ (.int .i64 (fc))) (fun j hj => by have h1 := HY.out.base j hj; rw [Below.heap_setCell _ _ _ _ (show j ≠ _ by simp; omega)]))
                          rw [← idxT_nat] at HYb
                          go_wp2_with fail
                          go_roundw
                          case rel => exact ⟨true, j + 1, _, by omega, by go_num, rfl, HN.out, own_atS HYb.out (by rw [idxT_nat]; rfl), HXb.out.at_ (by rw [idxT_nat]; rfl) (by rw [idxT_nat]; rfl) (by rw [idxT_nat]; rfl) (by rw [idxT_nat]; rfl)⟩
                          case measure => first | (simp [intOf]; done) | (simp [intOf]; omega)
                      · have HN := Lib.hid (hkp.out hcmp)
                        rw [hlv2] at hcmp
                        have hcd : decide (fc < fa) = false := decide_eq_false (by omega)
                        clear hcmp hkp hpp hlv hlv2
                        go_wp2_with fail
                        go_quiet (fail)
                        go_wp2_with fail
                        go_quiet (fail)
                        go_wp2_with fail
                        go_quiet (fail)
                        go_wp2_with fail
                        go_quiet (fail)
                        go_wp2_with fail
                        go_roundw
                        case rel => exact ⟨ch, j + 1, L, by omega, by go_num, rfl, HN.out, own_atS HY.out rfl, HX.out.at_ rfl rfl rfl rfl⟩
                        case measure => first | (simp [intOf]; done) | (simp [intOf]; omega)
                    · have t2 : (ca + 1 != cp + 1) = true := by rw [bne_iff_ne]; omega
                      have hlv2 : lv = 1 := by rw [hlv.out, if_pos (by omega)]
                      clear hcc
                      by_cases hcmp : fc + lv < fa
                      · have HN := Lib.hid (hpp.out hcmp)
                        rw [hlv2] at hcmp
                        have hcd : decide (fc + 1 < fa) = true := decide_eq_true (by omega)
                        have hval := Lib.hid (show fc + lv = fc + 1 from by rw [hlv2])
                        rw [hval.out] at HN
                        clear hcmp hkp hpp hlv hlv2 hval
                        go_wp2_with fail
                        go_quiet (fail)
                        go_wp2_with fail
                        go_quiet (fail)
                        go_wp2_with fail
                        go_quiet (fail)
                        go_wp2_with fail
                        go_quiet (fail)
                        go_wp2_with fail
                        go_region
                        all_goals
                          have HXb := Lib.hid (HX.out.put (a1 * 12 + a0) (fc + 1))
                          rw [← idxT_nat] at HXb
                          have HYb := Lib.hid (HY.out.keep (w' := wr.setCell ⟨G7, a1 * 12 + a0, none⟩ (.int .i64 (fc + 1))) (fun j hj => by have h1 := HY.out.base j hj; rw [Below.heap_setCell _ _ _ _ (show j ≠ _ by simp; omega)]))
                          rw [← idxT_nat] at HYb
                          go_wp2_with fail
                          go_roundw
                          case rel => exact ⟨true, j + 1, _, by omega, by go_num, rfl, HN.out, own_atS HYb.out (by rw [idxT_nat]; rfl), HXb.out.at_ (by rw [idxT_nat]; rfl) (by rw [idxT_nat]; rfl) (by rw [idxT_nat]; rfl) (by rw [idxT_nat]; rfl)⟩
                          case measure => first | (simp [intOf]; done) | (simp [intOf]; omega)
                      · have HN := Lib.hid (hkp.out hcmp)
                        rw [hlv2] at hcmp
                        have hcd : decide (fc + 1 < fa) = false := decide_eq_false (by omega)
                        clear hcmp hkp hpp hlv hlv2
                        go_wp2_with fail
                        go_quiet (fail)
                        go_wp2_with fail
                        go_quiet (fail)
                        go_wp2_with fail
                        go_quiet (fail)
                        go_wp2_with fail
                        go_quiet (fail)
                        go_wp2_with fail
                        go_roundw
                        case rel => exact ⟨ch, j + 1, L, by omega, by go_num, rfl, HN.out, own_atS HY.out rfl, HX.out.at_ rfl rfl rfl rfl⟩
                        case measure => first | (simp [intOf]; done) | (simp [intOf]; omega)
                · obtain rfl : j = ys.length := by omega
                  have hjd : decide ((ys.length : Int) < (ys.length : Int)) = false := by rw [decide_eq_false_iff_not]; omega
                  have HN := Lib.hid (hfin.out ch L HQ.out)
                  go_wp2_with fail
                  go_roundw
                  case rel => exact ⟨ch, k + 1, L, by omega, by go_num, rfl, HN.out, HX.out⟩
                  case measure => first | (simp [intOf]; done) | (simp [intOf]; omega)
            · obtain rfl : k = xs.length := by omega
              have hkd : decide ((xs.length : Int) < (xs.length : Int)) = false := by rw [decide_eq_false_iff_not]; omega
              have hfin := HQ.out.fin
              go_wp2_with fail
              obtain ⟨m, rfl⟩ : ∃ m, gk = m + 1 := ⟨gk - 1, by have := hpt1.out; omega⟩
              go_roundg m
              case measure => omega
              case rel => exact ⟨ch, L, rfl, HQ.out.tab, hfin.1, by have := hpt1.out; have := hfin.2; omega, HX.out⟩
end Go.Proofs.Yteflpdfajfljfaa
