/-
The levels of a ground, of the reference. Conditions: the ground is valid and has gullies.
-/
import Derived.Test.YtipcmakidifelaaGrM
import Derived.Test.YtipcmakidifelaaGL1
set_option linter.unusedVariables false
set_option linter.unusedSimpArgs false
set_option maxRecDepth 100000
namespace Go.Proofs.Ytipcmakidifelaa
open Go.RowKit
theorem z81_len' : z81.length = 81 := rfl
theorem wrap16In (x : Int) (h0 : -32768 ≤ x) (h1 : x ≤ 32767) : IntKind.i16.wrap x = x := by simp [IntKind.wrap, IntKind.signed, IntKind.bits]; omega
theorem hA_nat (L : List Int) (hl : L.length = 81) (a b : Nat) (ha : a < 9) (hb : b < 9) : (hA L)[b * 9 + a]? = some (.int .i16 (htL L ⟨(a : Int), (b : Int)⟩)) := by
  refine hA_at L _ _ ?_
  rw [htL_idx, idxC_nat, List.getD_eq_getElem?_getD, List.getElem?_eq_getElem (by omega)]
  rfl
theorem hA_put (L : List Int) (a b : Nat) (n : Int) : (hA L).setIfInBounds (b * 9 + a) (.int .i16 n) = hA (L.set (idxC ⟨(a : Int), (b : Int)⟩) n) := by rw [hA_set, idxC_nat]
abbrev LvS (W0 : World) (wb b2 o2 tb ti : Nat) (a c : Cell) (fc : Int) (w' : World) : Prop :=
  Below W0.heap.size W0 w' ∧ w'.cell? ⟨wb, 0, none⟩ = some (.int .i8 a.x) ∧ w'.cell? ⟨wb, 1, none⟩ = some (.int .i8 a.y) ∧ w'.cell? ⟨b2, o2, none⟩ = some (.int .i8 c.x) ∧ w'.cell? ⟨b2, o2 + 1, none⟩ = some (.int .i8 c.y) ∧ w'.cell? ⟨tb, ti, none⟩ = some (.int .i16 fc)
theorem LvS.first {W0 : World} {wb b2 o2 tb ti : Nat} {a c : Cell} {fc : Int} {T T2 : TypeId} {cs : Array Value} (hw : Bk W0 wb T #[.int .i8 a.x, .int .i8 a.y]) (hb2 : b2 < W0.heap.size) (h0 : W0.cell? ⟨b2, o2, none⟩ = some (.int .i8 c.x)) (h1 : W0.cell? ⟨b2, o2 + 1, none⟩ = some (.int .i8 c.y)) (ht : Bk W0 tb T2 cs) (hti : cs[ti]? = some (.int .i16 fc)) (w' : World) (k : Below W0.heap.size W0 w') : LvS W0 wb b2 o2 tb ti a c fc w' :=
  ⟨k, (hw.ext k).cell 0 _ rfl, (hw.ext k).cell 1 _ rfl, (k.cell (p := ⟨b2, o2, none⟩) hb2).trans h0, (k.cell (p := ⟨b2, o2 + 1, none⟩) hb2).trans h1, (ht.ext k).cell ti _ hti⟩
theorem own_at {α : Type} {w w' : World} {B : Nat} {E : TypeId} {c : α → List Value} {sz : Nat} {v : Value} {xs : List α} (h : Own w B E c sz v xs) (he : w'.heap = w.heap) : Own w' B E c sz v xs := h.keep (fun k _ => by rw [he])
theorem below_at {B : Nat} {a w w' : World} (h : Below B a w) (he : w'.heap = w.heap) (h1 : w'.os = w.os) (h2 : w'.tape = w.tape) (h3 : w'.output = w.output) : Below B a w' := ⟨h1.trans h.os, h2.trans h.tape, h3.trans h.output, by rw [he]; exact h.size, fun k hk => by rw [he]; exact h.block k hk⟩
theorem around_len (w h : Int) (c : Cell) : (aroundL w h c).length ≤ 4 := Nat.le_trans (List.length_filter_le _ _) (Nat.le_refl 4)
/-! ### A pass over the points -/
def clos (w h : Int) (hs L : List Int) (a : Cell) : Prop := ∀ c ∈ aroundL w h a, htL L a ≤ max (htL hs a) (htL L c)
structure Q3 (w h : Int) (hs : List Int) (gl : List Cell) (L0 : List Int) (xs : List Cell) (k : Nat) (ch : Bool) (L : List Int) : Prop where
  tab : TabI w h hs gl L
  no : ch = false → L = L0 ∧ ∀ i (hi : i < xs.length), i < k → clos w h hs L xs[i]
  yes : ch = true → potT L < potT L0
structure Q4 (w h : Int) (hs : List Int) (gl : List Cell) (L0 : List Int) (xs : List Cell) (k : Nat) (a : Cell) (ys : List Cell) (j : Nat) (ch : Bool) (L : List Int) : Prop where
  tab : TabI w h hs gl L
  no : ch = false → L = L0 ∧ (∀ i (hi : i < xs.length), i < k → clos w h hs L xs[i]) ∧ tabC hs L a ys j
  yes : ch = true → potT L < potT L0
theorem Q3.zero {w h : Int} {hs : List Int} {gl xs : List Cell} {L : List Int} (t : TabI w h hs gl L) : Q3 w h hs gl L xs 0 false L := ⟨t, fun _ => ⟨rfl, fun i _ h => by omega⟩, fun h => by cases h⟩
theorem Q4.zero {w h : Int} {hs : List Int} {gl xs ys : List Cell} {L0 L : List Int} {k : Nat} {ch : Bool} {a : Cell} (q : Q3 w h hs gl L0 xs k ch L) : Q4 w h hs gl L0 xs k a ys 0 ch L := ⟨q.tab, fun h => ⟨(q.no h).1, (q.no h).2, fun j _ h => by omega⟩, q.yes⟩
theorem Q4.keep {w h : Int} {hs : List Int} {gl xs ys : List Cell} {L0 L : List Int} {k j : Nat} {ch : Bool} {a : Cell} (q : Q4 w h hs gl L0 xs k a ys j ch L) (hj : j < ys.length) (hle : ¬ max (htL hs a) (htL L ys[j]) < htL L a) : Q4 w h hs gl L0 xs k a ys (j + 1) ch L := by
  refine ⟨q.tab, fun h => ⟨(q.no h).1, (q.no h).2.1, fun i hi h2 => ?_⟩, q.yes⟩
  by_cases e : i = j
  · subst e
    omega
  · exact (q.no h).2.2 i hi (by omega)
theorem Q4.put {w h : Int} {hs : List Int} {gl xs ys : List Cell} {L0 L : List Int} {k j : Nat} {ch : Bool} {a c : Cell} (ok : GOk w h hs gl) (q : Q4 w h hs gl L0 xs k a ys j ch L) (ha : gpB w h a = true) (hc : c ∈ aroundL w h a) (hlt : max (htL hs a) (htL L c) < htL L a) : Q4 w h hs gl L0 xs k a ys (j + 1) true (L.set (idxC a) (max (htL hs a) (htL L c))) := by
  obtain ⟨t, hp⟩ := q.tab.put ok ha hc hlt
  refine ⟨t, fun h => (by cases h), fun _ => ?_⟩
  cases ch with
  | false => rw [← (q.no rfl).1]; exact hp
  | true => exact Nat.lt_trans hp (q.yes rfl)
theorem Q4.fin {w h : Int} {hs : List Int} {gl xs : List Cell} {L0 L : List Int} {k : Nat} {ch : Bool} {a : Cell} (hk : k < xs.length) (e : xs[k] = a) (q : Q4 w h hs gl L0 xs k a (aroundL w h a) (aroundL w h a).length ch L) : Q3 w h hs gl L0 xs (k + 1) ch L := by
  refine ⟨q.tab, fun h => ⟨(q.no h).1, fun i hi h2 => ?_⟩, q.yes⟩
  by_cases e2 : i = k
  · subst e2
    rw [e]
    intro c hc
    obtain ⟨j, hj, rfl⟩ := List.getElem_of_mem hc
    exact (q.no h).2.2 j hj hj
  · exact (q.no h).2.1 i hi (by omega)
theorem Q3.fin {w h : Int} {hs : List Int} {gl xs : List Cell} {L0 L : List Int} {ch : Bool} (q : Q3 w h hs gl L0 xs xs.length ch L) : (ch = false → ∀ a ∈ xs, clos w h hs L a) ∧ 2 * potT L + (if ch then 1 else 0) ≤ 2 * potT L0 := by
  refine ⟨fun h a ha => ?_, ?_⟩
  · obtain ⟨i, hi, rfl⟩ := List.getElem_of_mem ha
    exact (q.no h).2 i hi hi
  · cases ch with
    | false => rw [(q.no rfl).1]; simp
    | true => have := q.yes rfl; simp; omega
theorem init_step {w h : Int} {hs : List Int} {gl : List Cell} {L : List Int} {xs : List Cell} (ok : GOk w h hs gl) (hl : L.length = 81) (hz : ∀ i, i < 81 → gpB w h (cellOf i) = false → L.getD i 0 = 0) (hpt : ∀ c ∈ xs, gpB w h c = true) (k : Nat) (hk : k < xs.length) (hi : ∀ j (hj : j < xs.length), j < k → htL L xs[j] = initG hs gl xs[j]) :
    (L.set (idxC xs[k]) (initG hs gl xs[k])).length = 81 ∧ (∀ i, i < 81 → gpB w h (cellOf i) = false → (L.set (idxC xs[k]) (initG hs gl xs[k])).getD i 0 = 0) ∧ ∀ j (hj : j < xs.length), j < k + 1 → htL (L.set (idxC xs[k]) (initG hs gl xs[k])) xs[j] = initG hs gl xs[j] := by
  have hp := hpt xs[k] (List.getElem_mem hk)
  refine ⟨by rw [List.length_set]; exact hl, zero_set ok.w1 ok.h1 hp _ hz, fun j hj hjk => ?_⟩
  by_cases e : xs[j] = xs[k]
  · rw [e, htL_set_same hl ok.w1 ok.h1 hp]
  · rw [htL_set_oth ok.w1 ok.h1 hp (hpt xs[j] (List.getElem_mem hj)) e]
    have : j ≠ k := fun e2 => e (by subst e2; rfl)
    exact hi j hj (by omega)
set_option maxHeartbeats 4000000 in
theorem sLevels_calls {w h : Int} {hs : List Int} {gl : List Cell} (ok : GOk w h hs gl) (hne : gl ≠ []) (hl : hs.length = 81) (z : Value) (g : Nat) (T : TypeId) (W : World) (hg : Bk W g T (gdA w h hs z)) (hz : Sl W W.heap.size Cell.c 2 z gl) :
    Calls Try.prog 50 #[.pointer (some ⟨g, 0, none⟩)] W fun e w' => (∃ F, IsLev w h hs gl F ∧ e = .returned (.agg (hA (levA w h F)))) ∧ Below W.heap.size W w' := by
  have HZ := Lib.hid hz
  have HG0 := Lib.hid hg
  have hgl := Lib.hid hg.lt
  have ok1 := ok.w0
  have ok2 := ok.w1
  have ok3 := ok.h0
  have ok4 := ok.h1
  have hzz := Lib.hid zeroA81
  have e1 : ((w.toNat : Nat) : Int) = w := by omega
  have e2 : ((h.toNat : Nat) : Int) = h := by omega
  have qa := Lib.hid (fun W' hk => sAll_calls g T w.toNat h.toNat (by omega) (by omega) hs z W' hk)
  rw [e1, e2] at qa
  have hpt := Lib.hid (fun c (hcm : c ∈ ptsG w.toNat h.toNat) => show gpB w h c = true from by have := ptsG_pt _ _ c hcm; rwa [e1, e2] at this)
  have hpl := Lib.hid (show (ptsG w.toNat h.toNat).length ≤ 81 from by
    rw [ptsG_len]
    have : h.toNat * w.toNat ≤ 9 * 9 := Nat.mul_le_mul (by omega) (by omega)
    omega)
  have hstart := Lib.hid (fun L a b c => tabI_start (L := L) ok a b c)
  have hend := Lib.hid (fun L (t : TabI w h hs gl L) c => t.lev ok hne c)
  generalize ptsG w.toNat h.toNat = xs at *
  clear hz hg e1 e2
  have K0 := Lib.hid ((Bk.new W 25 Try.zeroCells25 W.heap.size rfl).alloc (.cells Try.zeroCells25 25))
  have K1 := Lib.hid (Bk.new (W.alloc (.cells Try.zeroCells25 25)) 25 Try.zeroCells25 (W.heap.size + 1) (by simp))
  have HB := Lib.hid (ext_alloc ((Below.refl W.heap.size W).alloc (Nat.le_refl _) (.cells Try.zeroCells25 25)) (.cells Try.zeroCells25 25))
  go_enter Try.func50, Try.ntmps50
  go_wp2_with (refine wpList_store_m rfl 25 (.tmp 3) (.tmp 13) rfl _ 0 Try.zeroCells25 rfl rfl _ _ K1.out (by omega) (by rw [hzz.out, hA_size]; exact a81_sz _) (by rw [hzz.out]; exact hA_one _) ?_)
  intro W1 hK1 hG1
  rw [writeAt_all _ _ rfl] at hK1
  have K01 := Lib.hid (show Bk W1 W.heap.size _ _ from (hG1.block _ K0.out.lt (fun e => by injection e with e; omega)).trans K0.out)
  have K11 := Lib.hid (show Bk W1 (W.heap.size + 1) 25 (hA z81) from by rw [← hzz.out]; simpa using hK1)
  have HB1 := Lib.hid (HB.out.grown hG1 HB.out.size (fun j hj => by injection hj with hj; omega))
  clear hK1 hG1 K0 K1 HB
  go_wp2_with (fail)
  refine (qa.out _ (HG0.out.ext HB1.out)).mono ?_
  rintro e w2 ⟨v2, rfl, hO2, hb2⟩
  obtain ⟨A2, cap2, rfl, -, -, -⟩ := (hO2.sl Cell.c_len).cell
  have HO2 := Lib.hid hO2
  have HB2 := Lib.hid (ext_trans HB1.out hb2)
  have K02 := Lib.hid (K01.out.ext hb2)
  have K12 := Lib.hid (K11.out.ext hb2)
  have hs1 := Lib.hid (show W.heap.size + 1 < W1.heap.size from K11.out.lt)
  clear hO2 hb2
  go_wp2_with (fail)
  go_loopw [5] (fun i wr => ∃ (k : Nat) (L : List Int), k ≤ xs.length ∧ i = .int .i64 (k : Int) ∧ L.length = 81 ∧ (∀ i, i < 81 → gpB w h (cellOf i) = false → L.getD i 0 = 0) ∧ (∀ j (hj : j < xs.length), j < k → htL L xs[j] = initG hs gl xs[j]) ∧ Bk wr W.heap.size 25 Try.zeroCells25 ∧ Bk wr (W.heap.size + 1) 25 (hA L) ∧ Own wr W1.heap.size 38 Cell.c 2 (.slice A2 xs.length cap2) xs ∧ Below W.heap.size W wr) (fun i _ => xs.length - (intOf i).toNat)
  case atStart => exact ⟨0, z81, by omega, rfl, z81_len', zeros_zero w h, fun j hj hj2 => by omega, K02.out, K12.out, HO2.out, HB2.out⟩
  case round =>
    obtain ⟨k, L, hk, rfl, hL, hz0, hin, hK0, hK1, hO, hb⟩ := hrel
    have HL := Lib.hid hL
    have HZ0 := Lib.hid hz0
    have HIN := Lib.hid hin
    have HK0 := Lib.hid hK0
    have HK1 := Lib.hid hK1
    have HO := Lib.hid hO
    have HBr := Lib.hid hb
    have HG := Lib.hid (HG0.out.ext hb)
    clear hL hz0 hin hK0 hK1 hO hb
    have hp81 := hpl.out
    by_cases hlt : k < xs.length
    · obtain ⟨A3, cap3, hv, -, -, hcell⟩ := (HO.out.sl Cell.c_len).cell
      obtain ⟨rfl, rfl⟩ : A2 = A3 ∧ cap2 = cap3 := by injection hv with e1 e2 e3; exact ⟨e1, e3⟩
      obtain ⟨b2, o2, rfl, hbb, c0, c1⟩ := hcell k hlt
      have hst := Lib.hid (init_step ok HL.out HZ0.out hpt.out k hlt HIN.out)
      have hqpt := Lib.hid (hpt.out xs[k] (List.getElem_mem hlt))
      have hkd : decide ((k : Int) < (xs.length : Int)) = true := by rw [decide_eq_true_eq]; omega
      have hk0 : (0 : Int) ≤ (k : Int) := by omega
      have hk1 : (k : Int) < (xs.length : Int) := by omega
      clear hcell hv
      obtain ⟨q, hqe⟩ : ∃ q, q = xs[k] := ⟨_, rfl⟩
      rw [← hqe] at hst hqpt c0 c1
      clear hqe
      have C0 := Lib.hid c0
      have C1 := Lib.hid c1
      have hbd := Lib.hid (ok.ht q hqpt.out)
      have qg := Lib.hid (show Calls Try.prog 58 #[.pointer (some ⟨g, 0, none⟩), .agg #[.int .i8 q.x, .int .i8 q.y]] wr _ from sgully_calls g T w h hs hl gl z q wr HG.out (HZ.out.ext HBr.out))
      have hfi := Lib.hid ((findI_ge (fun y => y == q) gl).trans (any_eq_mem gl q))
      generalize findI (fun y => y == q) gl = fi at *
      obtain ⟨a, b, ha, hb2, rfl⟩ := pt_nat ok2 ok4 hqpt.out
      by_cases hin : (⟨(a : Int), (b : Int)⟩ : Cell) ∈ gl
      · have hd : decide (0 ≤ fi) = true := hfi.out.trans (decide_eq_true hin)
        have hini := Lib.hid (show initG hs gl ⟨(a : Int), (b : Int)⟩ = htL hs ⟨(a : Int), (b : Int)⟩ from if_pos hin)
        rw [hini.out] at hst
        clear hin
        go_wp2_with (fail)
        refine qg.out.mono ?_
        rintro e w4 ⟨rfl, hb4⟩
        have HK04 := Lib.hid (HK0.out.ext hb4)
        have HK14 := Lib.hid (HK1.out.ext hb4)
        have HO4 := Lib.hid (HO.out.ext hb4)
        have HB4 := Lib.hid (ext_trans HBr.out hb4)
        have hh := (HG.out.ext hb4).ht hl a b ha hb2
        have d0 := (hb4.cell (p := ⟨b2, _, none⟩) hbb).trans C0.out
        have d1 := (hb4.cell (p := ⟨b2, _, none⟩) hbb).trans C1.out
        have t1 := HK14.out.cell _ _ (hA_nat L HL.out a b ha hb2)
        have f1 := HK14.out.frz (b * 9 + a)
        clear hb4 c0 c1
        generalize htL hs ⟨(a : Int), (b : Int)⟩ = lv at *
        generalize htL L ⟨(a : Int), (b : Int)⟩ = old at *
        go_wp2_with fail
        go_quiet (fail)
        go_wp2_with fail
        go_region
        all_goals
          have HK14b := Lib.hid (HK14.out.set (b * 9 + a) (.int .i16 lv))
          rw [hA_put] at HK14b
          have HK04b := Lib.hid (HK04.out.oth (g' := W.heap.size + 1) (b * 9 + a) (.int .i16 lv) (by omega))
          have HO4b := Lib.hid (HO4.out.keep (w' := w4.setCell ⟨W.heap.size + 1, b * 9 + a, none⟩ (.int .i16 lv)) (fun j hj => by have h1 := HO4.out.base j hj; have h2 := hs1.out; rw [Below.heap_setCell _ _ _ _ (show j ≠ _ by simp <;> omega)]))
          have HB4b := Lib.hid (HB4.out.setCell (p := ⟨W.heap.size + 1, b * 9 + a, none⟩) (by simp <;> omega) (.int .i16 lv))
          go_wp2_with fail
          go_roundw
          case rel => exact ⟨k + 1, _, by omega, by go_num, hst.out.1, hst.out.2.1, hst.out.2.2, HK04b.out, HK14b.out, own_at HO4b.out rfl, below_at HB4b.out rfl rfl rfl rfl⟩
          case measure => first | (simp [intOf]; done) | (simp [intOf]; omega)
      · have hd : decide (0 ≤ fi) = false := hfi.out.trans (decide_eq_false hin)
        have hini := Lib.hid (show initG hs gl ⟨(a : Int), (b : Int)⟩ = 200 from if_neg hin)
        rw [hini.out] at hst
        clear hin
        go_wp2_with (fail)
        refine qg.out.mono ?_
        rintro e w4 ⟨rfl, hb4⟩
        have HK04 := Lib.hid (HK0.out.ext hb4)
        have HK14 := Lib.hid (HK1.out.ext hb4)
        have HO4 := Lib.hid (HO.out.ext hb4)
        have HB4 := Lib.hid (ext_trans HBr.out hb4)
        have d0 := (hb4.cell (p := ⟨b2, _, none⟩) hbb).trans C0.out
        have d1 := (hb4.cell (p := ⟨b2, _, none⟩) hbb).trans C1.out
        have t1 := HK14.out.cell _ _ (hA_nat L HL.out a b ha hb2)
        have f1 := HK14.out.frz (b * 9 + a)
        clear hb4 c0 c1
        obtain ⟨lv, hlv⟩ : ∃ lv : Int, lv = 200 := ⟨_, rfl⟩
        rw [← hlv] at hst
        generalize htL L ⟨(a : Int), (b : Int)⟩ = old at *
        go_wp2_with fail
        rw [← hlv]
        clear hlv
        go_region
        all_goals
          have HK14b := Lib.hid (HK14.out.set (b * 9 + a) (.int .i16 lv))
          rw [hA_put] at HK14b
          have HK04b := Lib.hid (HK04.out.oth (g' := W.heap.size + 1) (b * 9 + a) (.int .i16 lv) (by omega))
          have HO4b := Lib.hid (HO4.out.keep (w' := w4.setCell ⟨W.heap.size + 1, b * 9 + a, none⟩ (.int .i16 lv)) (fun j hj => by have h1 := HO4.out.base j hj; have h2 := hs1.out; rw [Below.heap_setCell _ _ _ _ (show j ≠ _ by simp <;> omega)]))
          have HB4b := Lib.hid (HB4.out.setCell (p := ⟨W.heap.size + 1, b * 9 + a, none⟩) (by simp <;> omega) (.int .i16 lv))
          go_wp2_with fail
          go_roundw
          case rel => exact ⟨k + 1, _, by omega, by go_num, hst.out.1, hst.out.2.1, hst.out.2.2, HK04b.out, HK14b.out, own_at HO4b.out rfl, below_at HB4b.out rfl rfl rfl rfl⟩
          case measure => first | (simp [intOf]; done) | (simp [intOf]; omega)
    · obtain rfl : k = xs.length := by omega
      have hkd : decide ((xs.length : Int) < (xs.length : Int)) = false := by rw [decide_eq_false_iff_not]; omega
      have hT := Lib.hid (hstart.out L HL.out HZ0.out (fun c hc => by
        obtain ⟨i, hi, rfl⟩ := List.getElem_of_mem hc
        exact HIN.out i hi hi))
      clear HL HZ0 HIN hstart
      go_wp2_with fail
      go_loopg [7] (2 * potT L + 1) (fun n chg wr => ∃ (ch : Bool) (L : List Int), chg = .bool ch ∧ TabI w h hs gl L ∧ (ch = false → ∀ a ∈ xs, clos w h hs L a) ∧ 2 * potT L + (if ch then 1 else 0) ≤ n ∧ Bk wr W.heap.size 25 Try.zeroCells25 ∧ Bk wr (W.heap.size + 1) 25 (hA L) ∧ Own wr W1.heap.size 38 Cell.c 2 (.slice A2 xs.length cap2) xs ∧ Below W.heap.size W wr)
      case atStart => exact ⟨true, L, rfl, hT.out, fun h => (by cases h), Nat.le_refl _, HK0.out, HK1.out, HO.out, HBr.out⟩
      case round =>
        clear HK0 HK1 HO HBr HG hT
        obtain ⟨ch0, L0, rfl, hT, hcl, hpt0, hK0, hK1, hO, hb⟩ := hrel
        have HK0 := Lib.hid hK0
        have HK1 := Lib.hid hK1
        have HO := Lib.hid hO
        have HBr := Lib.hid hb
        have HT := Lib.hid hT
        clear hT hK0 hK1 hO hb
        cases ch0 with
        | false =>
          have HL := Lib.hid (hend.out L0 HT.out (hcl rfl))
          have HA := Lib.hid (levA_of L0 HT.out.len HT.out.zero)
          clear hcl
          have d25 := load_a81 HT.out.len HK1.out
          go_wp2_with (first | (refine wpList_load_w rfl 25 (.tmp 3) rfl _ rfl _ d25 ?_) | (refine wpList_store_m rfl 25 (.tmp 2) (.tmp 114) rfl _ 0 (hA L0) rfl rfl _ _ HK0.out (by rw [hzz.out, hA_size, hA_size, HT.out.len, z81_len']; omega) (by rw [hA_size, HT.out.len]; exact a81_sz _) (hA_one L0) ?_))
          intro W9 hK9 hG9
          rw [writeAt_all _ _ (by rw [hzz.out, Array.length_toList, Array.length_toList, hA_size, hA_size, HT.out.len, z81_len'])] at hK9
          have HK9 := Lib.hid hK9
          have HB9 := Lib.hid (HBr.out.grown hG9 HBr.out.size (fun j hj => by injection hj with hj; omega))
          clear hK9 hG9
          go_wp2_with fail
          exact cellret Try.results50 rfl (load_a81 HT.out.len HK9.out) rfl ⟨⟨htL L0, HL.out, by rw [← HA.out]⟩, HB9.out⟩
        | true =>
          have hpt1 := Lib.hid (show 2 * potT L0 + 1 ≤ gk from hpt0)
          clear hcl hpt0
          go_wp2_with fail
          go_loopw [7, 8] (fun chg i wr => ∃ (ch : Bool) (k : Nat) (L : List Int), k ≤ xs.length ∧ i = .int .i64 (k : Int) ∧ chg = .bool ch ∧ Q3 w h hs gl L0 xs k ch L ∧ Bk wr W.heap.size 25 Try.zeroCells25 ∧ Bk wr (W.heap.size + 1) 25 (hA L) ∧ Own wr W1.heap.size 38 Cell.c 2 (.slice A2 xs.length cap2) xs ∧ Below W.heap.size W wr) (fun _ i _ => xs.length - (intOf i).toNat)
          case atStart => exact ⟨false, 0, L0, by omega, rfl, rfl, Q3.zero HT.out, HK0.out, HK1.out, HO.out, HBr.out⟩
          case round =>
            clear HK0 HK1 HO HBr
            obtain ⟨ch, k, L, hk, rfl, rfl, hQ, hK0, hK1, hO, hb⟩ := hrel
            have HQ := Lib.hid hQ
            have HK0 := Lib.hid hK0
            have HK1 := Lib.hid hK1
            have HO := Lib.hid hO
            have HBr := Lib.hid hb
            have HG := Lib.hid (HG0.out.ext hb)
            clear hQ hK0 hK1 hO hb
            by_cases hlt : k < xs.length
            · obtain ⟨A3, cap3, hv, -, -, hcell⟩ := (HO.out.sl Cell.c_len).cell
              obtain ⟨rfl, rfl⟩ : A2 = A3 ∧ cap2 = cap3 := by injection hv with e1 e2 e3; exact ⟨e1, e3⟩
              obtain ⟨b1, o1, rfl, hbb, c0, c1⟩ := hcell k hlt
              have hqpt := Lib.hid (hpt.out xs[k] (List.getElem_mem hlt))
              have hkd : decide ((k : Int) < (xs.length : Int)) = true := by rw [decide_eq_true_eq]; omega
              have hk0 : (0 : Int) ≤ (k : Int) := by omega
              have hk1 : (k : Int) < (xs.length : Int) := by omega
              have hfin3 := Lib.hid (fun a e ch L q => Q4.fin (w := w) (h := h) (hs := hs) (gl := gl) (L0 := L0) (ch := ch) (L := L) (a := a) hlt e q)
              have hQ4 := Lib.hid (fun a ys => Q4.zero (a := a) (ys := ys) HQ.out)
              obtain ⟨q, hqe⟩ : ∃ q, xs[k] = q := ⟨_, rfl⟩
              have HQE := Lib.hid hqe
              rw [hqe] at hqpt c0 c1
              clear hcell hv hqe HQ
              obtain ⟨a0, a1, ha0, ha1, rfl⟩ := pt_nat ok2 ok4 hqpt.out
              have hfin := Lib.hid (hfin3.out _ HQE.out)
              clear hfin3
              have qb := Lib.hid (fun W' hk => show Calls Try.prog 71 #[.pointer (some ⟨g, 0, none⟩), .agg #[.int .i8 (a0 : Int), .int .i8 (a1 : Int)]] W' _ from sbeside_calls g T w h (by omega) (by omega) (by omega) (by omega) hs z ⟨(a0 : Int), (a1 : Int)⟩ (by simp) (by simp; omega) (by simp) (by simp; omega) W' hk)
              have hyl := Lib.hid (around_len w h ⟨(a0 : Int), (a1 : Int)⟩)
              have hyp := Lib.hid (fun c (hc : c ∈ aroundL w h ⟨(a0 : Int), (a1 : Int)⟩) => around_pt hc)
              have hput := Lib.hid (fun c (hc : c ∈ aroundL w h ⟨(a0 : Int), (a1 : Int)⟩) j ch L (q : Q4 w h hs gl L0 xs k ⟨(a0 : Int), (a1 : Int)⟩ (aroundL w h ⟨(a0 : Int), (a1 : Int)⟩) j ch L) hlt => q.put ok hqpt.out hc hlt)
              replace hQ4 := Lib.hid (hQ4.out ⟨(a0 : Int), (a1 : Int)⟩ (aroundL w h ⟨(a0 : Int), (a1 : Int)⟩))
              generalize aroundL w h ⟨(a0 : Int), (a1 : Int)⟩ = ys at *
              have HBa := Lib.hid (HBr.out.alloc HBr.out.size (.cells #[.int .i8 (a0 : Int), .int .i8 (a1 : Int)] 38))
              have HK0a := Lib.hid (HK0.out.alloc (.cells #[.int .i8 (a0 : Int), .int .i8 (a1 : Int)] 38))
              have HK1a := Lib.hid (HK1.out.alloc (.cells #[.int .i8 (a0 : Int), .int .i8 (a1 : Int)] 38))
              have HOa := Lib.hid (HO.out.alloc (.cells #[.int .i8 (a0 : Int), .int .i8 (a1 : Int)] 38))
              have HWa := Lib.hid (Bk.new wr 38 #[.int .i8 (a0 : Int), .int .i8 (a1 : Int)] wr.heap.size rfl)
              have hwb := Lib.hid (show W.heap.size + 1 < wr.heap.size from HK1.out.lt)
              have HGa := Lib.hid (HG.out.alloc (.cells #[.int .i8 (a0 : Int), .int .i8 (a1 : Int)] 38))
              clear HK0 HK1 HO HBr HG
              go_wp2_with fail
              generalize wr.alloc (.cells #[.int .i8 (a0 : Int), .int .i8 (a1 : Int)] 38) = w5 at *
              generalize wr.heap.size = wb at *
              refine (qb.out _ HGa.out).mono ?_
              rintro e w6 ⟨v6, rfl, hO6, hb6⟩
              have HB6 := Lib.hid (ext_trans HBa.out hb6)
              have HK06 := Lib.hid (HK0a.out.ext hb6)
              have HK16 := Lib.hid (HK1a.out.ext hb6)
              have HO6 := Lib.hid (HOa.out.ext hb6)
              have HW6 := Lib.hid (HWa.out.ext hb6)
              have hw5 := Lib.hid (show wb < w5.heap.size from HWa.out.lt)
              obtain ⟨A4, cap4, rfl, -, -, -⟩ := (hO6.sl Cell.c_len).cell
              have HY6 := Lib.hid hO6
              clear hO6 hb6 HBa HK0a HK1a HOa HWa qb c0 c1
              go_wp2_with fail
              go_loopw [7, 11] (fun chg i wr => ∃ (ch : Bool) (j : Nat) (L : List Int), j ≤ ys.length ∧ i = .int .i64 (j : Int) ∧ chg = .bool ch ∧ Q4 w h hs gl L0 xs k ⟨(a0 : Int), (a1 : Int)⟩ ys j ch L ∧ Bk wr W.heap.size 25 Try.zeroCells25 ∧ Bk wr (W.heap.size + 1) 25 (hA L) ∧ Own wr W1.heap.size 38 Cell.c 2 (.slice (some ⟨b1, o1, none⟩) xs.length cap2) xs ∧ Own wr w5.heap.size 38 Cell.c 2 (.slice A4 ys.length cap4) ys ∧ Bk wr wb 38 #[.int .i8 (a0 : Int), .int .i8 (a1 : Int)] ∧ Below W.heap.size W wr) (fun _ i _ => ys.length - (intOf i).toNat)
              case atStart => exact ⟨ch, 0, L, by omega, rfl, rfl, hQ4.out, HK06.out, HK16.out, HO6.out, HY6.out, HW6.out, HB6.out⟩
              case round =>
                clear HK06 HK16 HO6 HY6 HW6 HB6 hQ4
                obtain ⟨ch, j, L, hj, rfl, rfl, hQ, hK0, hK1, hO, hY, hWb, hb⟩ := hrel
                have HQ := Lib.hid hQ
                have HK0 := Lib.hid hK0
                have HK1 := Lib.hid hK1
                have HO := Lib.hid hO
                have HY := Lib.hid hY
                have HWb := Lib.hid hWb
                have HBr := Lib.hid hb
                have HG := Lib.hid (HG0.out.ext hb)
                clear hQ hK0 hK1 hO hY hWb hb
                have hy4 := hyl.out
                by_cases hjl : j < ys.length
                · obtain ⟨A5, cap5, hv, -, -, hcell⟩ := (HY.out.sl Cell.c_len).cell
                  obtain ⟨rfl, rfl⟩ : A4 = A5 ∧ cap4 = cap5 := by injection hv with e1 e2 e3; exact ⟨e1, e3⟩
                  obtain ⟨b2, o2, rfl, hbb2, c0, c1⟩ := hcell j hjl
                  have hjd : decide ((j : Int) < (ys.length : Int)) = true := by rw [decide_eq_true_eq]; omega
                  have hj0 : (0 : Int) ≤ (j : Int) := by omega
                  have hj1 : (j : Int) < (ys.length : Int) := by omega
                  have hcpt := Lib.hid (hyp.out ys[j] (List.getElem_mem hjl))
                  have hkp := Lib.hid (HQ.out.keep hjl)
                  have hpp := Lib.hid (hput.out ys[j] (List.getElem_mem hjl) j ch L HQ.out)
                  obtain ⟨d, hde⟩ : ∃ d, ys[j] = d := ⟨_, rfl⟩
                  rw [hde] at hcpt hkp hpp c0 c1
                  clear hde hcell hv
                  obtain ⟨d0, d1, hd0, hd1, rfl⟩ := pt_nat ok2 ok4 hcpt.out
                  have bA := HQ.out.tab.bd ok hqpt.out
                  have bC := HQ.out.tab.bd ok hcpt.out
                  have bH := ok.ht _ hqpt.out
                  have q1 := Lib.hid (fun W2 (hk : Below W.heap.size W W2) => sheightP_calls ok hl z g T ⟨(a0 : Int), (a1 : Int)⟩ hqpt.out W2 (HG0.out.ext hk))
                  have q2 := Lib.hid (fun W' => max_calls (htL hs ⟨(a0 : Int), (a1 : Int)⟩) (htL L ⟨(d0 : Int), (d1 : Int)⟩) W')
                  have tC := hA_nat L HQ.out.tab.len d0 d1 hd0 hd1
                  have tA := hA_nat L HQ.out.tab.len a0 a1 ha0 ha1
                  have HS := Lib.hid (LvS.first (a := ⟨(a0 : Int), (a1 : Int)⟩) (c := ⟨(d0 : Int), (d1 : Int)⟩) HWb.out hbb2 c0 c1 HK1.out tC)
                  clear tC c0 c1 HQ hqpt hcpt
                  have i0 : (d0 : Int) < 9 := by omega
                  have i1 : (d1 : Int) < 9 := by omega
                  have i2 : (a0 : Int) < 9 := by omega
                  have i3 : (a1 : Int) < 9 := by omega
                  generalize htL hs ⟨(a0 : Int), (a1 : Int)⟩ = ah at *
                  generalize htL L ⟨(d0 : Int), (d1 : Int)⟩ = fc at *
                  generalize htL L ⟨(a0 : Int), (a1 : Int)⟩ = fa at *
                  have wC : IntKind.i64.wrap fc = fc := wrapIn _ (by omega) (by omega)
                  have wA : IntKind.i64.wrap fa = fa := wrapIn _ (by omega) (by omega)
                  have wM : IntKind.i16.wrap (max ah fc) = max ah fc := wrap16In _ (by omega) (by omega)
                  generalize max ah fc = mx at *
                  clear bA bC bH
                  by_cases hcmp : mx < fa
                  · have hcd : decide (mx < fa) = true := decide_eq_true hcmp
                    have HN := Lib.hid (hpp.out hcmp)
                    clear hcmp hkp hpp
                    go_wp2_with fail
                    refine wp_region_held_drew (S := (LvS wr wb b2 (o2 + j * 2) (W.heap.size + 1) (d1 * 9 + d0) ⟨(a0 : Int), (a1 : Int)⟩ ⟨(d0 : Int), (d1 : Int)⟩ fc)) (by kernel_rfl) ?r23_hS0 (fun hHeld => ?r23_rest)
                    case r23_hS0 => (try dsimp only); first | assumption | exact HS.out _ (kp0 _) | exact HS.out _ (Below.refl _ _) | exact HS.out _ (kp1 (And.left (b := _) (by assumption))) | exact HS.out _ (ext_trans (And.left (b := _) (by assumption)) (by assumption))
                    refine wpAnyH_take (i := 0) (v := ?r23_vv0) (by (simp only [List.getElem?_toArray, List.getElem?_cons_succ, List.getElem?_cons_zero]; rfl)) (by kernel_rfl) (by kernel_rfl) (by kernel_rfl) (by exact fun _ _ _ h => h) (Or.inl ⟨by rfl, ?r23_hy0⟩) (by assumption) ?r23_rest0
                    case r23_hy0 => intro w hSw; (try dsimp only at hSw); (go_simp <;> (with_reducible rfl))
                    try simp only [Act.put, List.setIfInBounds_toArray, List.set_cons_zero, List.set_cons_succ]
                    refine wpAnyH_take (i := 1) (v := ?r23_vv1) (by (simp only [List.getElem?_toArray, List.getElem?_cons_succ, List.getElem?_cons_zero]; rfl)) (by kernel_rfl) (by kernel_rfl) (by kernel_rfl) (by exact fun _ _ _ h => h) (Or.inl ⟨by rfl, ?r23_hy1⟩) (by assumption) ?r23_rest1
                    case r23_hy1 => intro w hSw; (try dsimp only at hSw); (go_simp <;> (with_reducible rfl))
                    try simp only [Act.put, List.setIfInBounds_toArray, List.set_cons_zero, List.set_cons_succ]
                    refine wpAnyH_take (i := 3) (v := ?r23_vv3) (by (simp only [List.getElem?_toArray, List.getElem?_cons_succ, List.getElem?_cons_zero]; rfl)) (by kernel_rfl) (by kernel_rfl) (by kernel_rfl) (by exact fun _ _ _ h => h) (Or.inl ⟨by rfl, ?r23_hy3⟩) (by assumption) ?r23_rest3
                    case r23_hy3 => intro w hSw; (try dsimp only at hSw); (go_simp <;> (with_reducible rfl))
                    try simp only [Act.put, List.setIfInBounds_toArray, List.set_cons_zero, List.set_cons_succ]
                    refine wpAnyH_take (i := 4) (v := ?r23_vv4) (by (simp only [List.getElem?_toArray, List.getElem?_cons_succ, List.getElem?_cons_zero]; rfl)) (by kernel_rfl) (by kernel_rfl) (by kernel_rfl) (by exact fun _ _ _ h => h) (Or.inl ⟨by rfl, ?r23_hy4⟩) (by assumption) ?r23_rest4
                    case r23_hy4 => intro w hSw; (try dsimp only at hSw); (go_simp <;> (with_reducible rfl))
                    try simp only [Act.put, List.setIfInBounds_toArray, List.set_cons_zero, List.set_cons_succ]
                    refine wpAnyH_take (i := 5) (v := ?r23_vv5) (by (simp only [List.getElem?_toArray, List.getElem?_cons_succ, List.getElem?_cons_zero]; rfl)) (by kernel_rfl) (by kernel_rfl) (by kernel_rfl) (by exact fun _ _ _ h => h) (Or.inl ⟨by rfl, ?r23_hy5⟩) (by assumption) ?r23_rest5
                    case r23_hy5 => intro w hSw; (try dsimp only at hSw); (go_simp <;> (with_reducible rfl))
                    try simp only [Act.put, List.setIfInBounds_toArray, List.set_cons_zero, List.set_cons_succ]
                    refine wpAnyH_take (i := 6) (v := ?r23_vv6) (by (simp only [List.getElem?_toArray, List.getElem?_cons_succ, List.getElem?_cons_zero]; rfl)) (by kernel_rfl) (by kernel_rfl) (by kernel_rfl) (by exact fun _ _ _ h => h) (Or.inl ⟨by rfl, ?r23_hy6⟩) (by assumption) ?r23_rest6
                    case r23_hy6 => intro w hSw; (try dsimp only at hSw); (go_simp <;> (with_reducible rfl))
                    try simp only [Act.put, List.setIfInBounds_toArray, List.set_cons_zero, List.set_cons_succ]
                    refine wpAnyH_take (i := 7) (v := ?r23_vv7) (by (simp only [List.getElem?_toArray, List.getElem?_cons_succ, List.getElem?_cons_zero]; rfl)) (by kernel_rfl) (by kernel_rfl) (by kernel_rfl) (by exact fun _ _ _ h => h) (Or.inl ⟨by rfl, ?r23_hy7⟩) (by assumption) ?r23_rest7
                    case r23_hy7 => intro w hSw; (try dsimp only at hSw); (go_simp <;> (with_reducible rfl))
                    try simp only [Act.put, List.setIfInBounds_toArray, List.set_cons_zero, List.set_cons_succ]
                    refine wpAnyH_take (i := 8) (v := ?r23_vv8) (by (simp only [List.getElem?_toArray, List.getElem?_cons_succ, List.getElem?_cons_zero]; rfl)) (by kernel_rfl) (by kernel_rfl) (by kernel_rfl) (by exact fun _ _ _ h => h) (Or.inl ⟨by rfl, ?r23_hy8⟩) (by assumption) ?r23_rest8
                    case r23_hy8 => intro w hSw; (try dsimp only at hSw); (go_simp <;> (with_reducible rfl))
                    try simp only [Act.put, List.setIfInBounds_toArray, List.set_cons_zero, List.set_cons_succ]
                    refine wpAnyH_take (i := 9) (v := ?r23_vv9) (by (simp only [List.getElem?_toArray, List.getElem?_cons_succ, List.getElem?_cons_zero]; rfl)) (by kernel_rfl) (by kernel_rfl) (by kernel_rfl) (by exact fun _ _ _ h => h) (Or.inl ⟨by rfl, ?r23_hy9⟩) (by assumption) ?r23_rest9
                    case r23_hy9 => intro w hSw; (try dsimp only at hSw); (go_simp <;> (with_reducible rfl))
                    try simp only [Act.put, List.setIfInBounds_toArray, List.set_cons_zero, List.set_cons_succ]
                    refine wpAnyH_take (i := 10) (v := ?r23_vv10) (by (simp only [List.getElem?_toArray, List.getElem?_cons_succ, List.getElem?_cons_zero]; rfl)) (by kernel_rfl) (by kernel_rfl) (by kernel_rfl) (by exact fun _ _ _ h => h) (Or.inl ⟨by rfl, ?r23_hy10⟩) (by assumption) ?r23_rest10
                    case r23_hy10 => intro w hSw; (try dsimp only at hSw); (go_simp <;> (with_reducible rfl))
                    try simp only [Act.put, List.setIfInBounds_toArray, List.set_cons_zero, List.set_cons_succ]
                    refine wpAnyH_take (i := 11) (v := ?r23_vv11) (by (simp only [List.getElem?_toArray, List.getElem?_cons_succ, List.getElem?_cons_zero]; rfl)) (by kernel_rfl) (by kernel_rfl) (by kernel_rfl) (by exact fun _ _ _ h => h) (Or.inl ⟨by rfl, ?r23_hy11⟩) (by assumption) ?r23_rest11
                    case r23_hy11 => intro w hSw; (try dsimp only at hSw); (go_simp <;> (with_reducible rfl))
                    try simp only [Act.put, List.setIfInBounds_toArray, List.set_cons_zero, List.set_cons_succ]
                    refine wpAnyH_take (i := 12) (v := ?r23_vv12) (by (simp only [List.getElem?_toArray, List.getElem?_cons_succ, List.getElem?_cons_zero]; rfl)) (by kernel_rfl) (by kernel_rfl) (by kernel_rfl) (by exact fun _ _ _ h => h) (Or.inl ⟨by rfl, ?r23_hy12⟩) (by assumption) ?r23_rest12
                    case r23_hy12 => intro w hSw; (try dsimp only at hSw); (go_simp <;> (with_reducible rfl))
                    try simp only [Act.put, List.setIfInBounds_toArray, List.set_cons_zero, List.set_cons_succ]
                    refine wpAnyH_take (i := 13) (v := ?r23_vv13) (by (simp only [List.getElem?_toArray, List.getElem?_cons_succ, List.getElem?_cons_zero]; rfl)) (by kernel_rfl) (by kernel_rfl) (by kernel_rfl) (by exact fun _ _ _ h => h) (Or.inl ⟨by rfl, ?r23_hy13⟩) (by assumption) ?r23_rest13
                    case r23_hy13 => intro w hSw; (try dsimp only at hSw); (go_simp <;> (with_reducible rfl))
                    try simp only [Act.put, List.setIfInBounds_toArray, List.set_cons_zero, List.set_cons_succ]
                    refine wpAnyH_take (i := 14) (v := ?r23_vv14) (by (simp only [List.getElem?_toArray, List.getElem?_cons_succ, List.getElem?_cons_zero]; rfl)) (by kernel_rfl) (by kernel_rfl) (by kernel_rfl) (by exact fun _ _ _ h => h) (Or.inl ⟨by rfl, ?r23_hy14⟩) (by assumption) ?r23_rest14
                    case r23_hy14 => intro w hSw; (try dsimp only at hSw); (go_simp <;> (with_reducible rfl))
                    try simp only [Act.put, List.setIfInBounds_toArray, List.set_cons_zero, List.set_cons_succ]
                    refine wpAnyH_take (i := 15) (v := ?r23_vv15) (by (simp only [List.getElem?_toArray, List.getElem?_cons_succ, List.getElem?_cons_zero]; rfl)) (by kernel_rfl) (by kernel_rfl) (by kernel_rfl) (by exact fun _ _ _ h => h) (Or.inl ⟨by rfl, ?r23_hy15⟩) (by assumption) ?r23_rest15
                    case r23_hy15 => intro w hSw; (try dsimp only at hSw); (go_simp <;> (with_reducible rfl))
                    try simp only [Act.put, List.setIfInBounds_toArray, List.set_cons_zero, List.set_cons_succ]
                    refine wpAnyH_take (i := 16) (v := ?r23_vv16) (by (simp only [List.getElem?_toArray, List.getElem?_cons_succ, List.getElem?_cons_zero]; rfl)) (by kernel_rfl) (by kernel_rfl) (by kernel_rfl) (by exact fun _ _ _ h => h) (Or.inl ⟨by rfl, ?r23_hy16⟩) (by assumption) ?r23_rest16
                    case r23_hy16 => intro w hSw; (try dsimp only at hSw); (go_simp <;> (with_reducible rfl))
                    try simp only [Act.put, List.setIfInBounds_toArray, List.set_cons_zero, List.set_cons_succ]
                    refine wpAnyH_ready (rs := [2]) (by kernel_rfl) (by simp) ?_
                    refine AllReadyH.cons (by (simp only [List.getElem?_toArray, List.getElem?_cons_succ, List.getElem?_cons_zero]; rfl)) (fun K hK => ?_) AllReadyH.nil
                    go_simp
                    (go_at_call 73; with_reducible refine (q1.out _ (ext_trans HBr.out (And.left (b := _) (by assumption)))).mono ?_; rintro e w8 ⟨rfl, hb8⟩)
                    try go_wp2_with fail
                    refine hK.out _ _ ?r23_hS2 (fun hHeld => ?r23_r2)
                    case r23_hS2 => (try dsimp only); first | assumption | exact HS.out _ (kp0 _) | exact HS.out _ (Below.refl _ _) | exact HS.out _ (kp1 (And.left (b := _) (by assumption))) | exact HS.out _ (ext_trans (And.left (b := _) (by assumption)) (by assumption))
                    clear hK K
                    try simp only [Act.put, List.setIfInBounds_toArray, List.set_cons_zero, List.set_cons_succ]
                    refine wpAnyH_ready (rs := [17]) (by kernel_rfl) (by simp) ?_
                    refine AllReadyH.cons (by (simp only [List.getElem?_toArray, List.getElem?_cons_succ, List.getElem?_cons_zero]; rfl)) (fun K hK => ?_) AllReadyH.nil
                    go_simp
                    (go_at_call 72; with_reducible refine (q2.out _).mono ?_; rintro e w9 ⟨rfl, rfl⟩)
                    try go_wp2_with fail
                    refine hK.out _ _ ?r23_hS17 (fun hHeld => ?r23_r17)
                    case r23_hS17 => (try dsimp only); first | assumption | exact HS.out _ (kp0 _) | exact HS.out _ (Below.refl _ _) | exact HS.out _ (kp1 (And.left (b := _) (by assumption))) | exact HS.out _ (ext_trans (And.left (b := _) (by assumption)) (by assumption))
                    clear hK K
                    try simp only [Act.put, List.setIfInBounds_toArray, List.set_cons_zero, List.set_cons_succ]
                    refine wpAnyH_take (i := 18) (v := ?r23_vv18) (by (simp only [List.getElem?_toArray, List.getElem?_cons_succ, List.getElem?_cons_zero]; rfl)) (by kernel_rfl) (by kernel_rfl) (by kernel_rfl) (by exact fun _ _ _ h => h) (Or.inl ⟨by rfl, ?r23_hy18⟩) (by assumption) ?r23_rest18
                    case r23_hy18 => intro w hSw; (try dsimp only at hSw); (go_simp <;> (with_reducible rfl))
                    try simp only [Act.put, List.setIfInBounds_toArray, List.set_cons_zero, List.set_cons_succ]
                    refine wpAnyH_done (by kernel_rfl) ?_ _
                    have HW := Lib.hid (show Below wr.heap.size wr w8 from And.left (b := _) (by assumption))
                    have HK08 := Lib.hid (HK0.out.ext HW.out)
                    have HK18 := Lib.hid (HK1.out.ext HW.out)
                    have HO8 := Lib.hid (HO.out.ext HW.out)
                    have HY8 := Lib.hid (HY.out.ext HW.out)
                    have HW8 := Lib.hid (HWb.out.ext HW.out)
                    have HB8 := Lib.hid (ext_trans HBr.out HW.out)
                    have x0 := HW8.out.cell 0 _ rfl
                    have x1 := HW8.out.cell 1 _ rfl
                    have tA8 := HK18.out.cell _ _ tA
                    have fA8 := HK18.out.frz (a1 * 9 + a0)
                    go_wp2_with fail
                    go_quiet (fail)
                    go_wp2_with fail
                    go_region
                    all_goals
                      have HK18b := Lib.hid (HK18.out.set (a1 * 9 + a0) (.int .i16 mx))
                      rw [hA_put] at HK18b
                      have HK08b := Lib.hid (HK08.out.oth (g' := W.heap.size + 1) (a1 * 9 + a0) (.int .i16 mx) (by omega))
                      have HW8b := Lib.hid (HW8.out.oth (g' := W.heap.size + 1) (a1 * 9 + a0) (.int .i16 mx) (by have := hwb.out; omega))
                      have HO8b := Lib.hid (HO8.out.keep (w' := w8.setCell ⟨W.heap.size + 1, a1 * 9 + a0, none⟩ (.int .i16 mx)) (fun j hj => by have h1 := HO8.out.base j hj; have h2 := hs1.out; rw [Below.heap_setCell _ _ _ _ (show j ≠ _ by simp <;> omega)]))
                      have HY8b := Lib.hid (HY8.out.keep (w' := w8.setCell ⟨W.heap.size + 1, a1 * 9 + a0, none⟩ (.int .i16 mx)) (fun j hj => by have h1 := HY8.out.base j hj; have h2 := hwb.out; have h3 := hw5.out; rw [Below.heap_setCell _ _ _ _ (show j ≠ _ by simp <;> omega)]))
                      have HB8b := Lib.hid (HB8.out.setCell (p := ⟨W.heap.size + 1, a1 * 9 + a0, none⟩) (by simp <;> omega) (.int .i16 mx))
                      go_wp2_with fail
                      go_roundw
                      case rel => exact ⟨true, j + 1, _, by omega, by go_num, rfl, HN.out, HK08b.out, HK18b.out, own_at HO8b.out rfl, own_at HY8b.out rfl, HW8b.out, below_at HB8b.out rfl rfl rfl rfl⟩
                      case measure => first | (simp [intOf]; done) | (simp [intOf]; omega)
                  · have hcd : decide (mx < fa) = false := decide_eq_false hcmp
                    have HN := Lib.hid (hkp.out hcmp)
                    clear hcmp hkp hpp
                    go_wp2_with fail
                    refine wp_region_held_drew (S := (LvS wr wb b2 (o2 + j * 2) (W.heap.size + 1) (d1 * 9 + d0) ⟨(a0 : Int), (a1 : Int)⟩ ⟨(d0 : Int), (d1 : Int)⟩ fc)) (by kernel_rfl) ?r24_hS0 (fun hHeld => ?r24_rest)
                    case r24_hS0 => (try dsimp only); first | assumption | exact HS.out _ (kp0 _) | exact HS.out _ (Below.refl _ _) | exact HS.out _ (kp1 (And.left (b := _) (by assumption))) | exact HS.out _ (ext_trans (And.left (b := _) (by assumption)) (by assumption))
                    refine wpAnyH_take (i := 0) (v := ?r24_vv0) (by (simp only [List.getElem?_toArray, List.getElem?_cons_succ, List.getElem?_cons_zero]; rfl)) (by kernel_rfl) (by kernel_rfl) (by kernel_rfl) (by exact fun _ _ _ h => h) (Or.inl ⟨by rfl, ?r24_hy0⟩) (by assumption) ?r24_rest0
                    case r24_hy0 => intro w hSw; (try dsimp only at hSw); (go_simp <;> (with_reducible rfl))
                    try simp only [Act.put, List.setIfInBounds_toArray, List.set_cons_zero, List.set_cons_succ]
                    refine wpAnyH_take (i := 1) (v := ?r24_vv1) (by (simp only [List.getElem?_toArray, List.getElem?_cons_succ, List.getElem?_cons_zero]; rfl)) (by kernel_rfl) (by kernel_rfl) (by kernel_rfl) (by exact fun _ _ _ h => h) (Or.inl ⟨by rfl, ?r24_hy1⟩) (by assumption) ?r24_rest1
                    case r24_hy1 => intro w hSw; (try dsimp only at hSw); (go_simp <;> (with_reducible rfl))
                    try simp only [Act.put, List.setIfInBounds_toArray, List.set_cons_zero, List.set_cons_succ]
                    refine wpAnyH_take (i := 3) (v := ?r24_vv3) (by (simp only [List.getElem?_toArray, List.getElem?_cons_succ, List.getElem?_cons_zero]; rfl)) (by kernel_rfl) (by kernel_rfl) (by kernel_rfl) (by exact fun _ _ _ h => h) (Or.inl ⟨by rfl, ?r24_hy3⟩) (by assumption) ?r24_rest3
                    case r24_hy3 => intro w hSw; (try dsimp only at hSw); (go_simp <;> (with_reducible rfl))
                    try simp only [Act.put, List.setIfInBounds_toArray, List.set_cons_zero, List.set_cons_succ]
                    refine wpAnyH_take (i := 4) (v := ?r24_vv4) (by (simp only [List.getElem?_toArray, List.getElem?_cons_succ, List.getElem?_cons_zero]; rfl)) (by kernel_rfl) (by kernel_rfl) (by kernel_rfl) (by exact fun _ _ _ h => h) (Or.inl ⟨by rfl, ?r24_hy4⟩) (by assumption) ?r24_rest4
                    case r24_hy4 => intro w hSw; (try dsimp only at hSw); (go_simp <;> (with_reducible rfl))
                    try simp only [Act.put, List.setIfInBounds_toArray, List.set_cons_zero, List.set_cons_succ]
                    refine wpAnyH_take (i := 5) (v := ?r24_vv5) (by (simp only [List.getElem?_toArray, List.getElem?_cons_succ, List.getElem?_cons_zero]; rfl)) (by kernel_rfl) (by kernel_rfl) (by kernel_rfl) (by exact fun _ _ _ h => h) (Or.inl ⟨by rfl, ?r24_hy5⟩) (by assumption) ?r24_rest5
                    case r24_hy5 => intro w hSw; (try dsimp only at hSw); (go_simp <;> (with_reducible rfl))
                    try simp only [Act.put, List.setIfInBounds_toArray, List.set_cons_zero, List.set_cons_succ]
                    refine wpAnyH_take (i := 6) (v := ?r24_vv6) (by (simp only [List.getElem?_toArray, List.getElem?_cons_succ, List.getElem?_cons_zero]; rfl)) (by kernel_rfl) (by kernel_rfl) (by kernel_rfl) (by exact fun _ _ _ h => h) (Or.inl ⟨by rfl, ?r24_hy6⟩) (by assumption) ?r24_rest6
                    case r24_hy6 => intro w hSw; (try dsimp only at hSw); (go_simp <;> (with_reducible rfl))
                    try simp only [Act.put, List.setIfInBounds_toArray, List.set_cons_zero, List.set_cons_succ]
                    refine wpAnyH_take (i := 7) (v := ?r24_vv7) (by (simp only [List.getElem?_toArray, List.getElem?_cons_succ, List.getElem?_cons_zero]; rfl)) (by kernel_rfl) (by kernel_rfl) (by kernel_rfl) (by exact fun _ _ _ h => h) (Or.inl ⟨by rfl, ?r24_hy7⟩) (by assumption) ?r24_rest7
                    case r24_hy7 => intro w hSw; (try dsimp only at hSw); (go_simp <;> (with_reducible rfl))
                    try simp only [Act.put, List.setIfInBounds_toArray, List.set_cons_zero, List.set_cons_succ]
                    refine wpAnyH_take (i := 8) (v := ?r24_vv8) (by (simp only [List.getElem?_toArray, List.getElem?_cons_succ, List.getElem?_cons_zero]; rfl)) (by kernel_rfl) (by kernel_rfl) (by kernel_rfl) (by exact fun _ _ _ h => h) (Or.inl ⟨by rfl, ?r24_hy8⟩) (by assumption) ?r24_rest8
                    case r24_hy8 => intro w hSw; (try dsimp only at hSw); (go_simp <;> (with_reducible rfl))
                    try simp only [Act.put, List.setIfInBounds_toArray, List.set_cons_zero, List.set_cons_succ]
                    refine wpAnyH_take (i := 9) (v := ?r24_vv9) (by (simp only [List.getElem?_toArray, List.getElem?_cons_succ, List.getElem?_cons_zero]; rfl)) (by kernel_rfl) (by kernel_rfl) (by kernel_rfl) (by exact fun _ _ _ h => h) (Or.inl ⟨by rfl, ?r24_hy9⟩) (by assumption) ?r24_rest9
                    case r24_hy9 => intro w hSw; (try dsimp only at hSw); (go_simp <;> (with_reducible rfl))
                    try simp only [Act.put, List.setIfInBounds_toArray, List.set_cons_zero, List.set_cons_succ]
                    refine wpAnyH_take (i := 10) (v := ?r24_vv10) (by (simp only [List.getElem?_toArray, List.getElem?_cons_succ, List.getElem?_cons_zero]; rfl)) (by kernel_rfl) (by kernel_rfl) (by kernel_rfl) (by exact fun _ _ _ h => h) (Or.inl ⟨by rfl, ?r24_hy10⟩) (by assumption) ?r24_rest10
                    case r24_hy10 => intro w hSw; (try dsimp only at hSw); (go_simp <;> (with_reducible rfl))
                    try simp only [Act.put, List.setIfInBounds_toArray, List.set_cons_zero, List.set_cons_succ]
                    refine wpAnyH_take (i := 11) (v := ?r24_vv11) (by (simp only [List.getElem?_toArray, List.getElem?_cons_succ, List.getElem?_cons_zero]; rfl)) (by kernel_rfl) (by kernel_rfl) (by kernel_rfl) (by exact fun _ _ _ h => h) (Or.inl ⟨by rfl, ?r24_hy11⟩) (by assumption) ?r24_rest11
                    case r24_hy11 => intro w hSw; (try dsimp only at hSw); (go_simp <;> (with_reducible rfl))
                    try simp only [Act.put, List.setIfInBounds_toArray, List.set_cons_zero, List.set_cons_succ]
                    refine wpAnyH_take (i := 12) (v := ?r24_vv12) (by (simp only [List.getElem?_toArray, List.getElem?_cons_succ, List.getElem?_cons_zero]; rfl)) (by kernel_rfl) (by kernel_rfl) (by kernel_rfl) (by exact fun _ _ _ h => h) (Or.inl ⟨by rfl, ?r24_hy12⟩) (by assumption) ?r24_rest12
                    case r24_hy12 => intro w hSw; (try dsimp only at hSw); (go_simp <;> (with_reducible rfl))
                    try simp only [Act.put, List.setIfInBounds_toArray, List.set_cons_zero, List.set_cons_succ]
                    refine wpAnyH_take (i := 13) (v := ?r24_vv13) (by (simp only [List.getElem?_toArray, List.getElem?_cons_succ, List.getElem?_cons_zero]; rfl)) (by kernel_rfl) (by kernel_rfl) (by kernel_rfl) (by exact fun _ _ _ h => h) (Or.inl ⟨by rfl, ?r24_hy13⟩) (by assumption) ?r24_rest13
                    case r24_hy13 => intro w hSw; (try dsimp only at hSw); (go_simp <;> (with_reducible rfl))
                    try simp only [Act.put, List.setIfInBounds_toArray, List.set_cons_zero, List.set_cons_succ]
                    refine wpAnyH_take (i := 14) (v := ?r24_vv14) (by (simp only [List.getElem?_toArray, List.getElem?_cons_succ, List.getElem?_cons_zero]; rfl)) (by kernel_rfl) (by kernel_rfl) (by kernel_rfl) (by exact fun _ _ _ h => h) (Or.inl ⟨by rfl, ?r24_hy14⟩) (by assumption) ?r24_rest14
                    case r24_hy14 => intro w hSw; (try dsimp only at hSw); (go_simp <;> (with_reducible rfl))
                    try simp only [Act.put, List.setIfInBounds_toArray, List.set_cons_zero, List.set_cons_succ]
                    refine wpAnyH_take (i := 15) (v := ?r24_vv15) (by (simp only [List.getElem?_toArray, List.getElem?_cons_succ, List.getElem?_cons_zero]; rfl)) (by kernel_rfl) (by kernel_rfl) (by kernel_rfl) (by exact fun _ _ _ h => h) (Or.inl ⟨by rfl, ?r24_hy15⟩) (by assumption) ?r24_rest15
                    case r24_hy15 => intro w hSw; (try dsimp only at hSw); (go_simp <;> (with_reducible rfl))
                    try simp only [Act.put, List.setIfInBounds_toArray, List.set_cons_zero, List.set_cons_succ]
                    refine wpAnyH_take (i := 16) (v := ?r24_vv16) (by (simp only [List.getElem?_toArray, List.getElem?_cons_succ, List.getElem?_cons_zero]; rfl)) (by kernel_rfl) (by kernel_rfl) (by kernel_rfl) (by exact fun _ _ _ h => h) (Or.inl ⟨by rfl, ?r24_hy16⟩) (by assumption) ?r24_rest16
                    case r24_hy16 => intro w hSw; (try dsimp only at hSw); (go_simp <;> (with_reducible rfl))
                    try simp only [Act.put, List.setIfInBounds_toArray, List.set_cons_zero, List.set_cons_succ]
                    refine wpAnyH_ready (rs := [2]) (by kernel_rfl) (by simp) ?_
                    refine AllReadyH.cons (by (simp only [List.getElem?_toArray, List.getElem?_cons_succ, List.getElem?_cons_zero]; rfl)) (fun K hK => ?_) AllReadyH.nil
                    go_simp
                    (go_at_call 73; with_reducible refine (q1.out _ (ext_trans HBr.out (And.left (b := _) (by assumption)))).mono ?_; rintro e w8 ⟨rfl, hb8⟩)
                    try go_wp2_with fail
                    refine hK.out _ _ ?r24_hS2 (fun hHeld => ?r24_r2)
                    case r24_hS2 => (try dsimp only); first | assumption | exact HS.out _ (kp0 _) | exact HS.out _ (Below.refl _ _) | exact HS.out _ (kp1 (And.left (b := _) (by assumption))) | exact HS.out _ (ext_trans (And.left (b := _) (by assumption)) (by assumption))
                    clear hK K
                    try simp only [Act.put, List.setIfInBounds_toArray, List.set_cons_zero, List.set_cons_succ]
                    refine wpAnyH_ready (rs := [17]) (by kernel_rfl) (by simp) ?_
                    refine AllReadyH.cons (by (simp only [List.getElem?_toArray, List.getElem?_cons_succ, List.getElem?_cons_zero]; rfl)) (fun K hK => ?_) AllReadyH.nil
                    go_simp
                    (go_at_call 72; with_reducible refine (q2.out _).mono ?_; rintro e w9 ⟨rfl, rfl⟩)
                    try go_wp2_with fail
                    refine hK.out _ _ ?r24_hS17 (fun hHeld => ?r24_r17)
                    case r24_hS17 => (try dsimp only); first | assumption | exact HS.out _ (kp0 _) | exact HS.out _ (Below.refl _ _) | exact HS.out _ (kp1 (And.left (b := _) (by assumption))) | exact HS.out _ (ext_trans (And.left (b := _) (by assumption)) (by assumption))
                    clear hK K
                    try simp only [Act.put, List.setIfInBounds_toArray, List.set_cons_zero, List.set_cons_succ]
                    refine wpAnyH_take (i := 18) (v := ?r24_vv18) (by (simp only [List.getElem?_toArray, List.getElem?_cons_succ, List.getElem?_cons_zero]; rfl)) (by kernel_rfl) (by kernel_rfl) (by kernel_rfl) (by exact fun _ _ _ h => h) (Or.inl ⟨by rfl, ?r24_hy18⟩) (by assumption) ?r24_rest18
                    case r24_hy18 => intro w hSw; (try dsimp only at hSw); (go_simp <;> (with_reducible rfl))
                    try simp only [Act.put, List.setIfInBounds_toArray, List.set_cons_zero, List.set_cons_succ]
                    refine wpAnyH_done (by kernel_rfl) ?_ _
                    have HW := Lib.hid (show Below wr.heap.size wr w8 from And.left (b := _) (by assumption))
                    have HK08 := Lib.hid (HK0.out.ext HW.out)
                    have HK18 := Lib.hid (HK1.out.ext HW.out)
                    have HO8 := Lib.hid (HO.out.ext HW.out)
                    have HY8 := Lib.hid (HY.out.ext HW.out)
                    have HW8 := Lib.hid (HWb.out.ext HW.out)
                    have HB8 := Lib.hid (ext_trans HBr.out HW.out)
                    have x0 := HW8.out.cell 0 _ rfl
                    have x1 := HW8.out.cell 1 _ rfl
                    have tA8 := HK18.out.cell _ _ tA
                    go_wp2_with fail
                    go_quiet (fail)
                    go_wp2_with fail
                    go_roundw
                    case rel => exact ⟨ch, j + 1, L, by omega, by go_num, rfl, HN.out, HK08.out, HK18.out, own_at HO8.out rfl, own_at HY8.out rfl, HW8.out, below_at HB8.out rfl rfl rfl rfl⟩
                    case measure => first | (simp [intOf]; done) | (simp [intOf]; omega)
                · obtain rfl : j = ys.length := by omega
                  have hjd : decide ((ys.length : Int) < (ys.length : Int)) = false := by rw [decide_eq_false_iff_not]; omega
                  have HN := Lib.hid (hfin.out ch L HQ.out)
                  have hp81 := hpl.out
                  go_wp2_with fail
                  go_roundw
                  case rel => exact ⟨ch, k + 1, L, by omega, by go_num, rfl, HN.out, HK0.out, HK1.out, HO.out, HBr.out⟩
                  case measure => first | (simp [intOf]; done) | (simp [intOf]; omega)
            · obtain rfl : k = xs.length := by omega
              have hkd : decide ((xs.length : Int) < (xs.length : Int)) = false := by rw [decide_eq_false_iff_not]; omega
              have hfin := HQ.out.fin
              go_wp2_with fail
              obtain ⟨m, rfl⟩ : ∃ m, gk = m + 1 := ⟨gk - 1, by have := hpt1.out; omega⟩
              go_roundg m
              case measure => omega
              case rel => exact ⟨ch, L, rfl, HQ.out.tab, hfin.1, by have := hpt1.out; have := hfin.2; omega, HK0.out, HK1.out, HO.out, HBr.out⟩
end Go.Proofs.Ytipcmakidifelaa
