/-
Cells of a call's own are sorted; the plain law of a mirrored ground. Conditions: none.
-/
import Derived.Test.YtipcmakidifelaaGM1
set_option linter.unusedVariables false
set_option linter.unusedSimpArgs false
set_option maxRecDepth 100000
namespace Go.Proofs.Ytipcmakidifelaa
open Go.RowKit Go.Sort Go.Lib Go.Shelf
instance : Inhabited Cell := ⟨⟨0, 0⟩⟩
theorem holdsV {w : World} {g : Nat} {cur : Array Value} {e : TypeId} {D : Array Value} (hb : w.heap[g]? = some (.cells cur e (0, 0))) (ht : cur.toList.take D.size = D.toList) : Holds id w g 0 D := by
  intro j hj
  refine ⟨?_, by simp [World.frozen?, hb]⟩
  have h1 : (cur.toList.take D.size)[j]? = D.toList[j]? := by rw [ht]
  rw [List.getElem?_take_of_lt hj] at h1
  simp only [World.cell?, hb, Nat.zero_add]
  simp only [Option.isSome_none, Bool.false_eq_true, if_false]
  rw [← Array.getElem?_toList, h1]
  simp [hj]
theorem heapV {w : World} {g n : Nat} {os : Array Obj} {cur : Array Value} {e : TypeId} {fr : Nat × Nat} (D : Array Value) (hb : w.heap[g]? = some (.cells cur e fr)) :
    (grow (putRow id (Sort.ahead w n) g 0 D) os).heap[g]? = some (.cells (Sort.putCells id 0 D cur) e fr) := by
  have hg : g < w.heap.size := (Array.getElem?_eq_some_iff.1 hb).1
  rw [heap_grow_old _ _ (by simpa using hg)]
  simp [putRow, mapBlock, Sort.ahead, Array.getElem?_modify, hb, onCells]
theorem grownV {w : World} {g n : Nat} {os : Array Obj} (D : Array Value) : w.grownBy (grow (putRow id (Sort.ahead w n) g 0 D) os) (some g) := by
  refine ⟨rfl, rfl, rfl, by simp, fun k hk hne => ?_⟩
  rw [heap_grow_old _ _ (by simpa using hk)]
  have : g ≠ k := fun e => hne (by rw [e])
  simp [putRow, mapBlock, Sort.ahead, Array.getElem?_modify, this]
theorem takeV (cur D : Array Value) (h : D.size ≤ cur.size) : (Sort.putCells id 0 D cur).toList.take D.size = D.toList := by
  apply List.ext_getElem?
  intro j
  by_cases hj : j < D.size
  · rw [List.getElem?_take_of_lt hj, Array.getElem?_toList]
    simp [Sort.putCells, hj, show j < cur.size by omega]
  · rw [List.getElem?_take_eq_none (by omega), List.getElem?_eq_none (by simp; omega)]
theorem flatC (xs : List Cell) : (flatK Cell.c 2 xs.toArray).toList = xs.flatMap Cell.c := by
  apply List.ext_getElem?
  intro j
  have hl : (xs.flatMap Cell.c).length = xs.length * 2 := flatMap_length_const Cell.c 2 Cell.c_len xs
  by_cases hj : j < xs.length * 2
  · have hq : j / 2 < xs.length := by omega
    have hr : j % 2 < (Cell.c xs[j / 2]).length := by rw [Cell.c_len]; omega
    have h3 := flatMap_at Cell.c 2 Cell.c_len xs (j / 2) (j % 2) xs[j / 2] (Cell.c xs[j / 2])[j % 2] (List.getElem?_eq_getElem hq) (List.getElem?_eq_getElem hr)
    rw [Nat.div_add_mod'] at h3
    rw [h3, flatK]
    simp [hj, hq, hr]
  · rw [List.getElem?_eq_none (by simp [flatK]; omega), List.getElem?_eq_none (by omega)]
def ltC (a b : Cell) : Bool := ltOf cmpK a b
theorem ltC_bef (a b : Cell) : ltC a b = befB a b := by
  unfold ltC ltOf cmpK cmp8 befB
  rw [decide_eq_decide]
  by_cases h1 : a.y < b.y
  · simp [h1]
  · by_cases h2 : b.y < a.y
    · simp [h1, h2]; omega
    · by_cases h3 : a.x < b.x
      · simp [h1, h2, h3]; omega
      · by_cases h4 : b.x < a.x <;> simp [h1, h2, h3, h4]
theorem bef_true {a b : Cell} : befB a b = true ↔ a.y < b.y ∨ a.y = b.y ∧ a.x < b.x := by unfold befB; rw [decide_eq_true_eq]
theorem bef_false {a b : Cell} : befB a b = false ↔ ¬ (a.y < b.y ∨ a.y = b.y ∧ a.x < b.x) := by unfold befB; rw [decide_eq_false_iff_not]
theorem swoC : SWO (ltOf cmpK) where
  irrefl x := by rw [show ltOf cmpK x x = befB x x from ltC_bef x x, bef_false]; omega
  trans x y z h1 h2 := by
    rw [show ltOf cmpK x y = befB x y from ltC_bef x y, bef_true] at h1
    rw [show ltOf cmpK y z = befB y z from ltC_bef y z, bef_true] at h2
    rw [show ltOf cmpK x z = befB x z from ltC_bef x z, bef_true]
    omega
  ntrans x y z h1 h2 := by
    rw [show ltOf cmpK x y = befB x y from ltC_bef x y, bef_false] at h1
    rw [show ltOf cmpK y z = befB y z from ltC_bef y z, bef_false] at h2
    rw [show ltOf cmpK x z = befB x z from ltC_bef x z, bef_false]
    omega
theorem totC (x y : Cell) (h1 : ltOf cmpK x y = false) (h2 : ltOf cmpK y x = false) : x = y := by
  rw [show ltOf cmpK x y = befB x y from ltC_bef x y, bef_false] at h1
  rw [show ltOf cmpK y x = befB y x from ltC_bef y x, bef_false] at h2
  obtain ⟨a, b⟩ := x
  obtain ⟨c, d⟩ := y
  simp only at h1 h2
  congr 1 <;> omega
theorem cmpLaysC (blk off size : Nat) (w : World) : CmpLays Try.prog 61 #[] Cell.c 2 cmpK blk off size w :=
  fun _ _ _ _ x y => compareCells_calls x y _
def sortC (xs : List Cell) : List Cell := xs.mergeSort fun x y => !(ltOf cmpK) y x
theorem sortCells_calls (xs : List Cell) (v : Value) (B : Nat) (W : World) (hO : Own W B 38 Cell.c 2 v xs) (hn : xs.length ≤ 1000000) :
    Calls Try.prog 60 #[v, .func (.func 61) #[] #[]] W fun e w' => e = .returned (.tuple #[]) ∧ Own w' B 38 Cell.c 2 v (sortC xs) ∧ W.grownBy w' v.ownBlock := by
  rcases hO.out.2 with ⟨rfl, h0⟩ | ⟨g, cap, cur, rfl, hb, hh, hle, hcap, hsz, htk⟩
  · have hx : xs = [] := by
      cases xs with
      | nil => rfl
      | cons x xs => simp at h0
    subst hx
    have hc := AnyF.slices_SortFunc_none { Try.sortCells with } none 0 (.func (.func 61) #[] #[]) W
    refine hc.mono ?_
    rintro e w' ⟨rfl, rfl⟩
    exact ⟨rfl, by simpa [sortC] using hO, World.grownBy.refl _ _⟩
  · have eg := enters_of Try.func61 (by kernel_rfl) rfl
    have hlen : (xs.flatMap Cell.c).length = xs.length * 2 := flatMap_length_const Cell.c 2 Cell.c_len xs
    have hH : HoldsK Cell.c 2 W g 0 xs.toArray := holdsV hh (by rw [flatC, size_flatK]; simpa using htk)
    have hc := AnyQ.slices_SortFunc_total Try.sortCells 2 (fun w => by kernel_rfl) (fun w => by kernel_rfl) Cell.c Cell.c_len (fun x u hu => by simp [Cell.c] at hu; rcases hu with rfl | rfl <;> rfl) cmpK swoC 61 #[] g 0 cap xs.toArray W eg (cmpLaysC _ _ _ _) hH (Array.getElem?_eq_some_iff.1 hh).1 (by simp; omega) totC
    simp only [List.size_toArray] at hc
    refine hc.mono ?_
    rintro e w' ⟨rfl, n, os, rfl⟩
    have hl : (sortC xs).length = xs.length := List.length_mergeSort xs
    have hl2 : ((sortC xs).flatMap Cell.c).length = xs.length * 2 := by rw [flatMap_length_const Cell.c 2 Cell.c_len, hl]
    refine ⟨rfl, ⟨?_⟩, grownV _⟩
    refine ⟨by rw [hl2, hl], .inr ⟨g, cap, _, by rw [hl], hb, heapV _ hh, by rw [hl]; exact hle, hcap, by simp [Sort.putCells, hsz], ?_⟩⟩
    have := takeV cur (flatK Cell.c 2 (sortC xs).toArray) (by rw [size_flatK]; simp only [List.size_toArray, hl, hsz]; exact Nat.mul_le_mul_right 2 hle)
    rw [flatC, size_flatK] at this
    simp only [List.size_toArray] at this
    exact this
/-! ### The mirrored ground -/
def mirC (w : Int) (c : Cell) : Cell := ⟨w - 1 - c.x, c.y⟩
theorem mir_mir (w : Int) (c : Cell) : mirC w (mirC w c) = c := by
  obtain ⟨x, y⟩ := c
  unfold mirC
  congr 1
  simp only
  omega
theorem mir_pt {w h : Int} {c : Cell} (hc : gpB w h c = true) : gpB w h (mirC w c) = true := by
  obtain ⟨h1, h2, h3, h4⟩ := gpB_true.1 hc
  refine gpB_true.2 ?_
  unfold mirC
  simp only
  omega
theorem mir_inj {w : Int} {a b : Cell} (h : mirC w a = mirC w b) : a = b := by rw [← mir_mir w a, h, mir_mir]
theorem strictC : ∀ (xs ys : List Cell), xs.Pairwise (fun a b => befB a b = true) → ys.Pairwise (fun a b => befB a b = true) → (∀ a, a ∈ xs ↔ a ∈ ys) → xs = ys
  | [], [], _, _, _ => rfl
  | [], y :: ys, _, _, h => absurd ((h y).2 (by simp)) (by simp)
  | x :: xs, [], _, _, h => absurd ((h x).1 (by simp)) (by simp)
  | x :: xs, y :: ys, hx, hy, h => by
    rw [List.pairwise_cons] at hx hy
    have e : x = y := by
      rcases List.mem_cons.1 ((h x).1 (by simp)) with e | hm
      · exact e
      · rcases List.mem_cons.1 ((h y).2 (by simp)) with e | hm2
        · exact e.symm
        · have a1 := bef_true.1 (hx.1 y hm2)
          have a2 := bef_true.1 (hy.1 x hm)
          omega
    subst e
    rw [strictC xs ys hx.2 hy.2 fun a => ?_]
    constructor
    · intro ha
      rcases List.mem_cons.1 ((h a).1 (List.mem_cons_of_mem _ ha)) with e | hm
      · subst e
        have := bef_true.1 (hx.1 a ha)
        omega
      · exact hm
    · intro ha
      rcases List.mem_cons.1 ((h a).2 (List.mem_cons_of_mem _ ha)) with e | hm
      · subst e
        have := bef_true.1 (hy.1 a ha)
        omega
      · exact hm
theorem gul_sorted {w h : Int} {hs : List Int} {gl : List Cell} (hk : gOk w h hs gl = true) : gl.Pairwise (fun a b => befB a b = true) := by
  simp only [gOk, Bool.and_eq_true, decide_eq_true_eq, List.all_eq_true, List.mem_range] at hk
  obtain ⟨-, -, hg⟩ := hk
  have hstep : ∀ j (hj : j + 1 < gl.length), befB gl[j] gl[j + 1] = true := by
    intro j hj
    have := hg (j + 1) hj
    unfold gulB at this
    rw [List.getElem?_eq_getElem hj] at this
    simp only [List.getElem?_eq_getElem (show j < gl.length by omega), Bool.and_eq_true] at this
    exact this.2
  have hall : ∀ d j (hj : j + 1 + d < gl.length), befB gl[j] gl[j + 1 + d] = true := by
    intro d
    induction d with
    | zero => intro j hj; exact hstep j hj
    | succ d ih =>
      intro j hj
      have h1 := bef_true.1 (ih j (by omega))
      have h2 := bef_true.1 (hstep (j + 1 + d) (by omega))
      rw [bef_true]
      simp only [show j + 1 + (d + 1) = j + 1 + d + 1 from rfl]
      omega
  rw [List.pairwise_iff_getElem]
  intro i j hi hj hij
  obtain ⟨d, rfl⟩ : ∃ d, j = i + 1 + d := ⟨j - i - 1, by omega⟩
  exact hall d i hj
theorem row_sorted (y w : Nat) : (rowG y w).Pairwise (fun a b => befB a b = true) := by
  unfold rowG
  rw [List.pairwise_map]
  refine List.Pairwise.imp ?_ List.pairwise_lt_range
  intro a b hab
  rw [bef_true]
  refine .inr ⟨rfl, ?_⟩
  show ((a : Nat) : Int) < ((b : Nat) : Int)
  omega
theorem pts_sorted (w y : Nat) : (ptsG w y).Pairwise (fun a b => befB a b = true) := by
  induction y with
  | zero => simp [ptsG]
  | succ y ih =>
    rw [ptsG_succ, List.pairwise_append]
    refine ⟨ih, row_sorted _ _, fun a ha b hb => ?_⟩
    have h1 := (ptsG_mem w y a ha).2.2
    simp only [rowG, List.mem_map, List.mem_range] at hb
    obtain ⟨x, _, rfl⟩ := hb
    rw [bef_true]
    left
    simp only
    omega
theorem sortC_strict (xs : List Cell) (hn : xs.Nodup) : (sortC xs).Pairwise (fun a b => befB a b = true) := by
  have h1 : (sortC xs).Pairwise (fun a b => (!(ltOf cmpK) b a) = true) := List.pairwise_mergeSort (le := fun x y => !(ltOf cmpK) y x) (fun a b c h1 h2 => by
    have h1 : ltOf cmpK b a = false := by simpa using h1
    have h2 : ltOf cmpK c b = false := by simpa using h2
    have := swoC.ntrans c b a h2 h1
    simp [this]) (fun a b => by
    rw [show ltOf cmpK b a = befB b a from ltC_bef b a, show ltOf cmpK a b = befB a b from ltC_bef a b]
    cases hb : befB b a
    · rfl
    · have := bef_true.1 hb
      have : befB a b = false := bef_false.2 (by omega)
      simp [this]) xs
  have h2 : (sortC xs).Nodup := (List.mergeSort_perm xs _).nodup_iff.2 hn
  refine (h1.and h2).imp ?_
  rintro a b ⟨hab, hne⟩
  have hab : ltOf cmpK b a = false := by simpa using hab
  cases hc : befB a b
  · exact absurd (totC a b ((ltC_bef a b).trans hc) hab) hne
  · rfl
/-- The gullies of the mirrored ground. -/
def mirL (w h : Int) (gl : List Cell) : List Cell := (ptsG w.toNat h.toNat).filter fun p => decide (mirC w p ∈ gl)
theorem mirL_sort {w h : Int} {hs : List Int} {gl : List Cell} (hk : gOk w h hs gl = true) : sortC (gl.map (mirC w)) = mirL w h gl := by
  have ok := gOk_ok hk
  have hs := gul_sorted hk
  have e1 : ((w.toNat : Nat) : Int) = w := by have := ok.w0; omega
  have e2 : ((h.toNat : Nat) : Int) = h := by have := ok.h0; omega
  have hnd : gl.Nodup := hs.imp (fun {a b} hab e => by subst e; have := bef_true.1 hab; omega)
  have hnd2 : (gl.map (mirC w)).Nodup := by
    rw [List.nodup_iff_pairwise_ne, List.pairwise_map]
    exact (List.nodup_iff_pairwise_ne.1 hnd).imp (fun hne e => hne (mir_inj e))
  refine strictC _ _ (sortC_strict _ hnd2) ((pts_sorted _ _).filter _) fun a => ?_
  unfold sortC mirL
  rw [List.mem_mergeSort, List.mem_map, List.mem_filter, decide_eq_true_eq]
  constructor
  · rintro ⟨g, hg, rfl⟩
    exact ⟨mem_ptsG _ _ _ (by rw [e1, e2]; exact mir_pt (ok.gl g hg)), by rw [mir_mir]; exact hg⟩
  · rintro ⟨-, ha⟩
    exact ⟨_, ha, mir_mir w a⟩
theorem mirL_len {w h : Int} {hs : List Int} {gl : List Cell} (hk : gOk w h hs gl = true) : (mirL w h gl).length = gl.length := by
  rw [← mirL_sort hk]
  unfold sortC
  rw [List.length_mergeSort, List.length_map]
/-- Heights of the mirrored ground. -/
def mirH (w h : Int) (hs : List Int) : List Int := levA w h (fun c => htL hs (mirC w c))
theorem fill_step {w h : Int} {L : List Int} {xs : List Cell} {f : Cell → Int} (h1 : w ≤ 9) (h2 : h ≤ 9) (hl : L.length = 81) (hz : ∀ i, i < 81 → gpB w h (cellOf i) = false → L.getD i 0 = 0) (hpt : ∀ c ∈ xs, gpB w h c = true) (k : Nat) (hk : k < xs.length) (hi : ∀ j (hj : j < xs.length), j < k → htL L xs[j] = f xs[j]) :
    (L.set (idxC xs[k]) (f xs[k])).length = 81 ∧ (∀ i, i < 81 → gpB w h (cellOf i) = false → (L.set (idxC xs[k]) (f xs[k])).getD i 0 = 0) ∧ ∀ j (hj : j < xs.length), j < k + 1 → htL (L.set (idxC xs[k]) (f xs[k])) xs[j] = f xs[j] := by
  have hp := hpt xs[k] (List.getElem_mem hk)
  refine ⟨by rw [List.length_set]; exact hl, zero_set h1 h2 hp _ hz, fun j hj hjk => ?_⟩
  by_cases e : xs[j] = xs[k]
  · rw [e, htL_set_same hl h1 h2 hp]
  · rw [htL_set_oth h1 h2 hp (hpt xs[j] (List.getElem_mem hj)) e]
    have : j ≠ k := fun e2 => e (by subst e2; rfl)
    exact hi j hj (by omega)
theorem fill_end {w h : Int} {L : List Int} {f : Cell → Int} (hl : L.length = 81) (hz : ∀ i, i < 81 → gpB w h (cellOf i) = false → L.getD i 0 = 0) (hin : ∀ c, gpB w h c = true → htL L c = f c) : L = levA w h f := by
  rw [levA_of L hl hz]
  exact levA_same hin
def mirG (w h : Int) (hs : List Int) (gl : List Cell) : GdR := if gOk w h hs gl = true then ⟨⟨w, h, mirH w h hs, mirL w h gl⟩, 0, 0⟩ else ⟨⟨0, 0, z81, []⟩, 0, 1⟩
theorem mirG_hs {w h : Int} {hs : List Int} {gl : List Cell} : (mirG w h hs gl).gd.hs.length = 81 := by
  unfold mirG
  split
  · show (levA w h (fun c => htL hs (mirC w c))).length = 81
    exact levA_len _ _ _
  · exact z81_len
theorem mirG_gl {w h : Int} {hs : List Int} {gl : List Cell} : (mirG w h hs gl).gd.gl.length ≤ 8 := by
  unfold mirG
  split
  · rename_i hk
    have := (gOk_ok hk).len
    simp only [mirL_len hk]
    exact this
  · simp
def RetG1 (W : World) (r : GdR) (e : Ending) (w' : World) : Prop := ∃ v, e = .returned (.tuple #[.agg (gdA r.gd.w r.gd.h r.gd.hs v), .int .i64 r.code]) ∧ Own w' W.heap.size 38 Cell.c 2 v r.gd.gl ∧ Below W.heap.size W w'
end Go.Proofs.Ytipcmakidifelaa
