/-
Words that the seat's texts share: slices that read as lists, rows of the call's own, the kinds of structs of the program. Nothing is proved here of the program itself.
-/
import Derived.Test.YteflpdfajfljfaaRows
import Derived.ProofKit
import Derived.WalkKit
import Derived.Below
import Derived.Deep.Draws
import Derived.Deep.QuietTactic
import Derived.BigQuiet
import Derived.Lib.Hide
import Derived.Outline
import Derived.WalkLawsBesides
import Derived.WalkSpells
import Derived.LoopTactic
import Derived.Deep.LoopGhost
import Derived.Deep.DeepCutAuto
import Derived.Deep.CutBlock
import Derived.Deep.RegionHeld3
import Derived.Deep.AppendLies
import Derived.Laws.OwnMore
import Derived.Laws.MakeOwn
import Derived.Laws.Rows
import Derived.Shelf.Abstract
import Derived.Deep.DeepFit
import Derived.StillTailTactics
import Derived.RegionTactic
import Derived.BigRegion
set_option linter.unusedVariables false
set_option linter.unusedSimpArgs false
set_option maxRecDepth 100000
namespace Go.Proofs.Yteflpdfajfljfaa
open Go.RowKit

/-- lo ≤ n ≤ hi, closed to the walk. -/
def inB (n lo hi : Int) : Bool := decide (lo ≤ n ∧ n ≤ hi)
theorem inB_true {n lo hi : Int} : inB n lo hi = true ↔ lo ≤ n ∧ n ≤ hi := by simp [inB]
theorem inB_false {n lo hi : Int} : inB n lo hi = false ↔ ¬ (lo ≤ n ∧ n ≤ hi) := by simp [inB]

/-- What was there stands as it stood. -/
theorem bcell {W w1 : World} (hb : Below W.heap.size W w1) : (∀ b o, b < W.heap.size → w1.cell? ⟨b, o, none⟩ = W.cell? ⟨b, o, none⟩) ∧ (∀ b o, b < W.heap.size → w1.frozen? ⟨b, o, none⟩ = W.frozen? ⟨b, o, none⟩) :=
  ⟨fun b o h => hb.cell (p := ⟨b, o, none⟩) h, fun b o h => hb.frozen (p := ⟨b, o, none⟩) h⟩
theorem ext_trans {w w1 w2 : World} (h : Below w.heap.size w w1) (k : Below w1.heap.size w1 w2) : Below w.heap.size w w2 := h.trans (k.mono h.size)
theorem ext_alloc {w w1 : World} (h : Below w.heap.size w w1) (o : Obj) : Below w.heap.size w (w1.alloc o) := h.alloc h.size o
theorem ext_drewN {B : Nat} {w w1 : World} (h : Below B w w1) (n : Nat) : Below B w (w1.drewN n) := ⟨h.os, h.tape, h.output, h.size, h.block⟩
theorem ext_of_alloc {w w1 : World} {o : Obj} (h : Below (w.alloc o).heap.size (w.alloc o) w1) : Below w.heap.size w w1 := ext_trans ((Below.refl _ _).alloc (Nat.le_refl _) o) h
theorem ext_of_alloc2 {w w1 : World} {o o2 : Obj} (h : Below ((w.alloc o).alloc o2).heap.size ((w.alloc o).alloc o2) w1) : Below w.heap.size w w1 := ext_of_alloc (ext_of_alloc h)

theorem ret_int {k : IntKind} {a b : Int} (h : a = b) : Ending.returned (.int k a) = .returned (.int k b) := by rw [h]
theorem ret_bool {a b : Bool} (h : a = b) : Ending.returned (.bool a) = .returned (.bool b) := by rw [h]
theorem ret_int2 {k l : IntKind} {a b c d : Int} (h : a = b) (h2 : c = d) : Ending.returned (.tuple #[.int k a, .int l c]) = .returned (.tuple #[.int k b, .int l d]) := by rw [h, h2]
theorem ret_int3 {k l m : IntKind} {a b c d e f : Int} (h : a = b) (h2 : c = d) (h3 : e = f) : Ending.returned (.tuple #[.int k a, .int l c, .int m e]) = .returned (.tuple #[.int k b, .int l d, .int m f]) := by rw [h, h2, h3]
theorem ret_bool_int {l : IntKind} {a b : Bool} {c d : Int} (h : a = b) (h2 : c = d) : Ending.returned (.tuple #[.bool a, .int l c]) = .returned (.tuple #[.bool b, .int l d]) := by rw [h, h2]

theorem wr64 {n : Int} (h0 : -9223372036854775808 ≤ n) (h1 : n ≤ 9223372036854775807) : wrap64 n = n := by unfold wrap64; omega

def i64c (x : Int) : List Value := [.int .i64 x]
def i64v (x : Int) : Value := .int .i64 x
def i16c (x : Int) : List Value := [.int .i16 x]
def i16v (x : Int) : Value := .int .i16 x
theorem i64c_len (x : Int) : (i64c x).length = 1 := rfl
theorem i16c_len (x : Int) : (i16c x).length = 1 := rfl

/-! ### Slices that are read -/

/-- A slice value that reads as a list; each element is 'sz' cells, told by 'c'; it lies below block B. -/
structure Sl {α : Type} (w : World) (B : Nat) (c : α → List Value) (sz : Nat) (v : Value) (xs : List α) : Prop where
  out : ∃ A cap, v = .slice A xs.length cap ∧ xs.length ≤ cap ∧ cap ≤ 9223372036854775807 ∧
    (0 < xs.length → ∃ b o, A = some ⟨b, o, none⟩ ∧ b < B ∧ ∀ i x, xs[i]? = some x → ∀ j u, (c x)[j]? = some u → w.cell? ⟨b, o + (i * sz + j), none⟩ = some u)

section
variable {α : Type} {w w' : World} {B B' sz : Nat} {c : α → List Value} {v : Value} {xs : List α}
theorem Sl.keep (h : Sl w B c sz v xs) (hb : Below B w w') : Sl w' B c sz v xs := by
  obtain ⟨A, cap, hv, hl, hm, hc⟩ := h.out
  refine ⟨A, cap, hv, hl, hm, fun hp => ?_⟩
  obtain ⟨b, o, hA, hb1, hc⟩ := hc hp
  exact ⟨b, o, hA, hb1, fun i x hx j u hu => (hb.cell (p := ⟨b, _, none⟩) hb1).trans (hc i x hx j u hu)⟩
theorem Sl.more (h : Sl w B c sz v xs) (hB : B ≤ B') : Sl w B' c sz v xs := by
  obtain ⟨A, cap, hv, hl, hm, hc⟩ := h.out
  refine ⟨A, cap, hv, hl, hm, fun hp => ?_⟩
  obtain ⟨b, o, hA, hb1, hc⟩ := hc hp
  exact ⟨b, o, hA, Nat.lt_of_lt_of_le hb1 hB, hc⟩
theorem Sl.ext (h : Sl w w.heap.size c sz v xs) (hb : Below w.heap.size w w') : Sl w' w'.heap.size c sz v xs := (h.keep hb).more hb.size
theorem Sl.alloc (h : Sl w w.heap.size c sz v xs) (o : Obj) : Sl (w.alloc o) (w.alloc o).heap.size c sz v xs := h.ext ((Below.refl _ _).alloc (Nat.le_refl _) o)
theorem Sl.nil_ (w : World) (B : Nat) (c : α → List Value) (sz : Nat) : Sl w B c sz (.slice none 0 0) [] := ⟨none, 0, rfl, Nat.le_refl _, by omega, fun h => absurd h (by simp)⟩
theorem Sl.len (h : Sl w B c sz v xs) : xs.length ≤ 9223372036854775807 := by
  obtain ⟨A, cap, hv, hl, hm, _⟩ := h.out
  omega
end

/-! ### Rows of the call's own -/
theorem flatMap_length_const {α : Type} (c : α → List Value) (sz : Nat) (hc : ∀ x, (c x).length = sz) (xs : List α) : (xs.flatMap c).length = xs.length * sz := by
  induction xs with
  | nil => simp
  | cons a r ih => simp [ih, hc, Nat.add_mul, Nat.add_comm]
theorem flatMap_at {α : Type} (c : α → List Value) (sz : Nat) (hc : ∀ x, (c x).length = sz) (xs : List α) (i j : Nat) (x : α) (u : Value) (hx : xs[i]? = some x) (hu : (c x)[j]? = some u) : (xs.flatMap c)[i * sz + j]? = some u := by
  induction xs generalizing i with
  | nil => simp at hx
  | cons a r ih =>
    rw [List.flatMap_cons]
    have hj : j < sz := by
      have := (List.getElem?_eq_some_iff.1 hu).1
      rw [hc] at this; exact this
    cases i with
    | zero =>
      simp only [List.getElem?_cons_zero, Option.some.injEq] at hx
      subst hx
      rw [Nat.zero_mul, Nat.zero_add, List.getElem?_append_left (by rw [hc]; exact hj)]
      exact hu
    | succ i =>
      rw [List.getElem?_append_right (by rw [hc, Nat.add_mul]; omega), hc]
      have e : (i + 1) * sz + j - sz = i * sz + j := by rw [Nat.add_mul]; omega
      rw [e]
      exact ih i (by simpa using hx)

/-- A slice value whose row is the call's own, from block B on. -/
structure Own {α : Type} (w : World) (B E : Nat) (c : α → List Value) (sz : Nat) (v : Value) (xs : List α) : Prop where
  out : w.ownsRow B E sz v xs.length (xs.flatMap c)

section
variable {α : Type} {w w' : World} {B B' E sz : Nat} {c : α → List Value} {v : Value} {xs : List α}
theorem Own.nil_ (w : World) (B E : Nat) (c : α → List Value) (sz : Nat) : Own w B E c sz (.slice none 0 0) [] := ⟨by simp, .inl ⟨rfl, rfl⟩⟩
theorem Own.lt (h : Own w B E c sz v xs) (k : Nat) (hk : v.ownBlock = some k) : k < w.heap.size := by
  rcases h.out.2 with ⟨rfl, _⟩ | ⟨g, cap, cur, rfl, hb, hh, _⟩
  · simp [Value.ownBlock] at hk
  · have : g = k := by simpa [Value.ownBlock] using hk
    subst this
    exact (Array.getElem?_eq_some_iff.1 hh).1
theorem Own.base (h : Own w B E c sz v xs) (k : Nat) (hk : v.ownBlock = some k) : B ≤ k := by
  rcases h.out.2 with ⟨rfl, _⟩ | ⟨g, cap, cur, rfl, hb, hh, _⟩
  · simp [Value.ownBlock] at hk
  · have : g = k := by simpa [Value.ownBlock] using hk
    omega
theorem Own.more (h : Own w B E c sz v xs) (hB : B' ≤ B) : Own w B' E c sz v xs := by
  refine ⟨h.out.1, ?_⟩
  rcases h.out.2 with h0 | ⟨g, cap, cur, hv, hb, r⟩
  · exact .inl h0
  · exact .inr ⟨g, cap, cur, hv, by omega, r⟩
theorem Own.keep (h : Own w B E c sz v xs) (hb : ∀ k, v.ownBlock = some k → w'.heap[k]? = w.heap[k]?) : Own w' B E c sz v xs := by
  refine ⟨h.out.1, ?_⟩
  rcases h.out.2 with h0 | ⟨g, cap, cur, rfl, hg, hh, r⟩
  · exact .inl h0
  · exact .inr ⟨g, cap, cur, rfl, hg, (hb g rfl).trans hh, r⟩
theorem Own.ext (h : Own w B E c sz v xs) (hb : Below w.heap.size w w') : Own w' B E c sz v xs := h.keep fun k hk => hb.block k (h.lt k hk)
theorem Own.alloc (h : Own w B E c sz v xs) (o : Obj) : Own (w.alloc o) B E c sz v xs := h.ext ((Below.refl _ _).alloc (Nat.le_refl _) o)
theorem Own.sl (hc : ∀ x, (c x).length = sz) (h : Own w B E c sz v xs) : Sl w w.heap.size c sz v xs := by
  rcases h.out.2 with ⟨rfl, h0⟩ | ⟨g, cap, cur, rfl, hg, hh, hn, hm, hs, ht⟩
  · have : xs = [] := List.eq_nil_of_length_eq_zero h0
    subst this
    exact Sl.nil_ _ _ _ _
  · refine ⟨_, cap, rfl, hn, by simpa [maxLen] using hm, fun _ => ⟨g, 0, rfl, (Array.getElem?_eq_some_iff.1 hh).1, fun i x hx j u hu => ?_⟩⟩
    have h1 := flatMap_at c sz hc xs i j x u hx hu
    rw [← ht, List.getElem?_take] at h1
    have h2 : i * sz + j < xs.length * sz := by
      have hi := (List.getElem?_eq_some_iff.1 hx).1
      have hj := (List.getElem?_eq_some_iff.1 hu).1
      rw [hc] at hj
      calc i * sz + j < i * sz + sz := by omega
        _ = (i + 1) * sz := by rw [Nat.add_mul]; omega
        _ ≤ xs.length * sz := Nat.mul_le_mul_right _ hi
    rw [if_pos h2] at h1
    simp only [World.cell?, hh]
    simpa using h1
end


/-! ### A row of the call's own, made and written -/
def writeAt (L : List Value) (j : Nat) : List Value → List Value
  | [] => L
  | u :: r => writeAt (L.set j u) (j + 1) r
theorem writeAt_mid (l m : List Value) (h : l.length = m.length) : ∀ (p s : List Value), writeAt (p ++ l ++ s) p.length m = p ++ m ++ s := by
  induction m generalizing l with
  | nil =>
    intro p s
    have : l = [] := List.eq_nil_of_length_eq_zero h
    subst this
    rfl
  | cons u r ih =>
    intro p s
    match l, h with
    | a :: l', h =>
      unfold writeAt
      have e : (p ++ (a :: l') ++ s).set p.length u = (p ++ [u]) ++ l' ++ s := by
        rw [List.append_assoc, List.set_append_right _ _ (Nat.le_refl _), Nat.sub_self]
        simp
      rw [e, show p.length + 1 = (p ++ [u]).length by simp, ih l' (by simpa using h) (p ++ [u]) s]
      simp
theorem flatMap_set {α : Type} (c : α → List Value) (sz : Nat) (hc : ∀ x, (c x).length = sz) (xs : List α) (k : Nat) (hk : k < xs.length) (x : α) : (xs.set k x).flatMap c = writeAt (xs.flatMap c) (k * sz) (c x) := by
  have e : xs = xs.take k ++ xs[k] :: xs.drop (k + 1) := by rw [List.getElem_cons_drop, List.take_append_drop]
  have hl : (xs.take k).length = k := by rw [List.length_take]; omega
  have e1 : xs.flatMap c = (xs.take k).flatMap c ++ c xs[k] ++ (xs.drop (k + 1)).flatMap c := by
    have e0 := congrArg (List.flatMap c) e
    rw [List.flatMap_append, List.flatMap_cons] at e0
    rw [e0, List.append_assoc]
  have e2 : (xs.set k x).flatMap c = (xs.take k).flatMap c ++ c x ++ (xs.drop (k + 1)).flatMap c := by
    rw [List.set_eq_take_append_cons_drop, if_pos hk]
    simp
  rw [e1, e2]
  have hp : k * sz = ((xs.take k).flatMap c).length := by rw [flatMap_length_const c sz hc, hl]
  rw [hp, writeAt_mid _ _ (by rw [hc, hc])]
def putCells (w : World) (g j : Nat) : List Value → World
  | [] => w
  | u :: r => putCells (w.setCell ⟨g, j, none⟩ u) g (j + 1) r
theorem putCells_own {base e size g n cap : Nat} (us : List Value) : ∀ (w : World) (j : Nat) (xs : List Value), w.ownsRow base e size (.slice (some ⟨g, 0, none⟩) n cap) n xs →
    (putCells w g j us).ownsRow base e size (.slice (some ⟨g, 0, none⟩) n cap) n (writeAt xs j us) ∧ w.grownBy (putCells w g j us) (some g) := by
  induction us with
  | nil => exact fun w j xs h => ⟨h, World.grownBy.refl _ _⟩
  | cons u r ih =>
    intro w j xs h
    obtain ⟨h1, g1⟩ := h.stored j u
    obtain ⟨h2, g2⟩ := ih _ (j + 1) _ h1
    exact ⟨h2, g1.trans g2⟩
section
variable {α : Type} {w w' : World} {B B' E sz g n cap : Nat} {c : α → List Value} {v : Value} {xs : List α}
theorem Own.put (hc : ∀ x, (c x).length = sz) (h : Own w B E c sz (.slice (some ⟨g, 0, none⟩) n cap) xs) (k : Nat) (hk : k < xs.length) (x : α) :
    Own (putCells w g (k * sz) (c x)) B E c sz (.slice (some ⟨g, 0, none⟩) n cap) (xs.set k x) ∧ w.grownBy (putCells w g (k * sz) (c x)) (some g) := by
  have hn : n = xs.length := by
    rcases h.out.2 with ⟨h0, _⟩ | ⟨g', cap', cur, hv, _⟩
    · cases h0
    · injection hv
  subst hn
  obtain ⟨h1, h2⟩ := putCells_own (c x) w (k * sz) _ h.out
  refine ⟨⟨?_⟩, h2⟩
  rw [flatMap_set c sz hc xs k hk x, List.length_set]
  exact h1
theorem Own.room (hc : ∀ x, (c x).length = sz) (h : Own w B E c sz v xs) (hp : 0 < xs.length) : ∃ g cap, v = .slice (some ⟨g, 0, none⟩) xs.length cap ∧ B ≤ g ∧ g < w.heap.size ∧ xs.length ≤ cap ∧ cap ≤ 9223372036854775807 ∧
    (∀ i x, xs[i]? = some x → ∀ j u, (c x)[j]? = some u → w.cell? ⟨g, i * sz + j, none⟩ = some u) ∧ ∀ j, w.frozen? ⟨g, j, none⟩ = false := by
  obtain ⟨A, cap, rfl, hl, hm, hcell⟩ := (h.sl hc).out
  rcases h.out.2 with ⟨_, h0⟩ | ⟨g, cap', cur, hv, hg, hh, hn, hm2, hs, ht⟩
  · omega
  · injection hv with hv1 hv2 hv3
    subst hv1; subst hv3
    obtain ⟨b, o, hA, hb, hce⟩ := hcell hp
    injection hA with hA
    injection hA with hA1 hA2
    subst hA1; subst hA2
    refine ⟨g, cap, rfl, hg, hb, hl, hm, fun i x hx j u hu => ?_, fun j => ?_⟩
    · have := hce i x hx j u hu
      rwa [Nat.zero_add] at this
    · simp [World.frozen?, hh]
theorem Own.at_ (hc : ∀ x, (c x).length = sz) (h : Own w B E c sz (.slice (some ⟨g, 0, none⟩) n cap) xs) (hp : 0 < xs.length) : B ≤ g ∧ g < w.heap.size ∧
    (∀ i x, xs[i]? = some x → ∀ j u, (c x)[j]? = some u → w.cell? ⟨g, i * sz + j, none⟩ = some u) ∧ ∀ j, w.frozen? ⟨g, j, none⟩ = false := by
  obtain ⟨g', cap', hv, h1, h2, _, _, h3, h4⟩ := h.room hc hp
  have hg : g' = g := by
    injection hv with e
    injection e with e
    injection e with e
    exact e.symm
  subst hg
  exact ⟨h1, h2, h3, h4⟩
theorem Own.made (hc : ∀ x, (c x).length = sz) (hsz : 0 < sz) (W : World) (hB : B ≤ W.heap.size) (x0 : α) (m : Nat) (hm : m ≤ 9223372036854775807) :
    Own (W.alloc (.cells (madeCells (c x0).toArray (m * sz)) E)) B E c sz (.slice (some ⟨W.heap.size, 0, none⟩) m m) (List.replicate m x0) := by
  refine ⟨?_⟩
  have h := World.ownsRow_lit (base := B) (e := E) (size := sz) W (madeCells (c x0).toArray (m * sz)) m hB (by simpa [maxLen] using hm) (size_madeCells _ _)
  have hl : (madeCells (c x0).toArray (m * sz)).toList = (List.replicate m x0).flatMap c := by
    apply List.ext_getElem
    · rw [flatMap_length_const c sz hc]; simp [size_madeCells]
    · intro i h1 h2
      have hi : i < m * sz := by simpa [size_madeCells] using h1
      have hr : i % sz < sz := Nat.mod_lt _ hsz
      have hq : i / sz < m := by rw [Nat.div_lt_iff_lt_mul hsz]; exact hi
      have hcr : i % sz < (c x0).length := by rw [hc]; exact hr
      have h3 := flatMap_at c sz hc (List.replicate m x0) (i / sz) (i % sz) x0 (c x0)[i % sz] (by simp [hq]) (by rw [List.getElem?_eq_getElem hcr])
      rw [Nat.div_add_mod'] at h3
      have h4 : ((List.replicate m x0).flatMap c)[i] = (c x0)[i % sz] := by
        rw [List.getElem?_eq_getElem h2] at h3
        exact Option.some.inj h3
      rw [h4]
      simp only [madeCells, Array.getElem_toList, Array.getElem_map, Array.getElem_range, List.size_toArray, hc]
      simp [hcr]
  rw [List.length_replicate, ← hl]
  exact h
end
theorem run_makeOf {P : Program} (t e : TypeId) (z : Value) (sz bytes : Nat) (ht : P.underlying t = some (.slice e)) (hinfo : (P.info? e).map (fun i => (i.zero, i.size, i.bytes)) = some (some z, sz, bytes)) (m : Nat) (hb : bytes * m ≤ 281474976710656) (hm : m ≤ 9223372036854775807) (W : World) :
    (Instr.makeSlice t (.int .i64 (m : Int)) (.int .i64 (m : Int))).run P W = .ok (.slice (some ⟨W.heap.size, 0, none⟩) m m) (W.alloc (.cells (madeCells z.cells (m * sz)) e)) := by
  obtain ⟨i, hi, hzz⟩ := Option.map_eq_some_iff.1 hinfo
  simp only [Prod.mk.injEq] at hzz
  obtain ⟨hz0, hz1, hz2⟩ := hzz
  subst hz1; subst hz2
  have := run_make (P := P) W t e i z ht hi hz0 .i64 .i64 (m : Int) (m : Int) (by omega) (by omega) (by omega) (by omega)
  simpa using this


/-! ### A block known whole -/
/-- Block g is just the cells cs, of element type T, none of them frozen. -/
def Bk (w : World) (g : Nat) (T : TypeId) (cs : Array Value) : Prop := w.heap[g]? = some (.cells cs T (0, 0))
section
variable {w w' : World} {g g' j : Nat} {T T' : TypeId} {cs cs' : Array Value} {u : Value}
theorem Bk.lt (h : Bk w g T cs) : g < w.heap.size := (Array.getElem?_eq_some_iff.1 h).1
theorem Bk.cell (h : Bk w g T cs) (j : Nat) (u : Value) (hj : cs[j]? = some u) : w.cell? ⟨g, j, none⟩ = some u := by
  have h' : w.heap[g]? = some (.cells cs T (0, 0)) := h
  simp only [World.cell?, h']
  simpa using hj
theorem Bk.frz (h : Bk w g T cs) (j : Nat) : w.frozen? ⟨g, j, none⟩ = false := by
  have h' : w.heap[g]? = some (.cells cs T (0, 0)) := h
  simp [World.frozen?, h']
theorem Bk.ext (h : Bk w g T cs) (hb : Below w.heap.size w w') : Bk w' g T cs := (hb.block g h.lt).trans h
theorem Bk.keep {B : Nat} (h : Bk w g T cs) (hg : g < B) (hb : Below B w w') : Bk w' g T cs := (hb.block g hg).trans h
theorem Bk.alloc (h : Bk w g T cs) (o : Obj) : Bk (w.alloc o) g T cs := h.ext ((Below.refl _ _).alloc (Nat.le_refl _) o)
theorem Bk.new (w : World) (T : TypeId) (cs : Array Value) (g : Nat) (hg : g = w.heap.size) : Bk (w.alloc (.cells cs T)) g T cs := by
  subst hg
  show (w.heap.push _)[w.heap.size]? = _
  simp
theorem Bk.set (h : Bk w g T cs) (j : Nat) (u : Value) : Bk (w.setCell ⟨g, j, none⟩ u) g T (cs.setIfInBounds j u) := by
  have h' : w.heap[g]? = some (.cells cs T (0, 0)) := h
  unfold Bk World.setCell
  simp [Array.getElem?_modify, h']
theorem Bk.oth (h : Bk w g T cs) (j : Nat) (u : Value) (hne : g ≠ g') : Bk (w.setCell ⟨g', j, none⟩ u) g T cs := by
  unfold Bk
  rw [Below.heap_setCell _ _ _ _ hne]
  exact h
theorem Bk.drw (h : Bk w g T cs) : Bk w.drew g T cs := h
theorem Bk.drwN (h : Bk w g T cs) (n : Nat) : Bk (w.drewN n) g T cs := h
end

theorem quiet_same {P : Program} {f : FuncId} {args : Array Value} {w : World} {n : Nat} {v : Value}
    (h : Calls P f args (w.drewN n) fun e w' => e = .returned v ∧ w.drewN n = w') : Calls P f args (w.drewN n) fun e w'' => e = .returned v ∧ ∃ m, w'' = w.drewN m :=
  h.mono fun _ _ ⟨he, hm⟩ => ⟨he, n, hm.symm⟩
/-- A whole array of three int64s, cut to a slice. -/
theorem Bk.sl3 {w : World} {g : Nat} {T : TypeId} {a b c : Int} (h : Bk w g T #[.int .i64 a, .int .i64 b, .int .i64 c]) : Sl w w.heap.size i64c 1 (.slice (some ⟨g, 0, none⟩) 3 3) [a, b, c] := by
  have h0 := h.cell 0 _ rfl
  have h1 := h.cell 1 _ rfl
  have h2 := h.cell 2 _ rfl
  refine ⟨_, 3, rfl, Nat.le_refl _, by simp, fun _ => ⟨g, 0, rfl, h.lt, ?_⟩⟩
  intro i x hx j u hu
  match i, hx with
  | 0, hx =>
    match j, hu with
    | 0, hu => simp_all [i64c]
  | 1, hx =>
    match j, hu with
    | 0, hu => simp_all [i64c]
  | 2, hx =>
    match j, hu with
    | 0, hu => simp_all [i64c]
  | n + 3, hx => simp at hx

/-! ### Function values -/
/-- The function with number g, called with an x (and what it has captured), answers 'p x', in every world in which all that lay in w lies as it lay; it may lay blocks. -/
def Tells {α : Type} (P : Program) (g : FuncId) (lb : Array Value) (enc : α → Value) (p : α → Bool) (w : World) (x : α) : Prop :=
  ∀ W, Below w.heap.size w W → Calls P g (#[enc x] ++ lb) W fun e W' => e = .returned (.bool (p x)) ∧ Below W.heap.size W W'
/-- The first place of which p holds, as Go tells it. -/
def findI {α : Type} (p : α → Bool) (xs : List α) : Int := match xs.findIdx? p with | some i => (i : Int) | none => -1
theorem findI_ge {α : Type} (p : α → Bool) (xs : List α) : decide (0 ≤ findI p xs) = xs.any p := by
  unfold findI
  cases h : xs.findIdx? p with
  | none =>
    have : xs.any p = false := by
      rw [List.findIdx?_eq_none_iff] at h
      simpa using h
    rw [this]; rfl
  | some i =>
    have : xs.any p = true := by
      obtain ⟨hi, hp, _⟩ := List.findIdx?_eq_some_iff_getElem.1 h
      simp only [List.any_eq_true]
      exact ⟨xs[i], List.getElem_mem hi, hp⟩
    rw [this]; simp
theorem findI_none {α : Type} (p : α → Bool) (xs : List α) (h : xs.all (fun x => !p x) = true) : findI p xs = -1 := by
  unfold findI
  have : xs.findIdx? p = none := by
    rw [List.findIdx?_eq_none_iff]
    simpa using h
  rw [this]
theorem findI_at {α : Type} (p : α → Bool) (xs : List α) (k : Nat) (hk : k < xs.length) (h : (xs.take k).all (fun x => !p x) = true) (hp : p xs[k] = true) : findI p xs = k := by
  unfold findI
  have : xs.findIdx? p = some k := by
    rw [List.findIdx?_eq_some_iff_getElem]
    refine ⟨hk, hp, fun j hj => ?_⟩
    have := List.all_eq_true.1 h xs[j] (by rw [List.mem_take_iff_getElem]; exact ⟨j, by omega, rfl⟩)
    simpa using this
  rw [this]
theorem take_all_succ {α : Type} (p : α → Bool) (xs : List α) (k : Nat) (hk : k < xs.length) (h : (xs.take k).all p = true) (hp : p xs[k] = true) : (xs.take (k + 1)).all p = true := by
  rw [List.take_succ_eq_append_getElem hk, List.all_append, h]
  simp [hp]
theorem all_of_take {α : Type} (p : α → Bool) (xs : List α) (k : Nat) (hk : k = xs.length) (h : (xs.take k).all p = true) : xs.all p = true := by
  subst hk
  simpa using h
theorem all_false_at {α : Type} (p : α → Bool) (xs : List α) (k : Nat) (hk : k < xs.length) (hp : p xs[k] = false) : xs.all p = false := by
  rw [List.all_eq_false]
  exact ⟨xs[k], List.getElem_mem hk, by simp [hp]⟩

/-! ### The program's kinds of elements -/

structure Cell where
  x : Int
  y : Int
  deriving DecidableEq
structure Slab where
  x : Int
  y : Int
  w : Int
  h : Int
  deriving DecidableEq
structure Row where
  n : Int
  w : Int
  deriving DecidableEq
structure Gang where
  s : Int
  p : Int
  k : Int
  r : Int
  g : Int
  deriving DecidableEq
structure Mix where
  x : Int
  y : Int
  z : Int
  deriving DecidableEq
structure Pair where
  a : Int
  b : Int
  deriving DecidableEq
def Cell.c (q : Cell) : List Value := [.int .i8 q.x, .int .i8 q.y]
def Cell.v (q : Cell) : Value := .agg #[.int .i8 q.x, .int .i8 q.y]
theorem Cell.c_len (q : Cell) : q.c.length = 2 := rfl
structure Cell.ok (q : Cell) : Prop where
  x0 : -128 ≤ q.x
  x1 : q.x ≤ 127
  y0 : -128 ≤ q.y
  y1 : q.y ≤ 127
def Slab.c (q : Slab) : List Value := [.int .i8 q.x, .int .i8 q.y, .int .i8 q.w, .int .i8 q.h]
def Slab.v (q : Slab) : Value := .agg #[.int .i8 q.x, .int .i8 q.y, .int .i8 q.w, .int .i8 q.h]
theorem Slab.c_len (q : Slab) : q.c.length = 4 := rfl
structure Slab.ok (q : Slab) : Prop where
  x0 : -128 ≤ q.x
  x1 : q.x ≤ 127
  y0 : -128 ≤ q.y
  y1 : q.y ≤ 127
  w0 : -128 ≤ q.w
  w1 : q.w ≤ 127
  h0 : -128 ≤ q.h
  h1 : q.h ≤ 127
def Row.c (q : Row) : List Value := [.int .i8 q.n, .int .i16 q.w]
def Row.v (q : Row) : Value := .agg #[.int .i8 q.n, .int .i16 q.w]
theorem Row.c_len (q : Row) : q.c.length = 2 := rfl
structure Row.ok (q : Row) : Prop where
  n0 : -128 ≤ q.n
  n1 : q.n ≤ 127
  w0 : -32768 ≤ q.w
  w1 : q.w ≤ 32767
def Gang.c (q : Gang) : List Value := [.int .i8 q.s, .int .i8 q.p, .int .i8 q.k, .int .i8 q.r, .int .i16 q.g]
def Gang.v (q : Gang) : Value := .agg #[.int .i8 q.s, .int .i8 q.p, .int .i8 q.k, .int .i8 q.r, .int .i16 q.g]
theorem Gang.c_len (q : Gang) : q.c.length = 5 := rfl
structure Gang.ok (q : Gang) : Prop where
  s0 : -128 ≤ q.s
  s1 : q.s ≤ 127
  p0 : -128 ≤ q.p
  p1 : q.p ≤ 127
  k0 : -128 ≤ q.k
  k1 : q.k ≤ 127
  r0 : -128 ≤ q.r
  r1 : q.r ≤ 127
  g0 : -32768 ≤ q.g
  g1 : q.g ≤ 32767
def Mix.c (q : Mix) : List Value := [.int .i16 q.x, .int .i16 q.y, .int .i16 q.z]
def Mix.v (q : Mix) : Value := .agg #[.int .i16 q.x, .int .i16 q.y, .int .i16 q.z]
theorem Mix.c_len (q : Mix) : (Mix.c q).length = 3 := rfl
structure Mix.ok (q : Mix) : Prop where
  x0 : -32768 ≤ q.x
  x1 : q.x ≤ 32767
  y0 : -32768 ≤ q.y
  y1 : q.y ≤ 32767
  z0 : -32768 ≤ q.z
  z1 : q.z ≤ 32767
def Pair.c (q : Pair) : List Value := [.int .i64 q.a, .int .i64 q.b]
def Pair.v (q : Pair) : Value := .agg #[.int .i64 q.a, .int .i64 q.b]
theorem Pair.c_len (q : Pair) : q.c.length = 2 := rfl
/-- A square: its sides, and its slabs. -/
structure Sq where
  w : Int
  h : Int
  sl : List Slab
def Sq.v (q : Sq) (z : Value) : Value := .agg #[.int .i8 q.w, .int .i8 q.h, z]
structure Sq.ok (q : Sq) : Prop where
  w0 : -128 ≤ q.w
  w1 : q.w ≤ 127
  h0 : -128 ≤ q.h
  h1 : q.h ≤ 127
  sl : ∀ x ∈ q.sl, x.ok
/-- The places of a pointer to a struct or array that lies whole at ⟨b, o⟩. -/
def Gang.at_ (w : World) (b o : Nat) (q : Gang) : Prop := w.cell? ⟨b, o, none⟩ = some (.int .i8 q.s) ∧ w.cell? ⟨b, o + 1, none⟩ = some (.int .i8 q.p) ∧ w.cell? ⟨b, o + 2, none⟩ = some (.int .i8 q.k) ∧ w.cell? ⟨b, o + 3, none⟩ = some (.int .i8 q.r) ∧ w.cell? ⟨b, o + 4, none⟩ = some (.int .i16 q.g)
def Row.at_ (w : World) (b o : Nat) (q : Row) : Prop := w.cell? ⟨b, o, none⟩ = some (.int .i8 q.n) ∧ w.cell? ⟨b, o + 1, none⟩ = some (.int .i16 q.w)
def Mix.at_ (w : World) (b o : Nat) (q : Mix) : Prop := w.cell? ⟨b, o, none⟩ = some (.int .i16 q.x) ∧ w.cell? ⟨b, o + 1, none⟩ = some (.int .i16 q.y) ∧ w.cell? ⟨b, o + 2, none⟩ = some (.int .i16 q.z)

section
variable {w : World} {B : Nat} {v : Value}
theorem Sl.row {xs : List Row} (h : Sl w B Row.c 2 v xs) : ∃ A cap, v = .slice A xs.length cap ∧ xs.length ≤ cap ∧ cap ≤ 9223372036854775807 ∧
    ∀ k (hk : k < xs.length), ∃ b o, A = some ⟨b, o, none⟩ ∧ b < B ∧ w.cell? ⟨b, o + k * 2, none⟩ = some (.int .i8 xs[k].n) ∧ w.cell? ⟨b, o + k * 2 + 1, none⟩ = some (.int .i16 xs[k].w) := by
  obtain ⟨A, cap, rfl, hl, hm, hc⟩ := h.out
  refine ⟨A, cap, rfl, hl, hm, fun k hk => ?_⟩
  obtain ⟨b, o, rfl, hb, hcell⟩ := hc (by omega)
  exact ⟨b, o, rfl, hb, hcell k xs[k] (by simp [hk]) 0 _ rfl, hcell k xs[k] (by simp [hk]) 1 _ rfl⟩
theorem Sl.cell {xs : List Cell} (h : Sl w B Cell.c 2 v xs) : ∃ A cap, v = .slice A xs.length cap ∧ xs.length ≤ cap ∧ cap ≤ 9223372036854775807 ∧
    ∀ k (hk : k < xs.length), ∃ b o, A = some ⟨b, o, none⟩ ∧ b < B ∧ w.cell? ⟨b, o + k * 2, none⟩ = some (.int .i8 xs[k].x) ∧ w.cell? ⟨b, o + k * 2 + 1, none⟩ = some (.int .i8 xs[k].y) := by
  obtain ⟨A, cap, rfl, hl, hm, hc⟩ := h.out
  refine ⟨A, cap, rfl, hl, hm, fun k hk => ?_⟩
  obtain ⟨b, o, rfl, hb, hcell⟩ := hc (by omega)
  exact ⟨b, o, rfl, hb, hcell k xs[k] (by simp [hk]) 0 _ rfl, hcell k xs[k] (by simp [hk]) 1 _ rfl⟩
theorem Sl.pair {xs : List Pair} (h : Sl w B Pair.c 2 v xs) : ∃ A cap, v = .slice A xs.length cap ∧ xs.length ≤ cap ∧ cap ≤ 9223372036854775807 ∧
    ∀ k (hk : k < xs.length), ∃ b o, A = some ⟨b, o, none⟩ ∧ b < B ∧ w.cell? ⟨b, o + k * 2, none⟩ = some (.int .i64 xs[k].a) ∧ w.cell? ⟨b, o + k * 2 + 1, none⟩ = some (.int .i64 xs[k].b) := by
  obtain ⟨A, cap, rfl, hl, hm, hc⟩ := h.out
  refine ⟨A, cap, rfl, hl, hm, fun k hk => ?_⟩
  obtain ⟨b, o, rfl, hb, hcell⟩ := hc (by omega)
  exact ⟨b, o, rfl, hb, hcell k xs[k] (by simp [hk]) 0 _ rfl, hcell k xs[k] (by simp [hk]) 1 _ rfl⟩
theorem Sl.i64 {xs : List Int} (h : Sl w B i64c 1 v xs) : ∃ A cap, v = .slice A xs.length cap ∧ xs.length ≤ cap ∧ cap ≤ 9223372036854775807 ∧
    ∀ k (hk : k < xs.length), ∃ b o, A = some ⟨b, o, none⟩ ∧ b < B ∧ w.cell? ⟨b, o + k, none⟩ = some (.int .i64 xs[k]) := by
  obtain ⟨A, cap, rfl, hl, hm, hc⟩ := h.out
  refine ⟨A, cap, rfl, hl, hm, fun k hk => ?_⟩
  obtain ⟨b, o, rfl, hb, hcell⟩ := hc (by omega)
  have := hcell k xs[k] (by simp [hk]) 0 _ rfl
  exact ⟨b, o, rfl, hb, by simpa using this⟩
theorem Sl.i16 {xs : List Int} (h : Sl w B i16c 1 v xs) : ∃ A cap, v = .slice A xs.length cap ∧ xs.length ≤ cap ∧ cap ≤ 9223372036854775807 ∧
    ∀ k (hk : k < xs.length), ∃ b o, A = some ⟨b, o, none⟩ ∧ b < B ∧ w.cell? ⟨b, o + k, none⟩ = some (.int .i16 xs[k]) := by
  obtain ⟨A, cap, rfl, hl, hm, hc⟩ := h.out
  refine ⟨A, cap, rfl, hl, hm, fun k hk => ?_⟩
  obtain ⟨b, o, rfl, hb, hcell⟩ := hc (by omega)
  have := hcell k xs[k] (by simp [hk]) 0 _ rfl
  exact ⟨b, o, rfl, hb, by simpa using this⟩
theorem Sl.slab {xs : List Slab} (h : Sl w B Slab.c 4 v xs) : ∃ A cap, v = .slice A xs.length cap ∧ xs.length ≤ cap ∧ cap ≤ 9223372036854775807 ∧
    ∀ k (hk : k < xs.length), ∃ b o, A = some ⟨b, o, none⟩ ∧ b < B ∧ w.cell? ⟨b, o + k * 4, none⟩ = some (.int .i8 xs[k].x) ∧ w.cell? ⟨b, o + k * 4 + 1, none⟩ = some (.int .i8 xs[k].y) ∧ w.cell? ⟨b, o + k * 4 + 2, none⟩ = some (.int .i8 xs[k].w) ∧ w.cell? ⟨b, o + k * 4 + 3, none⟩ = some (.int .i8 xs[k].h) := by
  obtain ⟨A, cap, rfl, hl, hm, hc⟩ := h.out
  refine ⟨A, cap, rfl, hl, hm, fun k hk => ?_⟩
  obtain ⟨b, o, rfl, hb, hcell⟩ := hc (by omega)
  exact ⟨b, o, rfl, hb, hcell k xs[k] (by simp [hk]) 0 _ rfl, hcell k xs[k] (by simp [hk]) 1 _ rfl, hcell k xs[k] (by simp [hk]) 2 _ rfl, hcell k xs[k] (by simp [hk]) 3 _ rfl⟩
theorem Sl.gang {xs : List Gang} (h : Sl w B Gang.c 5 v xs) : ∃ A cap, v = .slice A xs.length cap ∧ xs.length ≤ cap ∧ cap ≤ 9223372036854775807 ∧
    ∀ k (hk : k < xs.length), ∃ b o, A = some ⟨b, o, none⟩ ∧ b < B ∧ Gang.at_ w b (o + k * 5) xs[k] := by
  obtain ⟨A, cap, rfl, hl, hm, hc⟩ := h.out
  refine ⟨A, cap, rfl, hl, hm, fun k hk => ?_⟩
  obtain ⟨b, o, rfl, hb, hcell⟩ := hc (by omega)
  exact ⟨b, o, rfl, hb, hcell k xs[k] (by simp [hk]) 0 _ rfl, hcell k xs[k] (by simp [hk]) 1 _ rfl, hcell k xs[k] (by simp [hk]) 2 _ rfl, hcell k xs[k] (by simp [hk]) 3 _ rfl, hcell k xs[k] (by simp [hk]) 4 _ rfl⟩
theorem Sl.mix {xs : List Mix} (h : Sl w B Mix.c 3 v xs) : ∃ A cap, v = .slice A xs.length cap ∧ xs.length ≤ cap ∧ cap ≤ 9223372036854775807 ∧
    ∀ k (hk : k < xs.length), ∃ b o, A = some ⟨b, o, none⟩ ∧ b < B ∧ Mix.at_ w b (o + k * 3) xs[k] := by
  obtain ⟨A, cap, rfl, hl, hm, hc⟩ := h.out
  refine ⟨A, cap, rfl, hl, hm, fun k hk => ?_⟩
  obtain ⟨b, o, rfl, hb, hcell⟩ := hc (by omega)
  exact ⟨b, o, rfl, hb, hcell k xs[k] (by simp [hk]) 0 _ rfl, hcell k xs[k] (by simp [hk]) 1 _ rfl, hcell k xs[k] (by simp [hk]) 2 _ rfl⟩
end
end Go.Proofs.Yteflpdfajfljfaa
