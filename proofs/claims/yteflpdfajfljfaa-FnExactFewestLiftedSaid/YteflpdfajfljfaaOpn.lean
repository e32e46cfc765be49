/-
How the laws' arguments are opened: what a value of each of the program's types holds if it can be read; and that what was read reads as before, where nothing below the old heap's size has turned.
-/
import Derived.Test.YteflpdfajfljfaaVoc
import Derived.Carry
import Derived.OpenShut
import Derived.ChangeArms
import Derived.Deep.Slices
set_option linter.unusedVariables false
set_option linter.unusedSimpArgs false
set_option maxRecDepth 100000
namespace Go.Proofs.Yteflpdfajfljfaa
open Go.RowKit

section
variable {H : Type} {enc : TypeId × Value → H} {P : Program} {w : World} {t e : TypeId} {cs : List Value}
/-- These cells read as a value of type t. -/
def Rd (enc : TypeId × Value → H) (P : Program) (w : World) (t : TypeId) (cs : List Value) : Prop := ∃ base spare held fuel x, DataW.trod enc P w base spare held fuel t cs = some x
theorem Rd.int {k : IntKind} (ht : P.underlying t = some (.int k)) (h : Rd enc P w t cs) : ∃ n, cs = [.int k n] ∧ (Lit.int k n).wf = true := by
  obtain ⟨base, spare, held, fuel, x, h⟩ := h
  obtain ⟨n, h1, _, h2⟩ := DataW.trod_int ht h
  exact ⟨n, h1, h2⟩
theorem Rd.struct {fs : Array Field} (ht : P.underlying t = some (.struct fs)) (h : Rd enc P w t cs) : cs.length = P.cellsOf t ∧ ∀ (i : Nat) (f : Field), fs[i]? = some f → Rd enc P w f.type ((cs.drop f.offset).take (P.cellsOf f.type)) := by
  obtain ⟨base, spare, held, fuel, x, h⟩ := h
  obtain ⟨xs, n, _, _, hl, hx, hf⟩ := DataW.trod_struct ht h
  refine ⟨hl, fun i f hi => ?_⟩
  have h1 := hf i f hi
  have hlt : i < xs.length := by rw [hx]; exact (Array.getElem?_eq_some_iff.1 hi).1
  rw [List.getElem?_eq_getElem hlt] at h1
  exact ⟨_, _, _, _, _, h1⟩
theorem Rd.array {n : Nat} (ht : P.underlying t = some (.array n e)) (h : Rd enc P w t cs) : cs.length = P.cellsOf t ∧ ∀ i, i < n → Rd enc P w e ((cs.drop (i * P.cellsOf e)).take (P.cellsOf e)) := by
  obtain ⟨base, spare, held, fuel, x, h⟩ := h
  obtain ⟨xs, m, _, _, hl, hx, hf⟩ := DataW.trod_array ht h
  refine ⟨hl, fun i hi => ?_⟩
  have h1 := hf i hi
  rw [List.getElem?_eq_getElem (by omega)] at h1
  exact ⟨_, _, _, _, _, h1⟩
theorem Rd.slice {α : Type} (c : α → List Value) (sz : Nat) (ok : α → Prop) (ht : P.underlying t = some (.slice e)) (hC : P.cellsOf e = sz) (hsz : 0 < sz) (hc : ∀ x, (c x).length = sz)
    (hel : ∀ cs', Rd enc P w e cs' → ∃ q, cs' = c q ∧ ok q) (h : Rd enc P w t cs) : ∃ v xs, cs = [v] ∧ Sl w w.heap.size c sz v xs ∧ ∀ q ∈ xs, ok q := by
  obtain ⟨base, spare, held, fuel, x, h⟩ := h
  rcases Go.Deep.open_slice ht h with ⟨h0, _⟩ | ⟨a, len, cap, m, n, D, Pl, hcs, hb, hl, hm, hmm, hx, hi⟩
  · exact ⟨_, [], h0, Sl.nil_ _ _ _ _, by simp⟩
  · have hlm : len ≤ m := by rw [hmm]; split <;> omega
    have hq : ∀ i, i < len → ∃ q, ok q ∧ ∀ j u, (c q)[j]? = some u → w.cell? (a.add (i * sz + j)) = some u := by
      intro i hil
      obtain ⟨cs', hcells, htr⟩ := hi i (by omega)
      obtain ⟨q, rfl, hok⟩ := hel cs' ⟨_, _, _, _, _, htr⟩
      obtain ⟨_, _, hcell⟩ := World.cells?_some hcells
      refine ⟨q, hok, fun j u hu => ?_⟩
      have hj : j < sz := by
        have := (List.getElem?_eq_some_iff.1 hu).1
        rwa [hc] at this
      have h1 := hcell j (by omega)
      rw [hC, Go.Deep.add_add] at h1
      rw [h1, hu]
    rcases Nat.eq_zero_or_pos len with h0 | hpos
    · subst h0
      exact ⟨_, [], hcs, ⟨some a, cap, rfl, by simp, by simpa [maxLen] using hm, fun hh => absurd hh (by simp)⟩, by simp⟩
    · let f : Nat → α := fun i => if hil : i < len then (hq i hil).choose else (hq 0 hpos).choose
      have hf : ∀ i, i < len → ok (f i) ∧ ∀ j u, (c (f i))[j]? = some u → w.cell? (a.add (i * sz + j)) = some u := by
        intro i hil
        have : f i = (hq i hil).choose := by simp [f, hil]
        rw [this]
        exact (hq i hil).choose_spec
      have hsp : a = ⟨a.block, a.off, none⟩ := by
        have h1 := (hf 0 hpos).2 0 ((c (f 0))[0]'(by rw [hc]; exact hsz)) (List.getElem?_eq_getElem _)
        rw [Nat.zero_mul, Nat.zero_add] at h1
        have h2 : a.add 0 = a := by unfold Addr.add; simp
        rw [h2] at h1
        obtain ⟨b, o, s⟩ := a
        cases s with
        | none => rfl
        | some s =>
          simp only [World.cell?] at h1
          split at h1 <;> simp at h1
      have hadd : ∀ j, a.add j = ⟨a.block, a.off + j, none⟩ := by
        intro j
        rw [hsp]
        unfold Addr.add
        by_cases hj : j = 0 <;> simp [hj]
      have hblk : a.block < w.heap.size := by
        have h1 := (hf 0 hpos).2 0 ((c (f 0))[0]'(by rw [hc]; exact hsz)) (List.getElem?_eq_getElem _)
        rw [hadd] at h1
        exact World.block_lt_of_cell? w ⟨a.block, _, none⟩ h1
      refine ⟨_, (List.range len).map f, hcs, ⟨some a, cap, by simp, by simpa using hl, by simpa [maxLen] using hm, fun _ => ⟨a.block, a.off, by rw [← hsp], hblk, ?_⟩⟩, ?_⟩
      · intro i q hiq j u hu
        have hil : i < len := by
          have := (List.getElem?_eq_some_iff.1 hiq).1
          simpa using this
        rw [List.getElem?_map, List.getElem?_range hil] at hiq
        simp only [Option.map_some, Option.some.injEq] at hiq
        subst hiq
        rw [← hadd]
        exact (hf i hil).2 j u hu
      · intro q hq
        simp only [List.mem_map, List.mem_range] at hq
        obtain ⟨i, hil, rfl⟩ := hq
        exact (hf i hil).1
theorem Rd.of_trod {v : Value} {d : DataW H} {p : List MemPlace} {base : Nat} {spare : Nat → Bool} {held : Bool} (h : DataW.Trod enc P w base spare held t v d p) : Rd enc P w t v.cells.toList := by
  obtain ⟨fuel, h⟩ := h
  exact ⟨_, _, _, _, _, h⟩

/-- The arguments read as they did, where nothing has turned below the old heap's size. -/
theorem trodAll_below (hl : laidOutB P = true) {W W' : World} (hb : Below W.heap.size W W') : ∀ (ts : List TypeId) (vs : List Value) (ds : List (DataW H)) (ps : List MemPlace), (∀ t ∈ ts, P.readableRec t = true ∧ t < P.types.size) →
    DataW.TrodAll enc P W 0 (fun _ => true) true ts vs ds ps → (∀ x ∈ ps, x.block < W.heap.size) → DataW.TrodAll enc P W' 0 (fun b => decide (b < W.heap.size)) true ts vs ds ps
  | [], vs, ds, ps, _, h, _ => by
    cases vs <;> cases ds <;> simp_all [DataW.TrodAll]
  | t :: ts, vs, ds, ps, hr, h, hlt => by
    obtain ⟨v, vs', d, ds', p, q, rfl, rfl, rfl, h1, h2⟩ := Go.ChangeShapes.trodAll_cons h
    obtain ⟨r1, r2⟩ := hr t (by simp)
    exact trodAll_cons_mk (Below.trod hl r1 r2 h1 hb (fun x hx => hlt x (by simp [hx]))) (trodAll_below hl hb ts vs' ds' q (fun t ht => hr t (by simp [ht])) h2 (fun x hx => hlt x (by simp [hx])))
end

theorem wf_i8 {n : Int} (h : (Lit.int .i8 n).wf = true) : -128 ≤ n ∧ n ≤ 127 := by simpa [Lit.wf, IntKind.min, IntKind.max, IntKind.signed, IntKind.bits] using h
theorem wf_i16 {n : Int} (h : (Lit.int .i16 n).wf = true) : -32768 ≤ n ∧ n ≤ 32767 := by simpa [Lit.wf, IntKind.min, IntKind.max, IntKind.signed, IntKind.bits] using h
theorem wf_i64 {n : Int} (h : (Lit.int .i64 n).wf = true) : -9223372036854775808 ≤ n ∧ n ≤ 9223372036854775807 := by simpa [Lit.wf, IntKind.min, IntKind.max, IntKind.signed, IntKind.bits] using h
theorem wf_u8 {n : Int} (h : (Lit.int .u8 n).wf = true) : 0 ≤ n ∧ n ≤ 255 := by simpa [Lit.wf, IntKind.min, IntKind.max, IntKind.signed, IntKind.bits] using h
theorem laid_out : laidOutB Try.prog = true := by kernel_rfl

section
variable {H : Type} {enc : TypeId × Value → H} {w : World} {cs : List Value}
theorem Rd.Cell (h : Rd enc Try.prog w 27 cs) : ∃ q : Cell, cs = q.c ∧ q.ok := by
  obtain ⟨hl, hf⟩ := h.struct Try.underlying27
  have hC : Try.prog.cellsOf 27 = 2 := by kernel_rfl
  have h1 : Try.prog.cellsOf 22 = 1 := by kernel_rfl
  have h2 : Try.prog.cellsOf 22 = 1 := by kernel_rfl
  rw [hC] at hl
  match cs, hl with
  | [c0, c1], _ =>
    have f0 : Rd enc Try.prog w 22 (([c0, c1].drop 0).take (Try.prog.cellsOf 22)) := hf 0 _ rfl
    have f1 : Rd enc Try.prog w 22 (([c0, c1].drop 1).take (Try.prog.cellsOf 22)) := hf 1 _ rfl
    rw [h1] at f0
    rw [h2] at f1
    obtain ⟨n0, e0, w0⟩ := f0.int Try.underlying22
    obtain ⟨n1, e1, w1⟩ := f1.int Try.underlying22
    simp at e0 e1
    subst e0; subst e1
    obtain ⟨a, b⟩ := wf_i8 w0
    obtain ⟨c, d⟩ := wf_i8 w1
    exact ⟨⟨n0, n1⟩, rfl, a, b, c, d⟩
theorem Rd.Slab (h : Rd enc Try.prog w 129 cs) : ∃ q : Slab, cs = q.c ∧ q.ok := by
  obtain ⟨hl, hf⟩ := h.struct Try.underlying129
  have hC : Try.prog.cellsOf 129 = 4 := by kernel_rfl
  have h1 : Try.prog.cellsOf 22 = 1 := by kernel_rfl
  rw [hC] at hl
  match cs, hl with
  | [c0, c1, c2, c3], _ =>
    have f0 : Rd enc Try.prog w 22 (([c0, c1, c2, c3].drop 0).take (Try.prog.cellsOf 22)) := hf 0 _ rfl
    have f1 : Rd enc Try.prog w 22 (([c0, c1, c2, c3].drop 1).take (Try.prog.cellsOf 22)) := hf 1 _ rfl
    have f2 : Rd enc Try.prog w 22 (([c0, c1, c2, c3].drop 2).take (Try.prog.cellsOf 22)) := hf 2 _ rfl
    have f3 : Rd enc Try.prog w 22 (([c0, c1, c2, c3].drop 3).take (Try.prog.cellsOf 22)) := hf 3 _ rfl
    rw [h1] at f0 f1 f2 f3
    obtain ⟨n0, e0, w0⟩ := f0.int Try.underlying22
    obtain ⟨n1, e1, w1⟩ := f1.int Try.underlying22
    obtain ⟨n2, e2, w2⟩ := f2.int Try.underlying22
    obtain ⟨n3, e3, w3⟩ := f3.int Try.underlying22
    simp at e0 e1 e2 e3
    subst e0; subst e1; subst e2; subst e3
    obtain ⟨a0, b0⟩ := wf_i8 w0
    obtain ⟨a1, b1⟩ := wf_i8 w1
    obtain ⟨a2, b2⟩ := wf_i8 w2
    obtain ⟨a3, b3⟩ := wf_i8 w3
    exact ⟨⟨n0, n1, n2, n3⟩, rfl, a0, b0, a1, b1, a2, b2, a3, b3⟩
theorem Rd.Square (h : Rd enc Try.prog w 25 cs) : ∃ (q : Sq) (z : Value), cs = [.int .i8 q.w, .int .i8 q.h, z] ∧ Sl w w.heap.size Slab.c 4 z q.sl ∧ q.ok := by
  obtain ⟨hl, hf⟩ := h.struct Try.underlying25
  have hC : Try.prog.cellsOf 25 = 3 := by kernel_rfl
  have h1 : Try.prog.cellsOf 22 = 1 := by kernel_rfl
  have h2 : Try.prog.cellsOf 23 = 1 := by kernel_rfl
  rw [hC] at hl
  match cs, hl with
  | [c0, c1, c2], _ =>
    have f0 : Rd enc Try.prog w 22 (([c0, c1, c2].drop 0).take (Try.prog.cellsOf 22)) := hf 0 _ rfl
    have f1 : Rd enc Try.prog w 22 (([c0, c1, c2].drop 1).take (Try.prog.cellsOf 22)) := hf 1 _ rfl
    have f2 : Rd enc Try.prog w 23 (([c0, c1, c2].drop 2).take (Try.prog.cellsOf 23)) := hf 2 _ rfl
    rw [h1] at f0 f1
    rw [h2] at f2
    obtain ⟨n0, e0, w0⟩ := f0.int Try.underlying22
    obtain ⟨n1, e1, w1⟩ := f1.int Try.underlying22
    obtain ⟨v, xs, e2, hs, hok⟩ := f2.slice Slab.c 4 Slab.ok Try.underlying23 (by kernel_rfl) (by omega) Slab.c_len (fun cs' hr => hr.Slab)
    simp at e0 e1 e2
    subst e0; subst e1; subst e2
    obtain ⟨a0, b0⟩ := wf_i8 w0
    obtain ⟨a1, b1⟩ := wf_i8 w1
    exact ⟨⟨n0, n1, xs⟩, _, rfl, hs, a0, b0, a1, b1, hok⟩
end
section
variable {H : Type} {enc : TypeId × Value → H} {w : World} {r : Reach} {b0 base : Nat} {spare : Nat → Bool} {held : Bool} {v : Value} {d : DataW H} {p : List MemPlace}
theorem agg_of_cells {v : Value} {cs : List Value} (h : ∃ a, v = .agg a) (hc : v.cells.toList = cs) : v = .agg cs.toArray := by
  obtain ⟨a, rfl⟩ := h
  rw [← hc]
  rfl
theorem opnCell (hval : Value.okWide Try.prog w r b0 27 v) (h : DataW.Trod enc Try.prog w base spare held 27 v d p) : ∃ q : Cell, v = q.v ∧ q.ok := by
  obtain ⟨a, ha, _⟩ := Go.WideShapes.okWide_struct Try.underlying27 hval
  obtain ⟨q, hq, hok⟩ := (Rd.of_trod h).Cell
  exact ⟨q, agg_of_cells ⟨a, ha⟩ hq, hok⟩
theorem opnSlab (hval : Value.okWide Try.prog w r b0 129 v) (h : DataW.Trod enc Try.prog w base spare held 129 v d p) : ∃ q : Slab, v = q.v ∧ q.ok := by
  obtain ⟨a, ha, _⟩ := Go.WideShapes.okWide_struct Try.underlying129 hval
  obtain ⟨q, hq, hok⟩ := (Rd.of_trod h).Slab
  exact ⟨q, agg_of_cells ⟨a, ha⟩ hq, hok⟩
theorem okWide_array {P : Program} {t e : TypeId} {n : Nat} (ht : P.underlying t = some (.array n e)) (h : Value.okWide P w r b0 t v) : ∃ cs, v = .agg cs := by
  simp only [Value.okWide, ht] at h
  obtain ⟨cs, h1, _⟩ := h
  exact ⟨cs, h1⟩
theorem opnCellS (hval : Value.okWide Try.prog w r b0 49 v) (h : DataW.Trod enc Try.prog w base spare held 49 v d p) : ∃ xs : List Cell, Sl w w.heap.size Cell.c 2 v xs ∧ ∀ q ∈ xs, q.ok := by
  obtain ⟨a, l, c, rfl⟩ := Go.WideShapes.okWide_slice Try.underlying49 hval
  obtain ⟨v', xs, hv, hs, hok⟩ := (Rd.of_trod h).slice Cell.c 2 Cell.ok Try.underlying49 (by kernel_rfl) (by omega) Cell.c_len (fun cs' hr => hr.Cell)
  simp [Value.cells] at hv
  subst hv
  exact ⟨xs, hs, hok⟩
theorem opnSlabS (hval : Value.okWide Try.prog w r b0 23 v) (h : DataW.Trod enc Try.prog w base spare held 23 v d p) : ∃ xs : List Slab, Sl w w.heap.size Slab.c 4 v xs ∧ ∀ q ∈ xs, q.ok := by
  obtain ⟨a, l, c, rfl⟩ := Go.WideShapes.okWide_slice Try.underlying23 hval
  obtain ⟨v', xs, hv, hs, hok⟩ := (Rd.of_trod h).slice Slab.c 4 Slab.ok Try.underlying23 (by kernel_rfl) (by omega) Slab.c_len (fun cs' hr => hr.Slab)
  simp [Value.cells] at hv
  subst hv
  exact ⟨xs, hs, hok⟩
theorem opnSquare (hval : Value.okWide Try.prog w r b0 25 v) (h : DataW.Trod enc Try.prog w base spare held 25 v d p) : ∃ (q : Sq) (z : Value), v = q.v z ∧ Sl w w.heap.size Slab.c 4 z q.sl ∧ q.ok := by
  obtain ⟨a, ha, _⟩ := Go.WideShapes.okWide_struct Try.underlying25 hval
  obtain ⟨q, z, hq, hs, hok⟩ := (Rd.of_trod h).Square
  exact ⟨q, z, agg_of_cells ⟨a, ha⟩ hq, hs, hok⟩
theorem opni64S (hval : Value.okWide Try.prog w r b0 29 v) (h : DataW.Trod enc Try.prog w base spare held 29 v d p) : ∃ xs : List Int, Sl w w.heap.size i64c 1 v xs ∧ ∀ q ∈ xs, -9223372036854775808 ≤ q ∧ q ≤ 9223372036854775807 := by
  obtain ⟨a, l, c, rfl⟩ := Go.WideShapes.okWide_slice Try.underlying29 hval
  obtain ⟨v', xs, hv, hs, hok⟩ := (Rd.of_trod h).slice i64c 1 (fun q => -9223372036854775808 ≤ q ∧ q ≤ 9223372036854775807) Try.underlying29 (by kernel_rfl) (by omega) i64c_len (fun cs' hr => by
    obtain ⟨n, hn, wn⟩ := hr.int Try.underlying2
    exact ⟨n, hn, wf_i64 wn⟩)
  simp [Value.cells] at hv
  subst hv
  exact ⟨xs, hs, hok⟩
theorem opni64 (hval : Value.okWide Try.prog w r b0 2 v) (h : DataW.Trod enc Try.prog w base spare held 2 v d p) : ∃ n : Int, v = .int .i64 n ∧ -9223372036854775808 ≤ n ∧ n ≤ 9223372036854775807 := by
  obtain ⟨n, hn, _, _, wn⟩ := Go.ChangeShapes.open_int Try.underlying2 hval h
  exact ⟨n, hn, wf_i64 wn⟩
end
end Go.Proofs.Yteflpdfajfljfaa
