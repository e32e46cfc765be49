/-
Sets of numbers, kept as maps to bools. Nothing is proved here of the program itself.
-/
import Derived.Test.YtbmkhhhlnollmaaTR2
import Derived.MapKept
import Derived.Carry
import Derived.Maps.Own
set_option linter.unusedVariables false
set_option linter.unusedSimpArgs false
set_option maxRecDepth 100000
namespace Go.Proofs.Ytbmkhhhlnollmaa
open Go.RowKit
/-- Block g is a map from numbers to bools; each of its entries holds true; f tells its keys. -/
def SetM (w : World) (g : Nat) (f : Int → Bool) : Prop :=
  ∃ es clock, w.heap[g]? = some (.map es clock) ∧ (∀ e ∈ es.toList, ∃ k : Int, e.key = .int .i64 k ∧ e.val = .bool true) ∧ ∀ x, f x = true ↔ ∃ e ∈ es.toList, e.key = .int .i64 x
section
variable {w w' : World} {g : Nat} {f : Int → Bool}
theorem SetM.lt (h : SetM w g f) : g < w.heap.size := by
  obtain ⟨es, clock, hb, _⟩ := h
  exact (Array.getElem?_eq_some_iff.1 hb).1
theorem SetM.keep (h : SetM w g f) (hb : w'.heap[g]? = w.heap[g]?) : SetM w' g f := by
  obtain ⟨es, clock, h1, h2⟩ := h
  exact ⟨es, clock, hb.trans h1, h2⟩
theorem SetM.ext (h : SetM w g f) (hb : Below w.heap.size w w') : SetM w' g f := h.keep (hb.block g h.lt)
theorem SetM.new (w : World) : SetM (w.alloc (.map #[] 0)) w.heap.size (fun _ => false) := by
  refine ⟨#[], 0, ?_, by simp, by simp⟩
  show (w.heap.push _)[w.heap.size]? = _
  simp
theorem findNow_i64 (x : Int) : ∀ (l : List MapEntry) (i : Nat), (∀ e ∈ l, ∃ k : Int, e.key = .int .i64 k ∧ e.val = .bool true) →
    (∃ j, Instr.findNow (.int .i64) (.int .i64 x) l i = some (some (i + j, .bool true)) ∧ ∃ e, l[j]? = some e ∧ e.key = .int .i64 x ∧ e.val = .bool true) ∨ (Instr.findNow (.int .i64) (.int .i64 x) l i = some none ∧ ∀ e ∈ l, e.key ≠ .int .i64 x)
  | [], i, _ => .inr ⟨rfl, by simp⟩
  | e :: l, i, h => by
    obtain ⟨k, hk, hv⟩ := h e (by simp)
    by_cases hx : x = k
    · subst hx
      refine .inl ⟨0, ?_, e, rfl, hk, hv⟩
      simp [Instr.findNow, Instr.sameNow, hk, hv]
    · have hn : (x == k) = false := by simpa using hx
      rcases findNow_i64 x l (i + 1) (fun e he => h e (by simp [he])) with ⟨j, h1, e', h2, h3⟩ | ⟨h1, h2⟩
      · refine .inl ⟨j + 1, ?_, e', by simpa using h2, h3⟩
        simp only [Instr.findNow, Instr.sameNow, hk, if_true, hn, h1]
        congr 3
        omega
      · refine .inr ⟨?_, ?_⟩
        · simp only [Instr.findNow, Instr.sameNow, hk, if_true, hn, h1]
        · intro e' he'
          rcases List.mem_cons.1 he' with rfl | he'
          · rw [hk]
            intro he
            injection he with _ he
            exact hx he.symm
          · exact h2 e' he'
variable {P : Program} {T K E : TypeId}
theorem SetM.look (h : SetM w g f) (ht : P.underlying T = some (.map K E)) (hk : P.underlying K = some (.int .i64)) (hz : (zeroValue E).run P w = .ok (.bool false) w) (x : Int) :
    (Instr.lookup T (.map (some g)) (.int .i64 x) false).run P w = .ok (.bool (f x)) w := by
  obtain ⟨es, clock, hb, hall, hf⟩ := h
  have hc : (Instr.checkKey es.isEmpty 10000 K (.int .i64 x)).run P w = .ok () w := MapKept.run_checkKey (k := .int .i64 x) hk (by simp [MapKept.IsKey]) _ 9999
  rcases findNow_i64 x es.toList 0 hall with ⟨j, h1, e, h2, h3, h4⟩ | ⟨h1, h2⟩
  · have hx : f x = true := (hf x).2 ⟨e, List.mem_of_getElem? h2, h3⟩
    simp [Instr.lookup, run_underlying ht, MapKept.run_getObj_map hb, hc, MapKept.run_findKey hk h1, Result.andThen, hx]
  · have hx : f x = false := by
      cases hfx : f x
      · rfl
      · obtain ⟨e, he, hke⟩ := (hf x).1 hfx
        exact absurd hke (h2 e he)
    simp [Instr.lookup, run_underlying ht, MapKept.run_getObj_map hb, hc, MapKept.run_findKey hk h1, Result.andThen, hz, hx]
theorem SetM.store (h : SetM w g f) (ht : P.underlying T = some (.map K E)) (hk : P.underlying K = some (.int .i64)) (x : Int) :
    ∃ w', (Instr.mapUpdate T (.map (some g)) (.int .i64 x) (.bool true)).run P w = .ok () w' ∧ SetM w' g (fun y => f y || y == x) ∧ w.grownBy w' (some g) := by
  obtain ⟨es, clock, hb, hall, hf⟩ := h
  have hc : (Instr.checkKey false 10000 K (.int .i64 x)).run P w = .ok () w := MapKept.run_checkKey (k := .int .i64 x) hk (by simp [MapKept.IsKey]) _ 9999
  have hset := fun o' => MapKept.heap_set (o' := o') hb
  have hgr : ∀ o', w.grownBy { w with heap := w.heap.setIfInBounds g o' } (some g) := fun o' => ⟨rfl, rfl, rfl, by simp, fun k hk hne => (hset o').2 k (fun e => hne (by rw [e]))⟩
  rcases findNow_i64 x es.toList 0 hall with ⟨j, h1, e, h2, h3, h4⟩ | ⟨h1, h2⟩
  · have hj : es[j]? = some e := by simpa using h2
    have hstay : (Instr.keyThatStays (((es[j]?).map (·.key)).getD (.int .i64 x)) (.int .i64 x)).run P w = .ok (.int .i64 x) w := by
      rw [hj]
      simp [Instr.keyThatStays, h3, Instr.sameBits]
    rw [Nat.zero_add] at h1
    refine ⟨{ w with heap := w.heap.setIfInBounds g (.map (es.modify j fun e => { e with key := .int .i64 x, val := .bool true }) clock) }, by simp [Instr.mapUpdate, run_underlying ht, MapKept.run_getObj_map hb, hc, MapKept.run_findKey hk h1, hstay, MapKept.run_setObj_map _ hb, Result.andThen], ?_, hgr _⟩
    have hmod : ∀ e' ∈ (es.modify j fun e => { e with key := .int .i64 x, val := .bool true }).toList, e' ∈ es.toList ∨ (e'.key = .int .i64 x ∧ e'.val = .bool true) := by
      intro e' he'
      obtain ⟨i, hi, rfl⟩ := List.getElem_of_mem he'
      simp only [Array.getElem_toList, Array.getElem_modify]
      split
      · exact .inr ⟨rfl, rfl⟩
      · exact .inl (by simp)
    refine ⟨_, _, (hset _).1, ?_, ?_⟩
    · intro e' he'
      rcases hmod e' he' with h | ⟨h5, h6⟩
      · exact hall e' h
      · exact ⟨x, h5, h6⟩
    · intro y
      simp only [Bool.or_eq_true, beq_iff_eq]
      constructor
      · intro hy
        have hy2 : ∃ e ∈ es.toList, e.key = .int .i64 y := by
          rcases hy with hy | rfl
          · exact (hf y).1 hy
          · exact ⟨e, List.mem_of_getElem? h2, h3⟩
        obtain ⟨e', he', hke⟩ := hy2
        obtain ⟨i, hi, rfl⟩ := List.getElem_of_mem he'
        by_cases hij : i = j
        · subst hij
          have : es.toList[i] = e := by
            have := List.getElem?_eq_getElem hi
            rw [h2] at this
            exact (Option.some.inj this).symm
          rw [this, h3] at hke
          refine ⟨(es.modify i fun e => { e with key := .int .i64 x, val := .bool true }).toList[i]'(by simpa using hi), List.getElem_mem _, ?_⟩
          simp only [Array.getElem_toList, Array.getElem_modify_self]
          exact hke
        · refine ⟨(es.modify j fun e => { e with key := .int .i64 x, val := .bool true }).toList[i]'(by simpa using hi), List.getElem_mem _, ?_⟩
          have hji : ¬ j = i := fun h => hij h.symm
          simp only [Array.getElem_toList, Array.getElem_modify, if_neg hji]
          simpa using hke
      · rintro ⟨e', he', hke⟩
        rcases hmod e' he' with h | ⟨h5, -⟩
        · exact .inl ((hf y).2 ⟨e', h, hke⟩)
        · rw [h5] at hke
          injection hke with _ hke
          exact .inr hke.symm
  · refine ⟨{ w with heap := w.heap.setIfInBounds g (.map (es.push { key := .int .i64 x, val := .bool true, born := clock }) (clock + 1)) }, by simp [Instr.mapUpdate, run_underlying ht, MapKept.run_getObj_map hb, hc, MapKept.run_findKey hk h1, MapKept.run_setObj_map _ hb, Result.andThen], ?_, hgr _⟩
    refine ⟨_, _, (hset _).1, ?_, ?_⟩
    · intro e' he'
      simp only [Array.toList_push, List.mem_append, List.mem_singleton] at he'
      rcases he' with h | rfl
      · exact hall e' h
      · exact ⟨x, rfl, rfl⟩
    · intro y
      simp only [Bool.or_eq_true, beq_iff_eq, Array.toList_push, List.mem_append, List.mem_singleton]
      constructor
      · rintro (hy | rfl)
        · obtain ⟨e', he', hke⟩ := (hf y).1 hy
          exact ⟨e', .inl he', hke⟩
        · exact ⟨_, .inr rfl, rfl⟩
      · rintro ⟨e', h | rfl, hke⟩
        · exact .inl ((hf y).2 ⟨e', h, hke⟩)
        · injection hke with _ hke
          exact .inr hke.symm
end
end Go.Proofs.Ytbmkhhhlnollmaa
