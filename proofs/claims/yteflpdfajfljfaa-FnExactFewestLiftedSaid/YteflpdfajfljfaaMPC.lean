/-
Maps from cells to numbers. Nothing is proved here of the program itself.
-/
import Derived.Test.YteflpdfajfljfaaVoc
import Derived.MapKept
import Derived.DeepKeys4
import Derived.Maps.RangeRun
set_option linter.unusedVariables false
set_option linter.unusedSimpArgs false
set_option maxRecDepth 100000
namespace Go.Proofs.Yteflpdfajfljfaa
open Go.RowKit
open Go.ChangeMaps (setBlock)
/-- Block g is a map from cells to numbers; f tells what it holds. -/
def MapC (w : World) (g : Nat) (f : Cell → Option Int) : Prop :=
  ∃ es clock, w.heap[g]? = some (.map es clock) ∧ MapKept.Stamped es clock ∧ (∀ e ∈ es.toList, ∃ (c : Cell) (n : Int), e.key = c.v ∧ c.ok ∧ e.val = .int .i64 n ∧ f c = some n) ∧ ∀ c n, f c = some n → ∃ e ∈ es.toList, e.key = c.v
theorem Cell.v_inj {a b : Cell} (h : a.v = b.v) : a = b := by
  obtain ⟨ax, ay⟩ := a
  obtain ⟨bx, bz⟩ := b
  simp [Cell.v] at h
  obtain ⟨rfl, rfl⟩ := h
  rfl
theorem cell_key (c : Cell) (hc : c.ok) : ∃ l, keyOf Try.prog 36 c.v = some l := by
  obtain ⟨x0, x1, y0, y1⟩ := hc
  have hk : Try.prog.keyType 36 = true := by kernel_rfl
  have hcells : Try.prog.cellsOf 36 = 2 := by kernel_rfl
  have hc8 : Try.prog.cellsOf 22 = 1 := by kernel_rfl
  obtain ⟨m, hm⟩ : ∃ m, Try.prog.types.size + 1 = m + 1 + 1 := ⟨Try.prog.types.size - 1, by have : 0 < Try.prog.types.size := of_decide_eq_true (by kernel_rfl); omega⟩
  have w1 : (Lit.int .i8 c.x).wf = true := by simp only [Lit.wf, Bool.and_eq_true, decide_eq_true_eq]; exact ⟨x0, x1⟩
  have w2 : (Lit.int .i8 c.y).wf = true := by simp only [Lit.wf, Bool.and_eq_true, decide_eq_true_eq]; exact ⟨y0, y1⟩
  unfold keyOf
  simp only [Try.underlying36, hk, hm]
  simp [Value.formed, Cell.v, Try.underlying36, hcells, Value.cells, Program.keyLits, hc8, Try.underlying22, w1, w2]
theorem cellLaw : WideMaps.KeyLaw Try.prog 36 := deep_law_laid (by kernel_rfl) (m := 2) (by omega) (of_decide_eq_true (by kernel_rfl)) (by kernel_rfl) (by rw [Try.underlying36])
section
variable {w w' : World} {g : Nat} {f : Cell → Option Int}
theorem MapC.lt (h : MapC w g f) : g < w.heap.size := by
  obtain ⟨es, clock, hb, _⟩ := h
  exact (Array.getElem?_eq_some_iff.1 hb).1
theorem MapC.keep (h : MapC w g f) (hb : w'.heap[g]? = w.heap[g]?) : MapC w' g f := by
  obtain ⟨es, clock, h1, h2⟩ := h
  exact ⟨es, clock, hb.trans h1, h2⟩
theorem MapC.ext (h : MapC w g f) (hb : Below w.heap.size w w') : MapC w' g f := h.keep (hb.block g h.lt)
theorem MapC.new (w : World) (g : Nat) (hg : g = w.heap.size) : MapC (w.alloc (.map #[] 0)) g (fun _ => none) := by
  subst hg
  refine ⟨#[], 0, ?_, MapKept.stamped_empty 0, by simp, by simp⟩
  show (w.heap.push _)[w.heap.size]? = _
  simp
theorem MapC.okAt (h : MapC w g f) {c : Cell} {n : Int} (hf : f c = some n) : c.ok := by
  obtain ⟨es, clock, hb, hst, hall, hf2⟩ := h
  obtain ⟨e, he, hk⟩ := hf2 c n hf
  obtain ⟨c', n', hk', hok, _⟩ := hall e he
  rw [hk] at hk'
  exact Cell.v_inj hk' ▸ hok
theorem MapC.find (h : MapC w g f) (x : Cell) (hx : x.ok) : ∃ es clock, w.heap[g]? = some (.map es clock) ∧ (((Instr.findKey 36 x.v es.toList).run Try.prog w = .ok none w ∧ f x = none ∧ ∀ e ∈ es.toList, e.key ≠ x.v) ∨
    ∃ j e n, (Instr.findKey 36 x.v es.toList).run Try.prog w = .ok (some (j, .int .i64 n)) w ∧ es[j]? = some e ∧ e.key = x.v ∧ f x = some n) := by
  obtain ⟨es, clock, hb, hst, hall, hf⟩ := h
  obtain ⟨l, hl⟩ := cell_key x hx
  refine ⟨es, clock, hb, ?_⟩
  rcases cellLaw.find w hl es.toList (fun e he => by
    obtain ⟨c, n, hk, hok, _⟩ := hall e he
    rw [hk]
    exact cell_key c hok) with ⟨h1, h2⟩ | ⟨j, e, h1, h2, h3⟩
  · refine .inl ⟨h1, ?_, h2⟩
    cases hfx : f x
    · rfl
    · obtain ⟨e, he, hk⟩ := hf x _ hfx
      exact absurd hk (h2 e he)
  · obtain ⟨c, n, hk, hok, hv, hfc⟩ := hall e (List.mem_of_getElem? h2)
    rw [h3] at hk
    obtain rfl := Cell.v_inj hk
    rw [hv] at h1
    exact .inr ⟨j, e, n, h1, by simpa using h2, h3, hfc⟩
variable {T E : TypeId}
theorem MapC.look (h : MapC w g f) (ht : Try.prog.underlying T = some (.map 36 E)) (hz : (zeroValue E).run Try.prog w = .ok (.int .i64 0) w) (x : Cell) (hx : x.ok) :
    (Instr.lookup T (.map (some g)) x.v false).run Try.prog w = .ok (.int .i64 ((f x).getD 0)) w := by
  obtain ⟨l, hl⟩ := cell_key x hx
  obtain ⟨es, clock, hb, h⟩ := h.find x hx
  have hc := cellLaw.check w es.isEmpty hl
  rcases h with ⟨h1, h2, _⟩ | ⟨j, e, n, h1, _, _, h2⟩
  · simp [Instr.lookup, run_underlying ht, MapKept.run_getObj_map hb, hc, h1, Result.andThen, hz, h2]
  · simp [Instr.lookup, run_underlying ht, MapKept.run_getObj_map hb, hc, h1, Result.andThen, h2]
theorem MapC.look2 (h : MapC w g f) (ht : Try.prog.underlying T = some (.map 36 E)) (hz : (zeroValue E).run Try.prog w = .ok (.int .i64 0) w) (x : Cell) (hx : x.ok) :
    (Instr.lookup T (.map (some g)) x.v true).run Try.prog w = .ok (.tuple #[.int .i64 ((f x).getD 0), .bool (f x).isSome]) w := by
  obtain ⟨l, hl⟩ := cell_key x hx
  obtain ⟨es, clock, hb, h⟩ := h.find x hx
  have hc := cellLaw.check w es.isEmpty hl
  rcases h with ⟨h1, h2, _⟩ | ⟨j, e, n, h1, _, _, h2⟩
  · simp [Instr.lookup, run_underlying ht, MapKept.run_getObj_map hb, hc, h1, Result.andThen, hz, h2]
  · simp [Instr.lookup, run_underlying ht, MapKept.run_getObj_map hb, hc, h1, Result.andThen, h2]
def putC (f : Cell → Option Int) (x : Cell) (n : Int) : Cell → Option Int := fun y => if y = x then some n else f y
theorem MapC.store (h : MapC w g f) (ht : Try.prog.underlying T = some (.map 36 E)) (x : Cell) (hx : x.ok) (n : Int) :
    ∃ w', (Instr.mapUpdate T (.map (some g)) x.v (.int .i64 n)).run Try.prog w = .ok () w' ∧ MapC w' g (putC f x n) ∧ w.grownBy w' (some g) := by
  obtain ⟨l, hl⟩ := cell_key x hx
  have h0 := h
  obtain ⟨es, clock, hb, hfd⟩ := h.find x hx
  obtain ⟨es', clock', hb', hst, hall, hf⟩ := h0
  obtain ⟨rfl, rfl⟩ : es = es' ∧ clock = clock' := by
    rw [hb] at hb'
    injection hb' with e
    injection e with e1 e2
    exact ⟨e1, e2⟩
  have hc := cellLaw.check w false hl
  have hset := fun o' => MapKept.heap_set (o' := o') hb
  have hgr : ∀ o', w.grownBy { w with heap := w.heap.setIfInBounds g o' } (some g) := fun o' => ⟨rfl, rfl, rfl, by simp, fun k hk hne => (hset o').2 k (fun e => hne (by rw [e]))⟩
  rcases hfd with ⟨h1, h2, h3⟩ | ⟨j, e, m, h1, h2, h3, h4⟩
  · refine ⟨{ w with heap := w.heap.setIfInBounds g (.map (es.push { key := x.v, val := .int .i64 n, born := clock }) (clock + 1)) }, by simp [Instr.mapUpdate, run_underlying ht, MapKept.run_getObj_map hb, hc, h1, MapKept.run_setObj_map _ hb, Result.andThen], ?_, hgr _⟩
    refine ⟨_, _, (hset _).1, MapKept.stamped_push hst h3, ?_, ?_⟩
    · intro e' he'
      simp only [Array.toList_push, List.mem_append, List.mem_singleton] at he'
      rcases he' with h | rfl
      · obtain ⟨c, k, hk, hok, hv, hfc⟩ := hall e' h
        refine ⟨c, k, hk, hok, hv, ?_⟩
        have : c ≠ x := fun e => h3 e' h (by rw [hk, e])
        simp [putC, this, hfc]
      · exact ⟨x, n, rfl, hx, rfl, by simp [putC]⟩
    · intro c k hck
      simp only [Array.toList_push, List.mem_append, List.mem_singleton]
      by_cases hcx : c = x
      · exact ⟨_, .inr rfl, by rw [hcx]⟩
      · simp only [putC, if_neg hcx] at hck
        obtain ⟨e', he', hk⟩ := hf c k hck
        exact ⟨e', .inl he', hk⟩
  · have hstay : (Instr.keyThatStays (((es[j]?).map (·.key)).getD x.v) x.v).run Try.prog w = .ok x.v w := by
      rw [h2]
      simp only [Option.map_some, Option.getD_some, h3]
      exact cellLaw.stays w hl
    have hje : es.toList[j]? = some e := by simpa using h2
    refine ⟨{ w with heap := w.heap.setIfInBounds g (.map (es.modify j fun e => { e with key := x.v, val := .int .i64 n }) clock) }, by simp [Instr.mapUpdate, run_underlying ht, MapKept.run_getObj_map hb, hc, h1, hstay, MapKept.run_setObj_map _ hb, Result.andThen], ?_, hgr _⟩
    have hmod : ∀ i, (es.modify j fun e => { e with key := x.v, val := .int .i64 n }).toList[i]? = (es.toList[i]?).map fun e => if i = j then { e with key := x.v, val := .int .i64 n } else e := by
      intro i
      simp only [Array.getElem?_toList, Array.getElem?_modify]
      by_cases hij : j = i
      · subst hij; simp
      · have : ¬ i = j := fun e => hij e.symm
        simp [hij, this]
    have hinj : ∀ (i i' : Nat) (e1 e2 : MapEntry), es.toList[i]? = some e1 → es.toList[i']? = some e2 → e1.key = e2.key → i = i' := by
      intro i i' e1 e2 ha hb hk
      have hnd := hst.2.2
      obtain ⟨hi, rfl⟩ := List.getElem?_eq_some_iff.1 ha
      obtain ⟨hi', rfl⟩ := List.getElem?_eq_some_iff.1 hb
      have hp := List.pairwise_iff_getElem.1 ((MapKept.stamped_iff es clock).1 hst).2.2
      rcases Nat.lt_trichotomy i i' with h | h | h
      · exact absurd hk (hp i i' hi hi' h)
      · exact h
      · exact absurd hk.symm (hp i' i hi' hi h)
    refine ⟨_, _, (hset _).1, MapKept.stamped_modify hst _ _ (fun _ _ => rfl) (fun e' _ he' => by rw [h2] at he'; injection he' with he'; subst he'; exact h3.symm), ?_, ?_⟩
    · intro e' he'
      obtain ⟨i, hi⟩ := List.getElem?_of_mem he'
      rw [hmod] at hi
      obtain ⟨e0, he0, rfl⟩ := Option.map_eq_some_iff.1 hi
      by_cases hij : i = j
      · rw [if_pos hij]
        exact ⟨x, n, rfl, hx, rfl, by simp [putC]⟩
      · rw [if_neg hij]
        obtain ⟨c, k, hk, hok, hv, hfc⟩ := hall e0 (List.mem_of_getElem? he0)
        refine ⟨c, k, hk, hok, hv, ?_⟩
        have : c ≠ x := fun e1 => hij (hinj i j e0 e he0 hje (by rw [hk, h3, e1]))
        simp [putC, this, hfc]
    · intro c k hck
      by_cases hcx : c = x
      · refine ⟨{ e with key := x.v, val := .int .i64 n }, List.mem_of_getElem? (i := j) (by rw [hmod, hje]; simp), by rw [hcx]⟩
      · simp only [putC, if_neg hcx] at hck
        obtain ⟨e0, he0, hk⟩ := hf c k hck
        obtain ⟨i, hi⟩ := List.getElem?_of_mem he0
        have hij : ¬ i = j := fun e1 => by
          subst e1
          rw [hje] at hi
          injection hi with hi
          subst hi
          rw [h3] at hk
          exact hcx (Cell.v_inj hk).symm
        exact ⟨e0, List.mem_of_getElem? (i := i) (by rw [hmod, hi]; simp [hij]), hk⟩
end
/-- At the operation. -/
theorem put_mapC {ops : Array Oper} {rest : List Oper} {o : Oper} {a : Act} {Q : Exit → Act → World → Prop} {w : World} (hg : o.guard = none) (m x v : Operand) (T E : TypeId) (hop : o.op = Op.mapUpdate T m x v)
    (ht : Try.prog.underlying T = some (.map 36 E)) (g : Nat) (f : Cell → Option Int) (hm : a.eval m = .map (some g)) (h : MapC w g f) (c : Cell) (hc : c.ok) (n : Int) (hx : a.eval x = c.v) (hv : a.eval v = .int .i64 n)
    (hK : ∀ w', MapC w' g (putC f c n) → w.grownBy w' (some g) → wpList Try.prog ops Q rest (a.put o.dst undef) w') : wpList Try.prog ops Q (o :: rest) a w := by
  refine wpList_plain hg fun K' hK' => ?_
  obtain ⟨w', hrun, r1, r2⟩ := h.store ht c hc n
  unfold Oper.wp
  simp [execOp, hop, hm, hx, hv, hrun, Result.andThen]
  exact hK' _ _ (hK w' r1 r2)
/-! ### A range over such a map -/
theorem nodup_map_inj {α β : Type} (f : α → β) : ∀ {l : List α}, (l.map f).Nodup → ∀ {x y : α}, x ∈ l → y ∈ l → f x = f y → x = y
  | [], _, _, _, hx, _, _ => by simp at hx
  | a :: r, hn, x, y, hx, hy, h => by
    rw [List.map_cons, List.nodup_cons] at hn
    rcases List.mem_cons.1 hx with ex | hx'
    · rcases List.mem_cons.1 hy with ey | hy'
      · rw [ex, ey]
      · exact absurd (List.mem_map.2 ⟨y, hy', by rw [← h, ex]⟩) hn.1
    · rcases List.mem_cons.1 hy with ey | hy'
      · exact absurd (List.mem_map.2 ⟨x, hx', by rw [h, ey]⟩) hn.1
      · exact nodup_map_inj f hn.2 hx' hy' h
/-- Block r is a range under way over map g; 'left' tells which keys are still to come, k how many there are at most. -/
def RangeC (w : World) (g r : Nat) (f : Cell → Option Int) (left : Cell → Bool) (k : Nat) : Prop :=
  ∃ es clock since seen c0, w.heap[g]? = some (.map es clock) ∧ MapKept.Stamped es clock ∧ (∀ e ∈ es.toList, ∃ (c : Cell) (n : Int), e.key = c.v ∧ c.ok ∧ e.val = .int .i64 n ∧ f c = some n ∧ left c = !seen.contains e.born) ∧ (∀ c n, f c = some n → ∃ e ∈ es.toList, e.key = c.v) ∧
    w.heap[r]? = some (.mapIter (some g) since seen c0) ∧ (∀ x ∈ es.toList, x.born < since) ∧ since ≤ c0 ∧ since ≤ clock ∧ (leftOf es seen).size = k
theorem RangeC.begin {w : World} {g : Nat} {f : Cell → Option Int} (h : MapC w g f) {T E : TypeId} (ht : Try.prog.underlying T = some (.map 36 E)) :
    ∃ w' k, (Instr.range T (.map (some g))).run Try.prog w = .ok (.pointer (some ⟨w.heap.size, 0, none⟩)) w' ∧ RangeC w' g w.heap.size f (fun c => (f c).isSome) k ∧ Below w.heap.size w w' ∧ w'.heap.size = w.heap.size + 1 := by
  have hlt := h.lt
  obtain ⟨es, clock, hb, hst, hall, hf⟩ := h
  refine ⟨_, _, run_range_map w T 36 E g es clock ht hb, ⟨es, clock, clock, #[], clock, ((MapKept.heap_alloc w _).2 g hlt).trans hb, hst, ?_, hf, (MapKept.heap_alloc w _).1, hst.1, Nat.le_refl _, Nat.le_refl _, rfl⟩, (Below.refl _ _).alloc (Nat.le_refl _) _, by simp⟩
  intro e he
  obtain ⟨c, n, h1, h2, h3, h4⟩ := hall e he
  exact ⟨c, n, h1, h2, h3, h4, by simp [h4]⟩
theorem RangeC.keep {w w' : World} {g r : Nat} {f : Cell → Option Int} {left : Cell → Bool} {k : Nat} (h : RangeC w g r f left k) (h1 : w'.heap[g]? = w.heap[g]?) (h2 : w'.heap[r]? = w.heap[r]?) : RangeC w' g r f left k := by
  obtain ⟨es, clock, since, seen, c0, a1, a2, a3, a4, a5, a6⟩ := h
  exact ⟨es, clock, since, seen, c0, h1.trans a1, a2, a3, a4, h2.trans a5, a6⟩
theorem RangeC.lt {w : World} {g r : Nat} {f : Cell → Option Int} {left : Cell → Bool} {k : Nat} (h : RangeC w g r f left k) : g < w.heap.size ∧ r < w.heap.size ∧ r ≠ g := by
  obtain ⟨es, clock, since, seen, c0, a1, a2, a3, a4, a5, a6⟩ := h
  refine ⟨(Array.getElem?_eq_some_iff.1 a1).1, (Array.getElem?_eq_some_iff.1 a5).1, ?_⟩
  rintro rfl
  rw [a1] at a5
  cases a5
theorem RangeC.next {w : World} {g r : Nat} {f : Cell → Option Int} {left : Cell → Bool} {k : Nat} (h : RangeC w g r f left k) (ty : TypeId) :
    ((∀ c n, f c = some n → left c = false) ∧ (Instr.next (.pointer (some ⟨r, 0, none⟩)) false ty).run Try.prog w = .ok (.tuple #[.bool false]) w) ∨
    ∃ (c : Cell) (n : Int) (w' : World) (k' : Nat), f c = some n ∧ c.ok ∧ left c = true ∧ (Instr.next (.pointer (some ⟨r, 0, none⟩)) false ty).run Try.prog w = .ok (.tuple #[.bool true, c.v, .int .i64 n]) w' ∧ RangeC w' g r f (fun x => left x && !decide (x = c)) k' ∧ k' < k ∧
      w.grownBy w' (some r) ∧ w'.heap.size = w.heap.size ∧ (Instr.entry (.pointer (some ⟨r, 0, none⟩))).run Try.prog w' = .ok (.tuple #[c.v, .int .i64 n]) w' := by
  have hne := h.lt.2.2
  obtain ⟨es, clock, since, seen, c0, hb, hst, hall, hf, hr, hold, hsc, hsk, rfl⟩ := h
  rcases run_next_at (P := Try.prog) w ty r g since c0 seen es clock hr hb hold hsc with ⟨h0, hrun⟩ | ⟨e, he, w1, hal, hrun⟩
  · refine .inl ⟨fun c n hcn => ?_, hrun⟩
    obtain ⟨e, he, hk⟩ := hf c n hcn
    obtain ⟨c', n', hk', _, _, _, hl⟩ := hall e he
    rw [hk] at hk'
    obtain rfl := Cell.v_inj hk'
    rw [hl]
    have hemp : leftOf es seen = #[] := Array.eq_empty_of_size_eq_zero h0
    unfold leftOf at hemp
    rw [Array.filter_eq_empty_iff] at hemp
    have := hemp e (by simpa using he)
    simpa using this
  · have hem : e ∈ es.toList ∧ seen.contains e.born = false := by
      unfold leftOf at he
      simp at he
      exact ⟨by simpa using he.1, by simpa using he.2⟩
    obtain ⟨c, n, hk, hok, hv, hfc, hl⟩ := hall e hem.1
    have hr1 : w1.heap[r]? = some (.mapIter (some g) since seen c0) := by rcases hal with rfl | rfl <;> exact hr
    have hb1 : w1.heap[g]? = some (.map es clock) := by rcases hal with rfl | rfl <;> exact hb
    have hset := MapKept.heap_set (o' := .mapIter (some g) since (seen.push e.born) clock) hr1
    have hb' : (setBlock w1 r (.mapIter (some g) since (seen.push e.born) clock)).heap[g]? = some (.map es clock) := (hset.2 g (fun e1 => hne e1.symm)).trans hb1
    rw [hk, hv] at hrun
    refine .inr ⟨c, n, _, _, hfc, hok, by rw [hl, hem.2]; rfl, hrun, ⟨es, clock, since, seen.push e.born, clock, hb', hst, ?_, hf, hset.1, hold, hsk, hsk, rfl⟩, ?_, ?_, ?_, ?_⟩
    · intro e' he'
      obtain ⟨c', n', hk', hok', hv', hfc', hl'⟩ := hall e' he'
      refine ⟨c', n', hk', hok', hv', hfc', ?_⟩
      show (left c' && !decide (c' = c)) = _
      rw [hl']
      by_cases hce : c' = c
      · subst hce
        have hee : e' = e := nodup_map_inj (·.key) hst.2.2 he' hem.1 (by rw [hk, hk'])
        subst hee
        simp
      · have hbe : e'.born ≠ e.born := fun hb2 => by
          have : e' = e := born_inj hst.2.1 he' hem.1 hb2
          subst this
          rw [hk] at hk'
          exact hce (Cell.v_inj hk').symm
        simp [hce, hbe]
    · exact left_shrinks es seen e he
    · refine ⟨?_, ?_, ?_, ?_, fun k hk hne' => ?_⟩
      · rcases hal with rfl | rfl <;> rfl
      · rcases hal with rfl | rfl <;> rfl
      · rcases hal with rfl | rfl <;> rfl
      · rcases hal with rfl | rfl <;> simp [setBlock]
      · refine (hset.2 k (fun e1 => hne' (by rw [e1]))).trans ?_
        rcases hal with rfl | rfl <;> rfl
    · rcases hal with rfl | rfl <;> simp [setBlock]
    · have := run_entry_at (P := Try.prog) _ r g since seen es clock e hset.1 hb' hem.1 hst.2.1
      rw [hk, hv] at this
      exact this
end Go.Proofs.Yteflpdfajfljfaa
