/-
Levels of the program: what is plain, and what is called. Conditions: the ground is valid and has gullies.
-/
import Derived.Test.YtipcmakidifelaaGS1
import Derived.Test.YtipcmakidifelaaMPC
set_option linter.unusedVariables false
set_option linter.unusedSimpArgs false
set_option maxRecDepth 100000
namespace Go.Proofs.Ytipcmakidifelaa
open Go.RowKit
theorem ext_at {a w w1 w2 : World} (k : Below w1.heap.size w1 w2) (h : Below a.heap.size a w) (he : w1.heap = w.heap) (h1 : w1.os = w.os) (h2 : w1.tape = w.tape) (h3 : w1.output = w.output) : Below a.heap.size a w2 := ext_trans (below_at h he h1 h2 h3) k
theorem Bk.ext_at {w w1 w2 : World} {g : Nat} {T : TypeId} {cs : Array Value} (k : Below w1.heap.size w1 w2) (h : Bk w g T cs) (he : w1.heap = w.heap) : Bk w2 g T cs := Bk.ext (show Bk w1 g T cs from by unfold Bk at *; rw [he]; exact h) k
theorem MapC.at_ {w w' : World} {g : Nat} {f : Cell → Option Int} (h : MapC w g f) (he : w'.heap = w.heap) : MapC w' g f := h.keep (by rw [he])
theorem Bk.grownM {w w' : World} {g m : Nat} {T : TypeId} {cs : Array Value} (h : Bk w g T cs) (hG : w.grownBy w' (some m)) (hne : g ≠ m) : Bk w' g T cs := (hG.block g h.lt (fun e => by injection e with e; exact hne e)).trans h
theorem Own.grownM {α : Type} {w w' : World} {B m : Nat} {E : TypeId} {c : α → List Value} {sz : Nat} {v : Value} {xs : List α} (h : Own w B E c sz v xs) (hG : w.grownBy w' (some m)) (hm : m < B) : Own w' B E c sz v xs := h.keep (fun k hk => hG.block k (h.lt k hk) (fun e => by injection e with e; have := h.base k hk; omega))
theorem putC_eq (f : Cell → Option Int) (c : Cell) (n : Int) : putC f c n = fun y => if y = c then some n else f y := rfl
/-! ### The gullies come first -/
def gulM (hs : List Int) (gl : List Cell) (k : Nat) : Cell → Option Int := fun c => if c ∈ gl.take k then some (htL hs c) else none
theorem gulM_zero (hs : List Int) (gl : List Cell) : gulM hs gl 0 = fun _ => none := by funext c; simp [gulM]
theorem gulM_succ (hs : List Int) (gl : List Cell) (k : Nat) (hk : k < gl.length) : putC (gulM hs gl k) gl[k] (htL hs gl[k]) = gulM hs gl (k + 1) := by
  funext c
  unfold putC gulM
  have e0 : ∀ x : Cell, x ∈ gl.take (k + 1) ↔ x ∈ gl.take k ∨ x = gl[k] := fun x => by rw [List.take_succ_eq_append_getElem hk, List.mem_append, List.mem_singleton]
  simp only [e0]
  by_cases e : c = gl[k]
  · subst e
    simp
  · simp [e]
theorem gulM_fin {w h : Int} {hs : List Int} {gl : List Cell} (ok : GOk w h hs gl) : MapI w h hs gl (gulM hs gl gl.length) := by
  refine ⟨fun c n hc => ?_, fun g hg => ⟨htL hs g, by simp [gulM, hg], Int.le_refl _⟩⟩
  unfold gulM at hc
  rw [List.take_length] at hc
  split at hc
  · rename_i hm
    injection hc with hc
    subst hc
    exact Att.gully c hm
  · cases hc
/-! ### A pass over the points -/
def closM (w h : Int) (hs : List Int) (M : Cell → Option Int) (a : Cell) : Prop := ∀ n, M a = some n → ∀ c ∈ aroundL w h a, ∃ m, M c = some m ∧ m ≤ max n (htL hs c)
structure M3 (w h : Int) (hs : List Int) (gl : List Cell) (M0 : Cell → Option Int) (xs : List Cell) (k : Nat) (ch : Bool) (M : Cell → Option Int) : Prop where
  tab : MapI w h hs gl M
  no : ch = false → M = M0 ∧ ∀ i (hi : i < xs.length), i < k → closM w h hs M xs[i]
  yes : ch = true → potM M < potM M0
structure M4 (w h : Int) (hs : List Int) (gl : List Cell) (M0 : Cell → Option Int) (xs : List Cell) (k : Nat) (a : Cell) (n : Int) (ys : List Cell) (j : Nat) (ch : Bool) (M : Cell → Option Int) : Prop where
  tab : MapI w h hs gl M
  no : ch = false → M = M0 ∧ (∀ i (hi : i < xs.length), i < k → closM w h hs M xs[i]) ∧ M a = some n ∧ ∀ i (hi : i < ys.length), i < j → ∃ m, M ys[i] = some m ∧ m ≤ max n (htL hs ys[i])
  yes : ch = true → potM M < potM M0
section
variable {w h : Int} {hs : List Int} {gl xs ys : List Cell} {M0 M : Cell → Option Int} {k j : Nat} {ch : Bool} {a c : Cell} {n m : Int}
theorem M3.zero (t : MapI w h hs gl M) : M3 w h hs gl M xs 0 false M := ⟨t, fun _ => ⟨rfl, fun i _ h => by omega⟩, fun h => by cases h⟩
theorem M3.skip (q : M3 w h hs gl M0 xs k ch M) (hk : k < xs.length) (hm : M xs[k] = none) : M3 w h hs gl M0 xs (k + 1) ch M := by
  refine ⟨q.tab, fun h => ⟨(q.no h).1, fun i hi h2 => ?_⟩, q.yes⟩
  by_cases e : i = k
  · subst e
    intro n hn
    rw [hm] at hn
    cases hn
  · exact (q.no h).2 i hi (by omega)
theorem M4.zero (q : M3 w h hs gl M0 xs k ch M) (hm : M a = some n) : M4 w h hs gl M0 xs k a n ys 0 ch M := ⟨q.tab, fun h => ⟨(q.no h).1, (q.no h).2, hm, fun i _ h => by omega⟩, q.yes⟩
theorem M4.keep (q : M4 w h hs gl M0 xs k a n ys j ch M) (hj : j < ys.length) (hm : M ys[j] = some m) (hle : ¬ max n (htL hs ys[j]) < m) : M4 w h hs gl M0 xs k a n ys (j + 1) ch M := by
  refine ⟨q.tab, fun h => ⟨(q.no h).1, (q.no h).2.1, (q.no h).2.2.1, fun i hi h2 => ?_⟩, q.yes⟩
  by_cases e : i = j
  · subst e
    exact ⟨m, hm, by omega⟩
  · exact (q.no h).2.2.2 i hi (by omega)
theorem M4.put (ok : GOk w h hs gl) (q : M4 w h hs gl M0 xs k a n ys j ch M) (ha : Att w h hs gl a n) (hc : c ∈ aroundL w h a) (hlt : ∀ now, M c = some now → max n (htL hs c) < now) : M4 w h hs gl M0 xs k a n ys (j + 1) true (putC M c (max n (htL hs c))) := by
  obtain ⟨t, hp⟩ := q.tab.put ok ha hc hlt _ rfl
  refine ⟨t, fun h => (by cases h), fun _ => ?_⟩
  rw [putC_eq]
  cases ch with
  | false => rw [← (q.no rfl).1]; exact hp
  | true => exact Nat.lt_trans hp (q.yes rfl)
theorem M4.fin (hk : k < xs.length) (e : xs[k] = a) (q : M4 w h hs gl M0 xs k a n (aroundL w h a) (aroundL w h a).length ch M) : M3 w h hs gl M0 xs (k + 1) ch M := by
  refine ⟨q.tab, fun h => ⟨(q.no h).1, fun i hi h2 => ?_⟩, q.yes⟩
  by_cases e2 : i = k
  · subst e2
    rw [e]
    intro n' hn' c hc
    rw [(q.no h).2.2.1] at hn'
    injection hn' with hn'
    subst hn'
    obtain ⟨j, hj, rfl⟩ := List.getElem_of_mem hc
    exact (q.no h).2.2.2 j hj hj
  · exact (q.no h).2.1 i hi (by omega)
theorem M3.fin (q : M3 w h hs gl M0 xs xs.length ch M) : (ch = false → ∀ a ∈ xs, closM w h hs M a) ∧ 2 * potM M + (if ch then 1 else 0) ≤ 2 * potM M0 := by
  refine ⟨fun h a ha => ?_, ?_⟩
  · obtain ⟨i, hi, rfl⟩ := List.getElem_of_mem ha
    exact (q.no h).2 i hi hi
  · cases ch with
    | false => rw [(q.no rfl).1]; simp
    | true => have := q.yes rfl; simp; omega
end
/-- At a mapUpdate in a region that draws. -/
theorem step_mapC {ops : Array Oper} {o : Oper} {a : Act} {K' : Act → World → Prop} {Q : Exit → Act → World → Prop} {E' : Prop} {w : World} (hgd : o.guard = none) (m x v : Operand) (T E : TypeId) (hop : o.op = Op.mapUpdate T m x v)
    (ht : Try.prog.underlying T = some (.map 38 E)) (g : Nat) (f : Cell → Option Int) (hm : a.eval m = .map (some g)) (h : MapC w g f) (c : Cell) (hc : c.ok) (n : Int) (hx : a.eval x = c.v) (hv : a.eval v = .int .i64 n)
    (hK : ∀ w', MapC w' g (putC f c n) → w.grownBy w' (some g) → K' (a.put o.dst undef) w') : if Region.wanted o (yielded ops a.tmps) = true then Oper.wp Try.prog o a w K' Q else E' := by
  have hw : Region.wanted o (yielded ops a.tmps) = true := by simp [Region.wanted, hgd]
  rw [if_pos hw]
  obtain ⟨w', hrun, r1, r2⟩ := h.store ht c hc n
  unfold Oper.wp
  simp [execOp, hop, hm, hx, hv, hrun, Result.andThen]
  exact hK w' r1 r2
theorem spread1_calls (c : Cell) (W : World) : Calls Try.prog 87 #[.agg #[.int .i8 c.x, .int .i8 c.y]] W fun e w' => e = .returned (.bool true) ∧ Below W.heap.size W w' := by
  have HB := Lib.hid ((Below.refl W.heap.size W).alloc (Nat.le_refl _) (.cells #[.int .i8 c.x, .int .i8 c.y] 38))
  go_enter Try.func87, Try.ntmps87
  go_wp2_with fail
  go_ret
  exact ⟨rfl, HB.out⟩
theorem levels1_calls {w h : Int} {hs : List Int} {gl : List Cell} (ok : GOk w h hs gl) (hl : hs.length = 81) (z : Value) (g : Nat) (T : TypeId) (n : Int) (c : Cell) (hc : gpB w h c = true) (W : World) (hg : Bk W g T (gdA w h hs z)) :
    Calls Try.prog 76 #[.int .i64 n, .agg #[.int .i8 c.x, .int .i8 c.y], .pointer (some ⟨g, 0, none⟩)] W fun e w' => e = .returned (.int .i64 (max n (htL hs c))) ∧ Below W.heap.size W w' := by
  have hB := (Below.refl W.heap.size W).alloc (Nat.le_refl _) (.cells #[.int .i8 c.x, .int .i8 c.y] 38)
  have HB := Lib.hid hB
  have KG := Lib.hid (hg.alloc (.cells #[.int .i8 c.x, .int .i8 c.y] 38))
  have ldg := load_gd hl KG.out
  have qh := Lib.hid (fun W' => heightP_calls ok hl z c hc W')
  have hE := Lib.hid (show max n (htL hs c) = _ from Int.max_def n (htL hs c))
  clear hB hg
  generalize htL hs c = m at *
  go_enter Try.func76, Try.ntmps76
  go_wp2_with (refine wpList_load_w rfl 36 (.tmp 2) rfl _ rfl _ ldg ?_)
  refine (qh.out _).mono ?_
  rintro e w1 ⟨rfl, hb1⟩
  have HB1 := Lib.hid (ext_trans HB.out hb1)
  clear hb1
  go_wp2_with fail
  all_goals
    go_ret
    exact ⟨ret_int (by omega), HB1.out⟩
end Go.Proofs.Ytipcmakidifelaa
