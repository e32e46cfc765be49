/-
Own rows of numbers: append a whole list; own copies. Conditions: the row is the call's own; the list can be read.
-/
import Derived.Test.YtkkkgpeilpfddaaApp
import Derived.Laws.Cover3
set_option linter.unusedVariables false
set_option linter.unusedSimpArgs false
set_option maxRecDepth 100000
namespace Go.Proofs.Ytkkkgpeilpfddaa
open Go.RowKit
theorem flat_i64 (ys : List Int) : ys.flatMap i64c = ys.map (Value.int .i64) := by
  induction ys with
  | nil => rfl
  | cons y ys ih => rw [List.flatMap_cons, ih]; rfl
theorem push_i64s {ops : Array Oper} {rest : List Oper} {o : Oper} {a : Act} {Q : Exit → Act → World → Prop} {W : World} (hgd : o.guard = none) (s x : Operand)
    (ho : o.op = .call { callee := .builtin .append, args := #[s, x], argTypes := #[24, 24] }) (B : Nat) (xs ys : List Int) (v : Value) (hs : a.eval s = v)
    (hown : Own W B 2 i64c 1 v xs) (ad : Addr) (cap : Nat) (hx : a.eval x = .slice (some ad) ys.length cap) (hc : Sl W W.heap.size i64c 1 (.slice (some ad) ys.length cap) ys) (hn : xs.length ≤ 1000000) (hm : ys.length ≤ 1000000) (hB : B ≤ W.heap.size)
    (h : ∀ v' w', Own w' B 2 i64c 1 v' (xs ++ ys) → W.grownBy w' v.ownBlock → (v' = .slice none 0 0 ↔ v = .slice none 0 0 ∧ ys.length = 0) → wpList Try.prog ops Q rest (a.put o.dst v') w') :
    wpList Try.prog ops Q (o :: rest) a W := by
  obtain ⟨i, hi, hz⟩ := Option.map_eq_some_iff.1 (show (Try.prog.info? 2).map (fun i => (i.zero, i.size, i.bytes)) = some (some (.int .i64 0), 1, 8) from by kernel_rfl)
  simp only [Prod.mk.injEq] at hz
  obtain ⟨hz0, hz1, hz2⟩ := hz
  refine wpList_append_own W hgd s x 24 ho B 2 i (.int .i64 0) 1 8 Try.underlying24 hi hz0 hz1 hz2 rfl (by omega) v xs.length _ hs hown.out ad ys.length cap (ys.flatMap i64c) hx (by rw [flat_i64]; simp) ?_ ?_ (by unfold maxLen; omega) (by omega) hB ?_
  · intro j u hj
    rw [flat_i64, List.getElem?_map] at hj
    obtain ⟨y, hy, rfl⟩ := Option.map_eq_some_iff.1 hj
    obtain ⟨A, cap', hv, _, _, hcc⟩ := hc.out
    have hjl : j < ys.length := (List.getElem?_eq_some_iff.1 hy).1
    obtain ⟨b, o', hA, _, hcell⟩ := hcc (by omega)
    have : ad = ⟨b, o', none⟩ := by
      injection hv with e1
      rw [hA] at e1
      injection e1
    subst this
    have := hcell j y hy 0 _ rfl
    by_cases hj0 : j = 0
    · subst hj0; simpa [Addr.add] using this
    · simpa [Addr.add, hj0] using this
  · intro u hu
    rw [flat_i64, List.mem_map] at hu
    obtain ⟨y, _, rfl⟩ := hu
    rfl
  · intro v' w' ho' hg hnil
    exact h v' w' ⟨by rw [List.length_append, List.flatMap_append]; exact ho'⟩ hg hnil
def RetOwnS {α : Type} (w : World) (E : TypeId) (c : α → List Value) (sz : Nat) (xs : List α) (e : Ending) (w' : World) : Prop :=
  ∃ g cap, e = .returned (.slice (some ⟨g, 0, none⟩) xs.length cap) ∧ Own w' w.heap.size E c sz (.slice (some ⟨g, 0, none⟩) xs.length cap) xs ∧ Below w.heap.size w w'
theorem Own.nonnil {α : Type} {w : World} {B E sz : Nat} {c : α → List Value} {v : Value} {xs : List α} (h : Own w B E c sz v xs) (hv : v ≠ .slice none 0 0) : ∃ g cap, v = .slice (some ⟨g, 0, none⟩) xs.length cap := by
  rcases h.out.2 with ⟨rfl, _⟩ | ⟨g, cap, cur, rfl, _⟩
  · exact absurd rfl hv
  · exact ⟨g, cap, rfl⟩
theorem l00Own_calls (xs : List Int) (ad : Addr) (cap : Nat) (w : World) (hs : Sl w w.heap.size i64c 1 (.slice (some ad) xs.length cap) xs) (hn : xs.length ≤ 1000000) :
    Calls Try.prog 84 #[.slice (some ad) xs.length cap] w (RetOwnS w 2 i64c 1 xs) := by
  have HS := Lib.hid hs
  have hO := Lib.hid (Own.empty (α := Int) (c := i64c) (sz := 1) (E := 2) w w.heap.size w.heap.size rfl (Nat.le_refl _))
  go_enter Try.func84, Try.ntmps84
  go_wp2_with (at_builtin; refine push_i64s rfl _ _ rfl w.heap.size [] xs _ rfl hO.out ad cap rfl (HS.out.alloc _) (by simp) hn (by simp) ?_)
  intro v' w' hO2 hG hnil
  obtain ⟨g, cap', rfl⟩ := hO2.nonnil (by first | exact hnil | (intro h; have := hnil.1 h; simp at this))
  go_wp2_with fail
  go_ret
  exact ⟨g, cap', rfl, hO2, ((Below.refl _ _).alloc (Nat.le_refl _) _).grown hG (by simp) (fun j hj => by simp [Value.ownBlock] at hj; omega)⟩
theorem eql_nil (t e : TypeId) (a : Option Addr) (l c : Nat) (h : Try.prog.underlying t = some (.slice e)) (W : World) : (binOp .eql t (.slice a l c) (.slice none 0 0)).run Try.prog W = .ok (.bool a.isNone) W := by
  have h2 := run_equal_slice_nil (P := Try.prog) W t e a l c h
  simp [binOp, h2, go_sem]
theorem clone_calls (xs : List Int) (ad : Addr) (cap : Nat) (w : World) (hs : Sl w w.heap.size i64c 1 (.slice (some ad) xs.length cap) xs) (hn : xs.length ≤ 1000000) :
    Calls Try.prog 92 #[.slice (some ad) xs.length cap] w (RetOwnS w 2 i64c 1 xs) := by
  have HS := Lib.hid hs
  have hO := Lib.hid (Own.empty (α := Int) (c := i64c) (sz := 1) (E := 2) w w.heap.size w.heap.size rfl (Nat.le_refl _))
  have he := fun W => eql_nil 24 2 (some ad) xs.length cap Try.underlying24 W
  simp only [Option.isNone_some] at he
  go_enter Try.func92, Try.ntmps92
  go_wp2_with (at_builtin; refine push_i64s rfl _ _ rfl w.heap.size [] xs _ rfl hO.out ad cap rfl (HS.out.alloc _) (by simp) hn (by simp) ?_)
  intro v' w' hO2 hG hnil
  obtain ⟨g, cap', rfl⟩ := hO2.nonnil (by first | exact hnil | (intro h; have := hnil.1 h; simp at this))
  go_wp2_with fail
  go_ret
  exact ⟨g, cap', rfl, hO2, ((Below.refl _ _).alloc (Nat.le_refl _) _).grown hG (by simp) (fun j hj => by simp [Value.ownBlock] at hj; omega)⟩
theorem clone_nil (w : World) : Calls Try.prog 92 #[.slice none 0 0] w fun e w' => e = .returned (.slice none 0 0) ∧ w = w' := by
  have he := fun W => eql_nil 24 2 none 0 0 Try.underlying24 W
  simp only [Option.isNone_none] at he
  go_enter Try.func92, Try.ntmps92
  go_wp2_with fail
  go_ret
  exact ⟨rfl, rfl⟩
end Go.Proofs.Ytkkkgpeilpfddaa
