/-
What reading a ground's text wants: small walks, and laws on a ground's block. Conditions: none beside what is said.
-/
import Derived.Test.YthlcmiediedcfaaDoorTX11
import Derived.Test.YthlcmiediedcfaaDoorTX5
import Derived.Test.YthlcmiediedcfaaDoorGL3
import Derived.Test.YthlcmiediedcfaaDoorGD4
import Derived.Test.YthlcmiediedcfaaDoorRDG2
set_option linter.unusedVariables false
set_option linter.unusedSimpArgs false
set_option maxRecDepth 100000
namespace Go.Proofs.YthlcmiediedcfaaDoor
open Go.RowKit
theorem exec_build {P : Program} {o : Oper} {a : Act} {W : World} {ty : TypeId} {parts : Array (Nat × Operand)} {ps : Array (Nat × Value)} {v : Value} (ho : o.op = .build ty parts) (h : (Instr.build ty ps).run P W = .ok v W) (hx : (parts.map fun (i, x) => (i, a.eval x)) = ps) :
    (execOp a.eval o).run P W = .ok (.value v) W := by
  unfold execOp
  simp only [ho, hx, Sem.run_bind, Sem.run_pure, Result.andThen_ok, h]
theorem wpList_build_w {P : Program} {ops : Array Oper} {rest : List Oper} {o : Oper} {a : Act} {w : World} {Q : Exit → Act → World → Prop} (hgd : o.guard = none) (ty : TypeId) (parts : Array (Nat × Operand)) (ho : o.op = .build ty parts) (ps : Array (Nat × Value)) (v : Value)
    (h : (Instr.build ty ps).run P w = .ok v w) (hx : (parts.map fun (i, x) => (i, a.eval x)) = ps) (hK : wpList P ops Q rest (a.put o.dst v) w) : wpList P ops Q (o :: rest) a w := by
  refine wpList_plain hgd fun K' hK' => ?_
  unfold Oper.wp
  rw [exec_build ho h hx]
  exact hK' _ _ hK
theorem build2G (w h : Int) (W : World) : (Instr.build 54 #[(0, .int .i8 w), (1, .int .i8 h)]).run Tryd.prog W = .ok (.agg (gdA w h z81 (.slice none 0 0))) W := by kernel_rfl
theorem Bk.grownM {w w' : World} {g m : Nat} {T : TypeId} {cs : Array Value} (h : Bk w g T cs) (hG : w.grownBy w' (some m)) (hne : g ≠ m) : Bk w' g T cs := (hG.block g h.lt (fun e => by injection e with e; exact hne e)).trans h
theorem Bk.grownW {w w' : World} {g : Nat} {T : TypeId} {cs : Array Value} {vb : Option Nat} (h : Bk w g T cs) (hG : w.grownBy w' vb) (hne : vb = some g → False) : Bk w' g T cs := (hG.block g h.lt (fun e => hne e.symm)).trans h
theorem Own.grownM {α : Type} {w w' : World} {B m : Nat} {E : TypeId} {c : α → List Value} {sz : Nat} {v : Value} {xs : List α} (h : Own w B E c sz v xs) (hG : w.grownBy w' (some m)) (hm : m < B) : Own w' B E c sz v xs := h.keep (fun k hk => hG.block k (h.lt k hk) (fun e => by injection e with e; have := h.base k hk; omega))
theorem Own.grownA {α : Type} {w w' : World} {B m : Nat} {E : TypeId} {c : α → List Value} {sz : Nat} {v : Value} {xs : List α} (h : Own w B E c sz v xs) (hG : w.grownBy w' (some m)) (hm : ∀ k, v.ownBlock = some k → k = m → False) : Own w' B E c sz v xs := h.keep (fun k hk => hG.block k (h.lt k hk) (fun e => by injection e with e; exact hm k hk e))
theorem cellret2 {P : Program} {fn : Func} {t s : Nat} {R : Ending → World → Prop} {a : Act} {W : World} {T : TypeId} (hr : fn.results = #[.cell t T, .tmp s]) {p : Nat} (hp : a.tmps.getD t undef = .pointer (some ⟨p, 0, none⟩)) {v : Value} (hs : a.tmps.getD s undef = v) {cs : Array Value}
    (hld : (loadVar T ⟨p, 0, none⟩).run P W = .ok (.agg cs) W) (hd : a.defers = []) (hR : R (.returned (.tuple #[.agg cs, v])) W) : bodyPost P fn R .ret a W := by
  refine bodyPost_ret (v := .tuple #[.agg cs, v]) ?_ hd hR
  have hp2 : a.tmps[t]?.getD undef = .pointer (some ⟨p, 0, none⟩) := by simpa using hp
  have hs2 : a.tmps[s]?.getD undef = v := by simpa using hs
  simp [results, hr, hp2, hs2, hld, asAddr, Sem.run_bind, Result.andThen]
theorem bk_cell1 {w : World} {g : Nat} {T : TypeId} {x : Cell} (h : Bk w g T #[.int .i8 x.x, .int .i8 x.y]) : Sl w w.heap.size Cell.c 2 (.slice (some ⟨g, 0, none⟩) 1 1) [x] := by
  refine ⟨_, 1, rfl, Nat.le_refl _, by simp, fun _ => ⟨g, 0, rfl, h.lt, fun i y hy j u hu => ?_⟩⟩
  match i, hy with
  | 0, hy =>
    simp at hy
    subst hy
    match j, hu with
    | 0, hu => simp [Cell.c] at hu; subst hu; exact h.cell 0 _ rfl
    | 1, hu => simp [Cell.c] at hu; subst hu; exact h.cell 1 _ rfl
    | j + 2, hu => simp [Cell.c] at hu
  | i + 1, hy => simp at hy
theorem gdA_seth (w h : Int) (L : List Int) (hl : L.length = 81) (z : Value) (a b : Nat) (ha : a < 9) (hb : b < 9) (n : Int) : (gdA w h L z).setIfInBounds (2 + b * 9 + a) (.int .i16 n) = gdA w h (L.set (b * 9 + a) n) z := by
  apply Array.ext'
  have e : 2 + b * 9 + a = (b * 9 + a) + 1 + 1 := by omega
  simp only [gdA, e, Array.toList_setIfInBounds, List.cons_append, List.nil_append, List.set_cons_succ]
  rw [List.set_append_left _ _ (by simp; omega), List.map_set]
structure GdX where
  gd : Gd
  code : Int
/-- What both return of a text. -/
def readG (l : List UInt8) : GdX := match readGF l with
  | some st => ⟨⟨(wideG l : Int), (highG l : Int), st.1, st.2⟩, 0⟩
  | none => ⟨⟨0, 0, z81, []⟩, 5⟩
def RetGX (W : World) (r : GdX) (e : Ending) (w' : World) : Prop := ∃ v, e = .returned (.tuple #[.agg (gdA r.gd.w r.gd.h r.gd.hs v), .int .i64 r.code]) ∧ Own w' W.heap.size 98 Cell.c 2 v r.gd.gl ∧ Below W.heap.size W w'
theorem readG_some {l : List UInt8} {st : St} (h : readGF l = some st) : readG l = ⟨⟨(wideG l : Int), (highG l : Int), st.1, st.2⟩, 0⟩ := by unfold readG; rw [h]
theorem readG_none {l : List UInt8} (h : readGF l = none) : readG l = ⟨⟨0, 0, z81, []⟩, 5⟩ := by unfold readG; rw [h]
theorem hasSuf_calls (l : List UInt8) (hl : l.length ≤ 2000000) (W : World) : Calls Tryd.prog 141 #[.string ⟨l.toArray⟩, .string ⟨#[103]⟩] W fun e w' => e = .returned (.bool (decide (l.getLast? = some 103))) ∧ w' = W := by
  have hs : (⟨l.toArray⟩ : ByteArray).size = l.length := by simp [ByteArray.size]
  have hs1 : (⟨#[103]⟩ : ByteArray).size = 1 := rfl
  by_cases h0 : l = []
  · subst h0
    go_enter Tryd.func141, Tryd.ntmps141
    go_wp2_with fail
    go_ret
    exact ⟨rfl, rfl⟩
  obtain ⟨ys, b, hyb⟩ : ∃ ys b, l = ys ++ [b] := ⟨l.dropLast, l.getLast h0, (List.dropLast_concat_getLast h0).symm⟩
  have hlen : l.length = ys.length + 1 := by rw [hyb]; simp
  have hsl : ∀ w, (Instr.slice 9 (.string ⟨l.toArray⟩) (some (.int .i64 ((l.length : Int) - 1))) none none).run Tryd.prog w = .ok (.string ⟨[b].toArray⟩) w := by
    have := run_sstr_l l ys.length [b] (by rw [hyb]; simp) (by omega)
    rw [show (ys.length : Int) = (l.length : Int) - 1 by omega] at this
    exact this
  have hp1 : 1 ≤ l.length := by omega
  clear hlen
  have hge : decide (1 ≤ (l.length : Int)) = true := by rw [decide_eq_true_eq]; omega
  have hge2 : decide (1 ≤ l.length) = true := by rw [decide_eq_true_eq]; omega
  have hgl : l.getLast? = some b := by rw [hyb]; simp
  rw [hgl]
  by_cases hb : b = 103
  · subst hb
    clear hyb hgl
    go_enter Tryd.func141, Tryd.ntmps141
    go_wp2_with fail
    go_ret
    exact ⟨by simp, rfl⟩
  · have hd : decide (some b = some (103 : UInt8)) = false := by simp [hb]
    have hq := bytes_beq [b] [103]
    have hq2 : ([b] == [103]) = false := by simp [hb]
    have hq3 : (b == 103) = false := by simp [hb]
    rw [hd]
    clear hyb hgl hd
    go_enter Tryd.func141, Tryd.ntmps141
    go_wp2_with fail
    go_ret
    exact ⟨rfl, rfl⟩
theorem cutSuf_calls (l : List UInt8) (hl : l.length ≤ 2000000) (W : World) : Calls Tryd.prog 78 #[.string ⟨l.toArray⟩, .string ⟨#[103]⟩] W fun e w' => e = .returned (.tuple #[.string ⟨(cutG l).1.toArray⟩, .bool (cutG l).2]) ∧ w' = W := by
  have q : Calls Tryd.prog 114 #[.string ⟨l.toArray⟩, .string ⟨#[103]⟩] W fun e w' => e = .returned (.tuple #[.string ⟨(cutG l).1.toArray⟩, .bool (cutG l).2]) ∧ w' = W := by
    have hs : (⟨l.toArray⟩ : ByteArray).size = l.length := by simp [ByteArray.size]
    have hs1 : (⟨#[103]⟩ : ByteArray).size = 1 := rfl
    have q := Lib.hid (hasSuf_calls l hl W)
    by_cases h : l.getLast? = some 103
    · have hc : cutG l = (l.dropLast, true) := if_pos h
      have hp : 1 ≤ l.length := by
        cases l with
        | nil => cases h
        | cons a r => simp
      have hsl : ∀ w, (Instr.slice 9 (.string ⟨l.toArray⟩) none (some (.int .i64 ((l.length : Int) - 1))) none).run Tryd.prog w = .ok (.string ⟨l.dropLast.toArray⟩) w := fun w => by
        rw [run_slice_string_to_if (P := Tryd.prog) w 9 ⟨l.toArray⟩ .i64 ((l.length : Int) - 1) (by kernel_rfl), if_pos ⟨by omega, by rw [hs]; omega⟩, ByteArray.extract_mk]
        congr 3
        rw [show ((l.length : Int) - 1).toNat = l.length - 1 by omega, List.dropLast_eq_take]
        simp
      rw [hc]
      rw [decide_eq_true h] at q
      clear h hc
      go_enter Tryd.func114, Tryd.ntmps114
      go_wp2_with fail
      refine q.out.mono ?_
      rintro e w1 ⟨rfl, rfl⟩
      go_wp2_with fail
      go_ret2
      exact ⟨rfl, rfl⟩
    · have hc : cutG l = (l, false) := if_neg h
      rw [hc]
      rw [decide_eq_false h] at q
      clear h hc
      go_enter Tryd.func114, Tryd.ntmps114
      go_wp2_with fail
      refine q.out.mono ?_
      rintro e w1 ⟨rfl, rfl⟩
      go_wp2_with fail
      go_ret2
      exact ⟨rfl, rfl⟩
  have q := Lib.hid q
  generalize cutG l = F at *
  go_enter Tryd.func78, Tryd.ntmps78
  go_wp2_with fail
  refine q.out.mono ?_
  rintro e w1 ⟨rfl, rfl⟩
  go_wp2_with fail
  go_ret2
  exact ⟨rfl, rfl⟩
theorem sizeS_calls (A : Option Addr) (n cap : Nat) (W : World) : Calls Tryd.prog 76 #[.slice A n cap] W fun e w' => e = .returned (.int .i64 (n : Int)) ∧ W = w' := by
  go_enter Tryd.func76, Tryd.ntmps76
  go_wp2_with fail
  go_ret
  exact ⟨rfl, rfl⟩
end Go.Proofs.YthlcmiediedcfaaDoor
