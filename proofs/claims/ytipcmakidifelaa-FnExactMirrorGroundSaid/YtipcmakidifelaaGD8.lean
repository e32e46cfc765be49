/-
Grounds: where water runs, of the program. Conditions: the ground is valid, the point is a point.
-/
import Derived.Test.YtipcmakidifelaaGD7
set_option linter.unusedVariables false
set_option linter.unusedSimpArgs false
set_option maxRecDepth 100000
namespace Go.Proofs.Ytipcmakidifelaa
open Go.RowKit
/-- Where water runs to; nothing where it goes away or stands. -/
def stepL (w h : Int) (hs : List Int) (gl : List Cell) (c : Cell) : Option Cell := if c ∈ gl then none else if lowL w h hs c = c then none else some (lowL w h hs c)
theorem lowL_pt {w h : Int} {hs : List Int} {c : Cell} (hc : gpB w h c = true) : gpB w h (lowL w h hs c) = true := lowN_pt hc _ (Nat.le_refl _)
theorem lowN_le {hs : List Int} {c : Cell} {xs : List Cell} : ∀ k, k ≤ xs.length → (lowN hs c xs k = c ∨ htL hs (lowN hs c xs k) < htL hs c)
  | 0, _ => .inl rfl
  | k + 1, hk => by
    rw [lowN_succ _ _ _ _ (by omega)]
    split
    · rename_i h
      rcases lowN_le (hs := hs) (c := c) (xs := xs) k (by omega) with h1 | h1
      · rw [h1] at h; exact .inr h
      · exact .inr (by omega)
    · exact lowN_le (hs := hs) (c := c) (xs := xs) k (by omega)
theorem stepL_some {w h : Int} {hs : List Int} {gl : List Cell} {c d : Cell} (hc : gpB w h c = true) (hs2 : stepL w h hs gl c = some d) : gpB w h d = true ∧ htL hs d < htL hs c := by
  unfold stepL at hs2
  split at hs2
  · cases hs2
  · split at hs2
    · cases hs2
    · rename_i h1 h2
      injection hs2 with hs2
      subst hs2
      refine ⟨lowL_pt hc, ?_⟩
      rcases lowN_le (hs := hs) (c := c) (xs := aroundL w h c) _ (Nat.le_refl _) with h3 | h3
      · exact absurd h3 h2
      · exact h3
theorem runs_calls {w h : Int} {hs : List Int} {gl : List Cell} (ok : GOk w h hs gl) (hl : hs.length = 81) (z : Value) (p : Cell) (hp : gpB w h p = true) (W : World) (hz : Sl W W.heap.size Cell.c 2 z gl) :
    Calls Try.prog 66 #[.agg (gdA w h hs z), .agg #[.int .i8 p.x, .int .i8 p.y]] W fun e w' => (∃ q : Cell, e = .returned (.tuple #[.agg #[.int .i8 q.x, .int .i8 q.y], .bool (stepL w h hs gl p).isSome]) ∧ (∀ d, stepL w h hs gl p = some d → q = d)) ∧ Below W.heap.size W w' := by
  have hB := ext_alloc (ext_alloc ((Below.refl W.heap.size W).alloc (Nat.le_refl _) (.cells (gdA w h hs z) 36)) (.cells #[.int .i8 p.x, .int .i8 p.y] 38)) (.cells #[.int .i8 0, .int .i8 0] 38)
  have HB := Lib.hid hB
  have KG := Lib.hid (((Bk.new W 36 (gdA w h hs z) W.heap.size rfl).alloc (.cells #[.int .i8 p.x, .int .i8 p.y] 38)).alloc (.cells #[.int .i8 0, .int .i8 0] 38))
  have KP := Lib.hid ((Bk.new (W.alloc (.cells (gdA w h hs z) 36)) 38 #[.int .i8 p.x, .int .i8 p.y] (W.heap.size + 1) (by simp)).alloc (.cells #[.int .i8 0, .int .i8 0] 38))
  have KR := Lib.hid (Bk.new ((W.alloc (.cells (gdA w h hs z) 36)).alloc (.cells #[.int .i8 p.x, .int .i8 p.y] 38)) 38 #[.int .i8 0, .int .i8 0] (W.heap.size + 1 + 1) (by simp))
  have qg := Lib.hid (show Calls Try.prog 85 #[.agg (gdA w h hs z), .agg #[.int .i8 p.x, .int .i8 p.y]] (((W.alloc (.cells (gdA w h hs z) 36)).alloc (.cells #[.int .i8 p.x, .int .i8 p.y] 38)).alloc (.cells #[.int .i8 0, .int .i8 0] 38)) _ from isGully_calls w h hs hl gl z p _ (hz.ext hB))
  obtain ⟨A, cap, rfl, -, -, -⟩ := hz.cell
  have ql := Lib.hid (fun W' => lowest_calls ok hl A gl.length cap p hp W')
  have ldg := load_gd hl KG.out
  have hst := Lib.hid (show stepL w h hs gl p = if p ∈ gl then none else if lowL w h hs p = p then none else some (lowL w h hs p) from rfl)
  clear hB hz
  go_enter Try.func66, Try.ntmps66
  go_wp2_with (refine wpList_load_w rfl 36 (.tmp 2) rfl _ rfl _ ldg ?_)
  refine qg.out.mono ?_
  rintro e w1 ⟨rfl, hb1⟩
  have HB1 := Lib.hid (ext_trans HB.out hb1)
  have KG1 := Lib.hid (KG.out.ext hb1)
  have KP1 := Lib.hid (KP.out.ext hb1)
  have KR1 := Lib.hid (KR.out.ext hb1)
  have e0 := KP1.out.cell 0 _ rfl
  have e1 := KP1.out.cell 1 _ rfl
  clear hb1 ldg
  by_cases hin : p ∈ gl
  · have hd : decide (p ∈ gl) = true := decide_eq_true hin
    have hs2 := Lib.hid (hst.out.trans (if_pos hin))
    have r0 := KR1.out.cell 0 _ rfl
    have r1 := KR1.out.cell 1 _ rfl
    have f0 := KR1.out.frz 0
    have f1 := KR1.out.frz 1
    rw [hd]
    clear hst hin hd
    go_wp2_with fail
    have z0 := ((KR1.out.set 0 (.int .i8 p.x)).set 1 (.int .i8 p.y)).cell 0 _ rfl
    have z1 := ((KR1.out.set 0 (.int .i8 p.x)).set 1 (.int .i8 p.y)).cell 1 _ rfl
    exact bodyPost_ret (v := .tuple #[.agg #[.int .i8 p.x, .int .i8 p.y], .bool false]) (by simp [results, Try.results66, go_sem, z0, z1]) rfl ⟨⟨p, by rw [hs2.out]; rfl, fun d hd => by rw [hs2.out] at hd; cases hd⟩, (HB1.out.setCell (by simp; omega) _).setCell (by simp; omega) _⟩
  · have hd : decide (p ∈ gl) = false := decide_eq_false hin
    have hs1 := Lib.hid (hst.out.trans (if_neg hin))
    have ldg := load_gd hl KG1.out
    rw [hd]
    clear hst hin hd
    go_wp2_with (refine wpList_load_w rfl 36 (.tmp 2) rfl _ rfl _ ldg ?_)
    refine (ql.out _).mono ?_
    rintro e w2 ⟨rfl, hb2⟩
    have HB2 := Lib.hid (ext_trans HB1.out hb2)
    have KR2 := Lib.hid (KR1.out.ext hb2)
    have r0 := KR2.out.cell 0 _ rfl
    have r1 := KR2.out.cell 1 _ rfl
    have f0 := KR2.out.frz 0
    have f1 := KR2.out.frz 1
    have hiff := Lib.hid (show (stepL w h hs gl p).isSome = !(lowL w h hs p == p) from by
      rw [hs1.out]
      by_cases h1 : lowL w h hs p = p <;> simp [h1])
    have hval := Lib.hid (show ∀ d, stepL w h hs gl p = some d → lowL w h hs p = d from fun d hd => by
      rw [hs1.out] at hd
      split at hd
      · cases hd
      · injection hd)
    clear hb2 ldg e0 e1
    rw [← hiff.out]
    generalize lowL w h hs p = L at *
    obtain ⟨B, hBB⟩ : ∃ B, B = (stepL w h hs gl p).isSome := ⟨_, rfl⟩
    rw [← hBB]
    have hBq := Lib.hid hBB
    clear hBB
    go_wp2_with fail
    have z0 := ((KR2.out.set 0 (.int .i8 L.x)).set 1 (.int .i8 L.y)).cell 0 _ rfl
    have z1 := ((KR2.out.set 0 (.int .i8 L.x)).set 1 (.int .i8 L.y)).cell 1 _ rfl
    exact bodyPost_ret (v := .tuple #[.agg #[.int .i8 L.x, .int .i8 L.y], .bool B]) (by simp [results, Try.results66, go_sem, z0, z1]) rfl ⟨⟨L, by rw [← hBq.out], hval.out⟩, (HB2.out.setCell (by simp; omega) _).setCell (by simp; omega) _⟩
end Go.Proofs.Ytipcmakidifelaa
