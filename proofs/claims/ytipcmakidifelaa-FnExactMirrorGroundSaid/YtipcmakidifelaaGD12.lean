/-
RunFrom, of both. Conditions: numbers are of their kinds; slices can be read.
-/
import Derived.Test.YtipcmakidifelaaGD11
import Derived.Test.YtipcmakidifelaaGD4
set_option linter.unusedVariables false
set_option linter.unusedSimpArgs false
set_option maxRecDepth 100000
namespace Go.Proofs.Ytipcmakidifelaa
open Go.RowKit
/-- What a ground is in a world. -/
structure GdIn (W : World) (w h : Int) (hs : List Int) (gl : List Cell) (z : Value) : Prop where
  w0 : -128 ≤ w
  w1 : w ≤ 127
  h0 : -128 ≤ h
  h1 : h ≤ 127
  hl : hs.length = 81
  h16 : ∀ n ∈ hs, -32768 ≤ n ∧ n ≤ 32767
  ok : ∀ p ∈ gl, p.ok
  sl : Sl W W.heap.size Cell.c 2 z gl
theorem GdIn.ext {W W' : World} {w h : Int} {hs : List Int} {gl : List Cell} {z : Value} (q : GdIn W w h hs gl z) (hb : Below W.heap.size W W') : GdIn W' w h hs gl z := ⟨q.w0, q.w1, q.h0, q.h1, q.hl, q.h16, q.ok, q.sl.ext hb⟩
def RetC2 (W : World) (r : List Cell × Int) (e : Ending) (w' : World) : Prop := ∃ v, e = .returned (.tuple #[v, .int .i64 r.2]) ∧ Own w' W.heap.size 38 Cell.c 2 v r.1 ∧ Below W.heap.size W w'
theorem RetC2.mk {W : World} {r : List Cell × Int} {e : Ending} {w' : World} {v : Value} (h : e = .returned (.tuple #[v, .int .i64 r.2])) (h2 : Own w' W.heap.size 38 Cell.c 2 v r.1) (h3 : Below W.heap.size W w') : RetC2 W r e w' := ⟨v, h, h2, h3⟩
def askG (w h : Int) (hs : List Int) (gl : List Cell) (b : Bool) : Int := if gOk w h hs gl = true then (if b then 0 else 2) else 1
theorem askG_ok {w h : Int} {hs : List Int} {gl : List Cell} {b : Bool} (hk : askG w h hs gl b = 0) : gOk w h hs gl = true ∧ b = true := by
  unfold askG at hk
  cases hg : gOk w h hs gl <;> rw [hg] at hk
  · simp at hk
  · cases b
    · simp at hk
    · exact ⟨rfl, rfl⟩
theorem sAskG_calls (g : Nat) (T : TypeId) (w h : Int) (hs : List Int) (gl : List Cell) (z : Value) (b : Bool) (W : World) (hq : GdIn W w h hs gl z) (hg : Bk W g T (gdA w h hs z)) :
    Calls Try.prog 32 #[.pointer (some ⟨g, 0, none⟩), .bool b] W fun e w' => e = .returned (.int .i64 (askG w h hs gl b)) ∧ Below W.heap.size W w' := by
  have qo := Lib.hid (sOkG_calls g T w h hq.w0 hq.w1 hq.h0 hq.h1 hs hq.hl hq.h16 gl z hq.ok W hg hq.sl)
  have hA := Lib.hid (show askG w h hs gl b = if gOk w h hs gl = true then (if b then 0 else 2) else 1 from rfl)
  cases hk : gOk w h hs gl
  all_goals
    rw [hk] at hA qo
    clear hk
    cases b
    all_goals
      go_enter Try.func32, Try.ntmps32
      go_wp2_with fail
      refine qo.out.mono ?_
      rintro e w1 ⟨rfl, hb1⟩
      go_wp2_with fail
      go_ret
      exact ⟨ret_int (by rw [hA.out]; rfl), hb1⟩
theorem pointCode_calls (w h : Int) (hs : List Int) (gl : List Cell) (z : Value) (p : Cell) (hp : p.ok) (W : World) (hq : GdIn W w h hs gl z) :
    Calls Try.prog 37 #[.agg (gdA w h hs z), .agg #[.int .i8 p.x, .int .i8 p.y]] W fun e w' => e = .returned (.int .i64 (askG w h hs gl (gpB w h p))) ∧ Below W.heap.size W w' := by
  have hB := ext_alloc ((Below.refl W.heap.size W).alloc (Nat.le_refl _) (.cells (gdA w h hs z) 36)) (.cells #[.int .i8 p.x, .int .i8 p.y] 38)
  have HB := Lib.hid hB
  have KG := Lib.hid ((Bk.new W 36 (gdA w h hs z) W.heap.size rfl).alloc (.cells #[.int .i8 p.x, .int .i8 p.y] 38))
  have KP := Lib.hid (Bk.new (W.alloc (.cells (gdA w h hs z) 36)) 38 #[.int .i8 p.x, .int .i8 p.y] (W.heap.size + 1) (by simp))
  have qo := Lib.hid (validGround_calls w h hq.w0 hq.w1 hq.h0 hq.h1 hs hq.hl hq.h16 gl z hq.ok _ (hq.sl.ext hB))
  have qp := Lib.hid (show ∀ W', Calls Try.prog 65 #[.agg (gdA w h hs z), .agg #[.int .i8 p.x, .int .i8 p.y]] W' _ from fun W' => isPoint_calls w h hq.w0 hq.w1 hq.h0 hq.h1 hs hq.hl z p hp W')
  have ldg := load_gd hq.hl KG.out
  have hl := hq.hl
  obtain ⟨A, cap, rfl, -, -, -⟩ := hq.sl.cell
  have hA := Lib.hid (show askG w h hs gl (gpB w h p) = if gOk w h hs gl = true then (if gpB w h p then 0 else 2) else 1 from rfl)
  clear hB hq
  generalize gpB w h p = B at *
  obtain ⟨C, hC⟩ : ∃ C : Int, C = (if B = true then 0 else 2) := ⟨_, rfl⟩
  have qu := Lib.hid (fun W' => unless_calls B 2 W')
  rw [← hC] at qu hA
  clear hC
  go_enter Try.func37, Try.ntmps37
  go_wp2_with (refine wpList_load_w rfl 36 (.tmp 2) rfl _ rfl _ ldg ?_)
  cases hk : gOk w h hs gl
  · rw [hk] at hA qo
    clear hk
    refine qo.out.mono ?_
    rintro e w1 ⟨rfl, hb1⟩
    go_wp2_with fail
    go_ret
    exact ⟨ret_int (by rw [hA.out]; rfl), ext_trans HB.out hb1⟩
  · rw [hk] at hA qo
    clear hk
    refine qo.out.mono ?_
    rintro e w1 ⟨rfl, hb1⟩
    have HB1 := Lib.hid (ext_trans HB.out hb1)
    have ldg2 := load_gd hl (KG.out.ext hb1)
    have e0 := (KP.out.ext hb1).cell 0 _ rfl
    have e1 := (KP.out.ext hb1).cell 1 _ rfl
    clear hb1 ldg
    go_wp2_with (refine wpList_load_w rfl 36 (.tmp 2) rfl _ rfl _ ldg2 ?_)
    refine (qp.out _).mono ?_
    rintro e w2 ⟨rfl, hb2⟩
    go_wp2_with fail
    refine (qu.out _).mono ?_
    rintro e w3 ⟨rfl, rfl⟩
    go_wp2_with fail
    go_ret
    exact ⟨ret_int (by rw [hA.out]; rfl), ext_trans HB1.out hb2⟩
def runFrom (w h : Int) (hs : List Int) (gl : List Cell) (p : Cell) : List Cell × Int := if askG w h hs gl (gpB w h p) = 0 then (runL w h hs gl p, 0) else ([], askG w h hs gl (gpB w h p))
theorem runFrom_len (w h : Int) (hs : List Int) (gl : List Cell) (p : Cell) : (runFrom w h hs gl p).1.length ≤ 202 := by
  unfold runFrom
  split
  · exact (runF_len 201 p).2
  · simp
theorem implRunFrom_calls (w h : Int) (hs : List Int) (gl : List Cell) (z : Value) (p : Cell) (hp : p.ok) (W : World) (hq : GdIn W w h hs gl z) :
    Calls Try.prog 13 #[.agg (gdA w h hs z), .agg #[.int .i8 p.x, .int .i8 p.y]] W (RetC2 W (runFrom w h hs gl p)) := by
  have hB := ext_alloc ((Below.refl W.heap.size W).alloc (Nat.le_refl _) (.cells (gdA w h hs z) 36)) (.cells #[.int .i8 p.x, .int .i8 p.y] 38)
  have HB := Lib.hid hB
  have KG := Lib.hid ((Bk.new W 36 (gdA w h hs z) W.heap.size rfl).alloc (.cells #[.int .i8 p.x, .int .i8 p.y] 38))
  have KP := Lib.hid (Bk.new (W.alloc (.cells (gdA w h hs z) 36)) 38 #[.int .i8 p.x, .int .i8 p.y] (W.heap.size + 1) (by simp))
  have qo := Lib.hid (pointCode_calls w h hs gl z p hp _ (hq.ext hB))
  have HQ := Lib.hid hq
  have hl := hq.hl
  have ldg := load_gd hl KG.out
  clear hB hq
  go_enter Try.func13, Try.ntmps13
  go_wp2_with (refine wpList_load_w rfl 36 (.tmp 2) rfl _ rfl _ ldg ?_)
  refine qo.out.mono ?_
  rintro e w1 ⟨rfl, hb1⟩
  have HB1 := Lib.hid (ext_trans HB.out hb1)
  have ldg2 := load_gd hl (KG.out.ext hb1)
  have e0 := (KP.out.ext hb1).cell 0 _ rfl
  have e1 := (KP.out.ext hb1).cell 1 _ rfl
  clear hb1 ldg
  by_cases hc : askG w h hs gl (gpB w h p) = 0
  · have hE := Lib.hid (show runFrom w h hs gl p = (runL w h hs gl p, 0) from if_pos hc)
    obtain ⟨hok, hpt⟩ := askG_ok hc
    have qr := Lib.hid (run_calls (gOk_ok hok) hl z p hpt w1 (HQ.out.sl.ext HB1.out))
    rw [hc]
    clear hc hok hpt
    go_wp2_with (refine wpList_load_w rfl 36 (.tmp 2) rfl _ rfl _ ldg2 ?_)
    refine qr.out.mono ?_
    rintro e w2 ⟨v2, rfl, hO2, hb2⟩
    go_wp2_with fail
    go_ret2
    rw [hE.out]
    exact RetC2.mk rfl (hO2.more HB1.out.size) (ext_trans HB1.out hb2)
  · have hE := Lib.hid (show runFrom w h hs gl p = ([], askG w h hs gl (gpB w h p)) from if_neg hc)
    have hcb : (askG w h hs gl (gpB w h p) == 0) = false := by simpa using hc
    have hcb2 : (askG w h hs gl (gpB w h p) != 0) = true := by simpa using hc
    generalize askG w h hs gl (gpB w h p) = C at *
    clear hc
    go_wp2_with fail
    go_ret2
    rw [hE.out]
    exact RetC2.mk rfl (Own.nil_ _ _ _ _ _) HB1.out
theorem specRunFrom_calls (w h : Int) (hs : List Int) (gl : List Cell) (z : Value) (p : Cell) (hp : p.ok) (W : World) (hq : GdIn W w h hs gl z) :
    Calls Try.prog 10 #[.agg (gdA w h hs z), .agg #[.int .i8 p.x, .int .i8 p.y]] W (RetC2 W (runFrom w h hs gl p)) := by
  have hB := ext_alloc ((Below.refl W.heap.size W).alloc (Nat.le_refl _) (.cells (gdA w h hs z) 36)) (.cells #[.int .i8 p.x, .int .i8 p.y] 38)
  have HB := Lib.hid hB
  have KG := Lib.hid ((Bk.new W 36 (gdA w h hs z) W.heap.size rfl).alloc (.cells #[.int .i8 p.x, .int .i8 p.y] 38))
  have KP := Lib.hid (Bk.new (W.alloc (.cells (gdA w h hs z) 36)) 38 #[.int .i8 p.x, .int .i8 p.y] (W.heap.size + 1) (by simp))
  have qi := Lib.hid (sIsP_calls W.heap.size _ w h hq.w0 hq.w1 hq.h0 hq.h1 hs z p hp _ KG.out)
  have HQ := Lib.hid hq
  have hl := hq.hl
  clear hB hq
  go_enter Try.func10, Try.ntmps10
  go_wp2_with fail
  refine qi.out.mono ?_
  rintro e w0 ⟨rfl, hb0⟩
  have HB0 := Lib.hid (ext_trans HB.out hb0)
  have KG0 := Lib.hid (KG.out.ext hb0)
  have KP0 := Lib.hid (KP.out.ext hb0)
  have qo := Lib.hid (sAskG_calls W.heap.size _ w h hs gl z (gpB w h p) w0 (HQ.out.ext HB0.out) KG0.out)
  clear hb0 qi
  go_wp2_with fail
  refine qo.out.mono ?_
  rintro e w1 ⟨rfl, hb1⟩
  have HB1 := Lib.hid (ext_trans HB0.out hb1)
  have KG1 := Lib.hid (KG0.out.ext hb1)
  have e0 := (KP0.out.ext hb1).cell 0 _ rfl
  have e1 := (KP0.out.ext hb1).cell 1 _ rfl
  clear hb1
  by_cases hc : askG w h hs gl (gpB w h p) = 0
  · have hE := Lib.hid (show runFrom w h hs gl p = (runL w h hs gl p, 0) from if_pos hc)
    obtain ⟨hok, hpt⟩ := askG_ok hc
    have qr := Lib.hid (srun_calls (gOk_ok hok) hl z W.heap.size _ p hpt w1 KG1.out (HQ.out.sl.ext HB1.out))
    rw [hc]
    clear hc hok hpt
    go_wp2_with fail
    refine qr.out.mono ?_
    rintro e w2 ⟨v2, rfl, hO2, hb2⟩
    go_wp2_with fail
    go_ret2
    rw [hE.out]
    exact RetC2.mk rfl (hO2.more HB1.out.size) (ext_trans HB1.out hb2)
  · have hE := Lib.hid (show runFrom w h hs gl p = ([], askG w h hs gl (gpB w h p)) from if_neg hc)
    have hcb : (askG w h hs gl (gpB w h p) == 0) = false := by simpa using hc
    have hcb2 : (askG w h hs gl (gpB w h p) != 0) = true := by simpa using hc
    generalize askG w h hs gl (gpB w h p) = C at *
    clear hc
    go_wp2_with fail
    go_ret2
    rw [hE.out]
    exact RetC2.mk rfl (Own.empty (α := Cell) (c := Cell.c) (sz := 2) (E := 38) w1 W.heap.size _ rfl HB1.out.size) (HB1.out.alloc HB1.out.size _)
end Go.Proofs.Ytipcmakidifelaa
