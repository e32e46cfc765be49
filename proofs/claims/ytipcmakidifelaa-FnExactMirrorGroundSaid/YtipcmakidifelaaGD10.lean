/-
Grounds: the points over which water runs, of both. Conditions: the ground is valid, the point is a point.
-/
import Derived.Test.YtipcmakidifelaaGD9
set_option linter.unusedVariables false
set_option linter.unusedSimpArgs false
set_option maxRecDepth 100000
namespace Go.Proofs.Ytipcmakidifelaa
open Go.RowKit
def runF (f : Cell → Option Cell) : Nat → Cell → List Cell
  | 0, c => [c]
  | n + 1, c => match f c with
    | none => [c]
    | some d => c :: runF f n d
theorem runF_none {f : Cell → Option Cell} {c : Cell} (n : Nat) (h : f c = none) : runF f (n + 1) c = [c] := by simp [runF, h]
theorem runF_some {f : Cell → Option Cell} {c d : Cell} (n : Nat) (h : f c = some d) : runF f (n + 1) c = c :: runF f n d := by simp [runF, h]
theorem runF_len {f : Cell → Option Cell} : ∀ (n : Nat) (c : Cell), 1 ≤ (runF f n c).length ∧ (runF f n c).length ≤ n + 1
  | 0, c => by simp [runF]
  | n + 1, c => by
    unfold runF
    cases f c with
    | none => simp
    | some d =>
      have := runF_len (f := f) n d
      simp
      omega
def runL (w h : Int) (hs : List Int) (gl : List Cell) (c : Cell) : List Cell := runF (stepL w h hs gl) 201 c
theorem runF_pts {w h : Int} {hs : List Int} {gl : List Cell} : ∀ (n : Nat) (c : Cell), gpB w h c = true → ∀ q ∈ runF (stepL w h hs gl) n c, gpB w h q = true
  | 0, c, hc => by simp [runF, hc]
  | n + 1, c, hc => by
    unfold runF
    cases he : stepL w h hs gl c with
    | none => simp [hc]
    | some d =>
      have := runF_pts (hs := hs) (gl := gl) n d (stepL_some hc he).1
      simp [hc]
      exact this
theorem Own.lit1 (W : World) (B g : Nat) (hg : g = W.heap.size) (hB : B ≤ W.heap.size) (p : Cell) : Own (W.alloc (.cells #[.int .i8 p.x, .int .i8 p.y] 38)) B 38 Cell.c 2 (.slice (some ⟨g, 0, none⟩) 1 1) [p] := by
  subst hg
  have := World.ownsRow_lit (base := B) (e := 38) (size := 2) W #[.int .i8 p.x, .int .i8 p.y] 1 hB (by simp [maxLen]) (by simp)
  refine ⟨?_⟩
  simpa [Cell.c] using this
set_option maxHeartbeats 2000000 in
theorem run_calls {w h : Int} {hs : List Int} {gl : List Cell} (ok : GOk w h hs gl) (hl : hs.length = 81) (z : Value) (p : Cell) (hp : gpB w h p = true) (W : World) (hz : Sl W W.heap.size Cell.c 2 z gl) :
    Calls Try.prog 38 #[.agg (gdA w h hs z), .agg #[.int .i8 p.x, .int .i8 p.y]] W (RetRowC W 38 Cell.c 2 (runL w h hs gl p)) := by
  have hB := ext_alloc (ext_alloc ((Below.refl W.heap.size W).alloc (Nat.le_refl _) (.cells (gdA w h hs z) 36)) (.cells #[.int .i8 p.x, .int .i8 p.y] 38)) (.cells #[.int .i8 p.x, .int .i8 p.y] 38)
  have HB := Lib.hid hB
  have KG := Lib.hid (((Bk.new W 36 (gdA w h hs z) W.heap.size rfl).alloc (.cells #[.int .i8 p.x, .int .i8 p.y] 38)).alloc (.cells #[.int .i8 p.x, .int .i8 p.y] 38))
  have KP := Lib.hid ((Bk.new (W.alloc (.cells (gdA w h hs z) 36)) 38 #[.int .i8 p.x, .int .i8 p.y] (W.heap.size + 1) (by simp)).alloc (.cells #[.int .i8 p.x, .int .i8 p.y] 38))
  have KO := Lib.hid (Own.lit1 ((W.alloc (.cells (gdA w h hs z) 36)).alloc (.cells #[.int .i8 p.x, .int .i8 p.y] 38)) (W.heap.size + 1 + 1) (W.heap.size + 1 + 1) (by simp) (by simp) p)
  have HZ := Lib.hid hz
  have hht := Lib.hid (show htL hs p < 201 from by have := ok.ht p hp; omega)
  have hR := Lib.hid (show runL w h hs gl p = runF (stepL w h hs gl) 201 p from rfl)
  have hRl := Lib.hid (show (runL w h hs gl p).length ≤ 202 from (runF_len 201 p).2)
  have HP := Lib.hid hp
  clear hB hz hp
  go_enter Try.func38, Try.ntmps38
  go_wp2_with fail
  generalize (((W.alloc (.cells (gdA w h hs z) 36)).alloc (.cells #[.int .i8 p.x, .int .i8 p.y] 38)).alloc (.cells #[.int .i8 p.x, .int .i8 p.y] 38)) = W1 at *
  generalize runL w h hs gl p = R at *
  go_loopg [5] 201 (fun n o wr => ∃ (cur : Cell) (pre : List Cell), gpB w h cur = true ∧ htL hs cur < (n : Int) ∧ pre ++ runF (stepL w h hs gl) n cur = R ∧ Own wr (W.heap.size + 1 + 1) 38 Cell.c 2 o (pre ++ [cur]) ∧ Bk wr (W.heap.size + 1) 38 #[.int .i8 cur.x, .int .i8 cur.y] ∧ Bk wr W.heap.size 36 (gdA w h hs z) ∧ Below W.heap.size W wr)
  case atStart => exact ⟨p, [], HP.out, hht.out, by rw [hR.out]; rfl, by simpa using KO.out, KP.out, KG.out, HB.out⟩
  case round =>
    obtain ⟨cur, pre, hcur, hlt, hpre, hO, hC, hG, hb⟩ := hrel
    have HCUR := Lib.hid hcur
    have HLT := Lib.hid hlt
    have HPRE := Lib.hid hpre
    have HO := Lib.hid hO
    have HC := Lib.hid hC
    have HG := Lib.hid hG
    have HBr := Lib.hid hb
    have hht0 := Lib.hid (ok.ht cur hcur)
    obtain ⟨m, rfl⟩ : ∃ m, gk = m + 1 := ⟨gk - 1, by have := hht0.out; omega⟩
    have hplen := Lib.hid (show (pre ++ [cur]).length ≤ 202 from by
      have h1 := runF_len (f := stepL w h hs gl) (m + 1) cur
      have h2 := hRl.out
      rw [← HPRE.out, List.length_append] at h2
      rw [List.length_append, List.length_singleton]
      omega)
    have ldg := load_gd hl (hG)
    have e0 := hC.cell 0 _ rfl
    have e1 := hC.cell 1 _ rfl
    clear hcur hlt hpre hO hC hG hb
    go_wp2_with (refine wpList_load_w rfl 36 (.tmp 2) rfl _ rfl _ ldg ?_)
    refine (runs_calls ok hl z cur HCUR.out wr (HZ.out.ext HBr.out)).mono ?_
    rintro e w2 ⟨⟨q, rfl, hq⟩, hb2⟩
    have HQ := Lib.hid hq
    have HB2 := Lib.hid ((ext_trans HBr.out hb2).alloc (ext_trans HBr.out hb2).size (.cells #[.int .i8 q.x, .int .i8 q.y] 38))
    have HO2 := Lib.hid ((HO.out.ext hb2).alloc (.cells #[.int .i8 q.x, .int .i8 q.y] 38))
    have HC2 := Lib.hid ((HC.out.ext hb2).alloc (.cells #[.int .i8 q.x, .int .i8 q.y] 38))
    have HG2 := Lib.hid ((HG.out.ext hb2).alloc (.cells #[.int .i8 q.x, .int .i8 q.y] 38))
    have HN2 := Lib.hid (Bk.new w2 38 #[.int .i8 q.x, .int .i8 q.y] w2.heap.size rfl)
    have hlt2 := Lib.hid (show W.heap.size + 1 + 1 ≤ w2.heap.size from Nat.le_trans (show W.heap.size + 1 + 1 ≤ wr.heap.size from HC.out.lt) hb2.size)
    clear hq hb2 ldg e0 e1
    cases hst : stepL w h hs gl cur with
    | none =>
      have hE := Lib.hid (show R = pre ++ [cur] from by rw [← HPRE.out, runF_none m hst])
      clear hst
      simp only [Option.isSome_none]
      go_wp2_with fail
      go_ret
      exact ⟨_, rfl, by rw [hE.out]; exact HO2.out.more (by omega), HB2.out⟩
    | some d =>
      obtain rfl : q = d := HQ.out d hst
      obtain ⟨hqp, hqh⟩ := stepL_some HCUR.out hst
      have HQP := Lib.hid hqp
      have HQH := Lib.hid (show htL hs q < (m : Int) from by have := HLT.out; omega)
      have hE := Lib.hid (show (pre ++ [cur]) ++ runF (stepL w h hs gl) m q = R from by rw [← HPRE.out, runF_some m hst, List.append_assoc]; rfl)
      clear hst hqp hqh
      simp only [Option.isSome_some]
      go_upto_region 5 with (fail)
      generalize w2.alloc (.cells #[.int .i8 q.x, .int .i8 q.y] 38) = w3 at *
      have c0 := HC2.out.cell 0 _ rfl
      have c1 := HC2.out.cell 1 _ rfl
      have f0 := HC2.out.frz 0
      have f1 := HC2.out.frz 1
      have n0 := HN2.out.cell 0 _ rfl
      have n1 := HN2.out.cell 1 _ rfl
      go_upto_region 6 with (fail)
      have HB4 := Lib.hid ((HB2.out.setCell (p := ⟨W.heap.size + 1, 0, none⟩) (by simp) (.int .i8 q.x)).setCell (p := ⟨W.heap.size + 1, 1, none⟩) (by simp) (.int .i8 q.y))
      have HC4 := Lib.hid ((HC2.out.set 0 (.int .i8 q.x)).set 1 (.int .i8 q.y))
      have HG4 := Lib.hid ((HG2.out.oth (g' := W.heap.size + 1) 0 (.int .i8 q.x) (by omega)).oth (g' := W.heap.size + 1) 1 (.int .i8 q.y) (by omega))
      have HO4 := Lib.hid (show Own ((w3.setCell ⟨W.heap.size + 1, 0, none⟩ (.int .i8 q.x)).setCell ⟨W.heap.size + 1, 1, none⟩ (.int .i8 q.y)) (W.heap.size + 1 + 1) 38 Cell.c 2 _ (pre ++ [cur]) from HO2.out.keep (fun j hj => by have h1 := HO2.out.base j hj; rw [Below.heap_setCell _ _ _ _ (show j ≠ _ by simp <;> omega), Below.heap_setCell _ _ _ _ (show j ≠ _ by simp <;> omega)]))
      generalize (w3.setCell ⟨W.heap.size + 1, 0, none⟩ (.int .i8 q.x)).setCell ⟨W.heap.size + 1, 1, none⟩ (.int .i8 q.y) = w4 at *
      clear c0 c1 f0 f1 n0 n1
      have c0 := HC4.out.cell 0 _ rfl
      have c1 := HC4.out.cell 1 _ rfl
      have HBa := Lib.hid (HB4.out.alloc HB4.out.size (.cells #[.int .i8 q.x, .int .i8 q.y] 38))
      have HCa := Lib.hid (HC4.out.alloc (.cells #[.int .i8 q.x, .int .i8 q.y] 38))
      have HGa := Lib.hid (HG4.out.alloc (.cells #[.int .i8 q.x, .int .i8 q.y] 38))
      have HE := Lib.hid (show pre ++ [cur] ++ [q] = (pre ++ [cur]) ++ [q] from rfl)
      generalize pre ++ [cur] = out at *
      go_wp2_with (at_builtin; refine push_cellat rfl _ _ rfl (W.heap.size + 1 + 1) out _ rfl (HO4.out.alloc _) _ q rfl (Bk.new _ _ _ _ (by simp)) (by have := hplen.out; omega) (Nat.le_trans HC4.out.lt (by simp)) ?_)
      intro v6 w6 hO6 hG6 hat
      have HB6 := Lib.hid (HBa.out.grown hG6 HBa.out.size (fun j hj => by have := HO4.out.base j hj; omega))
      have HC6 := Lib.hid (show Bk w6 (W.heap.size + 1) _ _ from (hG6.block _ HCa.out.lt (fun e => by have := HO4.out.base _ e.symm; omega)).trans HCa.out)
      have HG6 := Lib.hid (show Bk w6 W.heap.size _ _ from (hG6.block _ HGa.out.lt (fun e => by have := HO4.out.base _ e.symm; omega)).trans HGa.out)
      have HO6 := Lib.hid hO6
      clear hO6 hG6 hat c0 c1
      go_wp2_with fail
      go_roundg m
      case measure => omega
      case rel => exact ⟨q, out, HQP.out, HQH.out, hE.out, HO6.out, HC6.out, HG6.out, HB6.out⟩
set_option maxHeartbeats 2000000 in
theorem srun_calls {w h : Int} {hs : List Int} {gl : List Cell} (ok : GOk w h hs gl) (hl : hs.length = 81) (z : Value) (g : Nat) (T : TypeId) (p : Cell) (hp : gpB w h p = true) (W : World) (hg : Bk W g T (gdA w h hs z)) (hz : Sl W W.heap.size Cell.c 2 z gl) :
    Calls Try.prog 34 #[.pointer (some ⟨g, 0, none⟩), .agg #[.int .i8 p.x, .int .i8 p.y]] W (RetRowC W 38 Cell.c 2 (runL w h hs gl p)) := by
  have hB := ext_alloc ((Below.refl W.heap.size W).alloc (Nat.le_refl _) (.cells #[.int .i8 p.x, .int .i8 p.y] 38)) (.cells #[.int .i8 p.x, .int .i8 p.y] 38)
  have HB := Lib.hid hB
  have hgl := Lib.hid hg.lt
  have KG := Lib.hid ((hg.alloc (.cells #[.int .i8 p.x, .int .i8 p.y] 38)).alloc (.cells #[.int .i8 p.x, .int .i8 p.y] 38))
  have KP := Lib.hid ((Bk.new W 38 #[.int .i8 p.x, .int .i8 p.y] W.heap.size rfl).alloc (.cells #[.int .i8 p.x, .int .i8 p.y] 38))
  have KO := Lib.hid (Own.lit1 (W.alloc (.cells #[.int .i8 p.x, .int .i8 p.y] 38)) (W.heap.size + 1) (W.heap.size + 1) (by simp) (by simp) p)
  clear hg
  have HZ := Lib.hid hz
  have hht := Lib.hid (show htL hs p < 201 from by have := ok.ht p hp; omega)
  have hR := Lib.hid (show runL w h hs gl p = runF (stepL w h hs gl) 201 p from rfl)
  have hRl := Lib.hid (show (runL w h hs gl p).length ≤ 202 from (runF_len 201 p).2)
  have HP := Lib.hid hp
  clear hB hz hp
  go_enter Try.func34, Try.ntmps34
  go_wp2_with fail
  generalize ((W.alloc (.cells #[.int .i8 p.x, .int .i8 p.y] 38)).alloc (.cells #[.int .i8 p.x, .int .i8 p.y] 38)) = W1 at *
  generalize runL w h hs gl p = R at *
  go_loopg [5] 201 (fun n o wr => ∃ (cur : Cell) (pre : List Cell), gpB w h cur = true ∧ htL hs cur < (n : Int) ∧ pre ++ runF (stepL w h hs gl) n cur = R ∧ Own wr (W.heap.size + 1) 38 Cell.c 2 o (pre ++ [cur]) ∧ Bk wr (W.heap.size) 38 #[.int .i8 cur.x, .int .i8 cur.y] ∧ Bk wr g T (gdA w h hs z) ∧ Below W.heap.size W wr)
  case atStart => exact ⟨p, [], HP.out, hht.out, by rw [hR.out]; rfl, by simpa using KO.out, KP.out, KG.out, HB.out⟩
  case round =>
    obtain ⟨cur, pre, hcur, hlt, hpre, hO, hC, hG, hb⟩ := hrel
    have HCUR := Lib.hid hcur
    have HLT := Lib.hid hlt
    have HPRE := Lib.hid hpre
    have HO := Lib.hid hO
    have HC := Lib.hid hC
    have HG := Lib.hid hG
    have HBr := Lib.hid hb
    have hht0 := Lib.hid (ok.ht cur hcur)
    obtain ⟨m, rfl⟩ : ∃ m, gk = m + 1 := ⟨gk - 1, by have := hht0.out; omega⟩
    have hplen := Lib.hid (show (pre ++ [cur]).length ≤ 202 from by
      have h1 := runF_len (f := stepL w h hs gl) (m + 1) cur
      have h2 := hRl.out
      rw [← HPRE.out, List.length_append] at h2
      rw [List.length_append, List.length_singleton]
      omega)
    have e0 := hC.cell 0 _ rfl
    have e1 := hC.cell 1 _ rfl
    clear hcur hlt hpre hO hC hG hb
    go_wp2_with fail
    refine (sfall_calls ok hl z g T cur HCUR.out wr HG.out (HZ.out.ext HBr.out)).mono ?_
    rintro e w2 ⟨⟨q, rfl, hq⟩, hb2⟩
    have HQ := Lib.hid hq
    have HB2 := Lib.hid ((ext_trans HBr.out hb2).alloc (ext_trans HBr.out hb2).size (.cells #[.int .i8 q.x, .int .i8 q.y] 38))
    have HO2 := Lib.hid ((HO.out.ext hb2).alloc (.cells #[.int .i8 q.x, .int .i8 q.y] 38))
    have HC2 := Lib.hid ((HC.out.ext hb2).alloc (.cells #[.int .i8 q.x, .int .i8 q.y] 38))
    have HG2 := Lib.hid ((HG.out.ext hb2).alloc (.cells #[.int .i8 q.x, .int .i8 q.y] 38))
    have HN2 := Lib.hid (Bk.new w2 38 #[.int .i8 q.x, .int .i8 q.y] w2.heap.size rfl)
    have hlt2 := Lib.hid (show W.heap.size + 1 ≤ w2.heap.size from Nat.le_trans (show W.heap.size + 1 ≤ wr.heap.size from HC.out.lt) hb2.size)
    clear hq hb2 e0 e1
    cases hst : stepL w h hs gl cur with
    | none =>
      have hE := Lib.hid (show R = pre ++ [cur] from by rw [← HPRE.out, runF_none m hst])
      clear hst
      simp only [Option.isSome_none]
      go_wp2_with fail
      go_ret
      exact ⟨_, rfl, by rw [hE.out]; exact HO2.out.more (by omega), HB2.out⟩
    | some d =>
      obtain rfl : q = d := HQ.out d hst
      obtain ⟨hqp, hqh⟩ := stepL_some HCUR.out hst
      have HQP := Lib.hid hqp
      have HQH := Lib.hid (show htL hs q < (m : Int) from by have := HLT.out; omega)
      have hE := Lib.hid (show (pre ++ [cur]) ++ runF (stepL w h hs gl) m q = R from by rw [← HPRE.out, runF_some m hst, List.append_assoc]; rfl)
      clear hst hqp hqh
      simp only [Option.isSome_some]
      go_upto_region 5 with (fail)
      generalize w2.alloc (.cells #[.int .i8 q.x, .int .i8 q.y] 38) = w3 at *
      have c0 := HC2.out.cell 0 _ rfl
      have c1 := HC2.out.cell 1 _ rfl
      have f0 := HC2.out.frz 0
      have f1 := HC2.out.frz 1
      have n0 := HN2.out.cell 0 _ rfl
      have n1 := HN2.out.cell 1 _ rfl
      go_upto_region 6 with (fail)
      have HB4 := Lib.hid ((HB2.out.setCell (p := ⟨W.heap.size, 0, none⟩) (by simp) (.int .i8 q.x)).setCell (p := ⟨W.heap.size, 1, none⟩) (by simp) (.int .i8 q.y))
      have HC4 := Lib.hid ((HC2.out.set 0 (.int .i8 q.x)).set 1 (.int .i8 q.y))
      have HG4 := Lib.hid ((HG2.out.oth (g' := W.heap.size) 0 (.int .i8 q.x) (by have := hgl.out; omega)).oth (g' := W.heap.size) 1 (.int .i8 q.y) (by have := hgl.out; omega))
      have HO4 := Lib.hid (show Own ((w3.setCell ⟨W.heap.size, 0, none⟩ (.int .i8 q.x)).setCell ⟨W.heap.size, 1, none⟩ (.int .i8 q.y)) (W.heap.size + 1) 38 Cell.c 2 _ (pre ++ [cur]) from HO2.out.keep (fun j hj => by have h1 := HO2.out.base j hj; rw [Below.heap_setCell _ _ _ _ (show j ≠ _ by simp <;> omega), Below.heap_setCell _ _ _ _ (show j ≠ _ by simp <;> omega)]))
      generalize (w3.setCell ⟨W.heap.size, 0, none⟩ (.int .i8 q.x)).setCell ⟨W.heap.size, 1, none⟩ (.int .i8 q.y) = w4 at *
      clear c0 c1 f0 f1 n0 n1
      have c0 := HC4.out.cell 0 _ rfl
      have c1 := HC4.out.cell 1 _ rfl
      have HBa := Lib.hid (HB4.out.alloc HB4.out.size (.cells #[.int .i8 q.x, .int .i8 q.y] 38))
      have HCa := Lib.hid (HC4.out.alloc (.cells #[.int .i8 q.x, .int .i8 q.y] 38))
      have HGa := Lib.hid (HG4.out.alloc (.cells #[.int .i8 q.x, .int .i8 q.y] 38))
      have HE := Lib.hid (show pre ++ [cur] ++ [q] = (pre ++ [cur]) ++ [q] from rfl)
      generalize pre ++ [cur] = out at *
      go_wp2_with (at_builtin; refine push_cellat rfl _ _ rfl (W.heap.size + 1) out _ rfl (HO4.out.alloc _) _ q rfl (Bk.new _ _ _ _ (by simp)) (by have := hplen.out; omega) (Nat.le_trans HC4.out.lt (by simp)) ?_)
      intro v6 w6 hO6 hG6 hat
      have HB6 := Lib.hid (HBa.out.grown hG6 HBa.out.size (fun j hj => by have := HO4.out.base j hj; omega))
      have HC6 := Lib.hid (show Bk w6 (W.heap.size) _ _ from (hG6.block _ HCa.out.lt (fun e => by have := HO4.out.base _ e.symm; omega)).trans HCa.out)
      have HG6 := Lib.hid (show Bk w6 g _ _ from (hG6.block _ HGa.out.lt (fun e => by have := HO4.out.base _ e.symm; have := hgl.out; omega)).trans HGa.out)
      have HO6 := Lib.hid hO6
      clear hO6 hG6 hat c0 c1
      go_wp2_with fail
      go_roundg m
      case measure => omega
      case rel => exact ⟨q, out, HQP.out, HQH.out, hE.out, HO6.out, HC6.out, HG6.out, HB6.out⟩
end Go.Proofs.Ytipcmakidifelaa
