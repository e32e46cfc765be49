/-
Grounds: the points beside a point, the index of a gully, of the reference. Conditions: numbers are of their kinds; slices can be read.
-/
import Derived.Test.YthlcmiediedcfaaDoorGD5
set_option linter.unusedVariables false
set_option linter.unusedSimpArgs false
set_option maxRecDepth 100000
namespace Go.Proofs.YthlcmiediedcfaaDoor
open Go.RowKit
set_option maxHeartbeats 1000000 in
theorem sgully_calls (g : Nat) (T : TypeId) (w h : Int) (hs : List Int) (hl : hs.length = 81) (gl : List Cell) (z : Value) (p : Cell) (W : World) (hg : Bk W g T (gdA w h hs z)) (hz : Sl W W.heap.size Cell.c 2 z gl) :
    Calls Tryd.prog 93 #[.pointer (some ⟨g, 0, none⟩), p.v] W fun e w' => e = .returned (.int .i64 (findI (fun y => y == p) gl)) ∧ Below W.heap.size W w' := by
  obtain ⟨A, cap, rfl, hcap, hcap2, hcell⟩ := hz.cell
  have HB := Lib.hid ((Below.refl W.heap.size W).alloc (Nat.le_refl _) (.cells #[.int .i8 p.x, .int .i8 p.y] 98))
  have KP := Lib.hid (Bk.new W 98 #[.int .i8 p.x, .int .i8 p.y] W.heap.size rfl)
  have KG := Lib.hid (hg.alloc (.cells #[.int .i8 p.x, .int .i8 p.y] 98))
  clear hz hg
  unfold Cell.v
  go_enter Tryd.func93, Tryd.ntmps93
  go_wp2_with fail
  generalize W.alloc (.cells #[.int .i8 p.x, .int .i8 p.y] 98) = W1 at *
  go_loopw [5] (fun i wr => ∃ k : Nat, k ≤ gl.length ∧ i = .int .i64 k ∧ (gl.take k).all (fun y => !(y == p)) = true ∧ Below W1.heap.size W1 wr) (fun i _ => gl.length - (intOf i).toNat)
  case atStart => exact ⟨0, by omega, rfl, rfl, Below.refl _ _⟩
  case round =>
    obtain ⟨k, hk, rfl, hall, hb⟩ := hrel
    have HA := Lib.hid hall
    have HBo := Lib.hid (HB.out.trans (hb.mono HB.out.size))
    have H1 := Lib.hid hb
    have k0 := (KP.out.ext hb).cell 0 _ rfl
    have k1 := (KP.out.ext hb).cell 1 _ rfl
    have k83 := (KG.out.ext hb).cell 83 _ (gdA_z _ _ _ _ hl)
    clear hall
    by_cases hlt : k < gl.length
    · obtain ⟨b, o, rfl, hbb, h0, h1⟩ := hcell k hlt
      have h0 := (HBo.out.cell (p := ⟨b, _, none⟩) hbb).trans h0
      have h1 := (HBo.out.cell (p := ⟨b, _, none⟩) hbb).trans h1
      have hk8 : (0 : Int) ≤ (k : Int) := by omega
      have hk9 : (k : Int) < (gl.length : Int) := by omega
      have hkd : decide ((k : Int) < (gl.length : Int)) = true := by rw [decide_eq_true_eq]; omega
      have wk : wrap64 ((k : Int) + 1) = (k : Int) + 1 := wr64 (by omega) (by omega)
      clear hcell hb
      by_cases e1 : gl[k].x = p.x
      · by_cases e2 : gl[k].y = p.y
        · have hE := Lib.hid (findI_at (fun y => y == p) gl k hlt HA.out (by
            have : gl[k] = p := by cases hx : gl[k]; cases p; simp_all
            simp [this]))
          have q1 : (gl[k].x == p.x) = true := by simp [e1]
          have q2 : (gl[k].y == p.y) = true := by simp [e2]
          clear e1 e2
          go_wp2_with fail
          go_quiet (fail)
          go_wp2_with fail
          go_ret
          exact ⟨ret_int hE.out.symm, ext_drewN HBo.out _⟩
        · have hE := Lib.hid (take_all_succ _ gl k hlt HA.out (by
            have : ¬ gl[k] = p := by intro h; exact e2 (by rw [h])
            simp [this]))
          have q1 : (gl[k].x == p.x) = true := by simp [e1]
          have q2 : (gl[k].y == p.y) = false := by simp [e2]
          clear e1 e2
          go_wp2_with fail
          go_quiet (fail)
          go_wp2_with fail
          go_roundw
          case rel => exact ⟨k + 1, by omega, by go_num, hE.out, ext_drewN H1.out _⟩
          case measure => first | (simp [intOf]; done) | (simp [intOf]; omega)
      · have hE := Lib.hid (take_all_succ _ gl k hlt HA.out (by
          have : ¬ gl[k] = p := by intro h; exact e1 (by rw [h])
          simp [this]))
        have q1 : (gl[k].x == p.x) = false := by simp [e1]
        clear e1
        go_wp2_with fail
        go_quiet (fail)
        go_wp2_with fail
        go_roundw
        case rel => exact ⟨k + 1, by omega, by go_num, hE.out, ext_drewN H1.out _⟩
        case measure => first | (simp [intOf]; done) | (simp [intOf]; omega)
    · obtain rfl : k = gl.length := by omega
      have hkd : decide ((gl.length : Int) < (gl.length : Int)) = false := by rw [decide_eq_false_iff_not]; omega
      have hE := Lib.hid (findI_none _ gl (all_of_take _ gl gl.length rfl HA.out))
      go_wp2_with fail
      go_ret
      exact ⟨ret_int hE.out.symm, HBo.out⟩
end Go.Proofs.YthlcmiediedcfaaDoor
