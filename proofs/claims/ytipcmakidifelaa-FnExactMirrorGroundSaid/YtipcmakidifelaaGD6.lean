/-
Grounds: the points beside a point, the index of a gully, of the reference. Conditions: numbers are of their kinds; slices can be read.
-/
import Derived.Test.YtipcmakidifelaaGD5
set_option linter.unusedVariables false
set_option linter.unusedSimpArgs false
set_option maxRecDepth 100000
namespace Go.Proofs.Ytipcmakidifelaa
open Go.RowKit
theorem filt_take_succ {α : Type} (p : α → Bool) (xs : List α) (k : Nat) (hk : k < xs.length) : (xs.take (k + 1)).filter p = if p xs[k] = true then (xs.take k).filter p ++ [xs[k]] else (xs.take k).filter p := by
  rw [List.take_succ_eq_append_getElem hk, List.filter_append]
  cases hp : p xs[k] <;> simp [hp]
theorem bk_row {α : Type} {w : World} {g sz : Nat} {T : TypeId} {cs : Array Value} {c : α → List Value} (hc : ∀ x, (c x).length = sz) (ys : List α) (h : Bk w g T cs) (hcs : cs.toList = ys.flatMap c) (hn : ys.length ≤ 1000000) : Sl w w.heap.size c sz (.slice (some ⟨g, 0, none⟩) ys.length ys.length) ys := by
  refine ⟨_, ys.length, rfl, Nat.le_refl _, by omega, fun _ => ⟨g, 0, rfl, h.lt, fun i x hx j u hu => ?_⟩⟩
  have h1 := flatMap_at c sz hc ys i j x u hx hu
  rw [← hcs] at h1
  have h2 := h.cell (i * sz + j) u (by simpa using h1)
  simpa using h2
theorem sbeside_calls (g : Nat) (T : TypeId) (w h : Int) (w0 : -128 ≤ w) (w1 : w ≤ 127) (h0 : -128 ≤ h) (h1 : h ≤ 127) (hs : List Int) (z : Value) (p : Cell) (x0 : 0 ≤ p.x) (x1 : p.x ≤ 20) (y0 : 0 ≤ p.y) (y1 : p.y ≤ 20) (W : World) (hg : Bk W g T (gdA w h hs z)) :
    Calls Try.prog 71 #[.pointer (some ⟨g, 0, none⟩), p.v] W (RetRowC W 38 Cell.c 2 (aroundL w h p)) := by
  have hB1 := ext_alloc ((Below.refl W.heap.size W).alloc (Nat.le_refl _) (.cells #[.int .i8 p.x, .int .i8 p.y] 38)) (.cells #[] 38)
  have HB := Lib.hid (ext_alloc hB1 (.cells #[.int .i8 p.x, .int .i8 (p.y - 1), .int .i8 (p.x - 1), .int .i8 p.y, .int .i8 (p.x + 1), .int .i8 p.y, .int .i8 p.x, .int .i8 (p.y + 1)] 38))
  have K := Lib.hid (((hg.alloc (.cells #[.int .i8 p.x, .int .i8 p.y] 38)).alloc (.cells #[] 38)).alloc (.cells #[.int .i8 p.x, .int .i8 (p.y - 1), .int .i8 (p.x - 1), .int .i8 p.y, .int .i8 (p.x + 1), .int .i8 p.y, .int .i8 p.x, .int .i8 (p.y + 1)] 38))
  have hO0 := Lib.hid ((Own.empty (α := Cell) (c := Cell.c) (sz := 2) (E := 38) (W.alloc (.cells #[.int .i8 p.x, .int .i8 p.y] 38)) (W.heap.size + 1) (W.heap.size + 1) (by simp) (by simp)).alloc (.cells #[.int .i8 p.x, .int .i8 (p.y - 1), .int .i8 (p.x - 1), .int .i8 p.y, .int .i8 (p.x + 1), .int .i8 p.y, .int .i8 p.x, .int .i8 (p.y + 1)] 38))
  have hS := Lib.hid (Bk.new ((W.alloc (.cells #[.int .i8 p.x, .int .i8 p.y] 38)).alloc (.cells #[] 38)) 38 #[.int .i8 p.x, .int .i8 (p.y - 1), .int .i8 (p.x - 1), .int .i8 p.y, .int .i8 (p.x + 1), .int .i8 p.y, .int .i8 p.x, .int .i8 (p.y + 1)] (W.heap.size + 1 + 1) (by simp))
  have m1 : IntKind.i8.wrap (p.y - 1) = p.y - 1 := wrap8In _ (by omega) (by omega)
  have m2 : IntKind.i8.wrap (p.x - 1) = p.x - 1 := wrap8In _ (by omega) (by omega)
  have m3 : IntKind.i8.wrap (p.x + 1) = p.x + 1 := wrap8In _ (by omega) (by omega)
  have m4 : IntKind.i8.wrap (p.y + 1) = p.y + 1 := wrap8In _ (by omega) (by omega)
  have hfo := Lib.hid (four_ok x0 x1 y0 y1)
  have h4 := Lib.hid (show (four p).length = 4 from rfl)
  have K_lt := Lib.hid hg.lt
  have HG0 := Lib.hid hg
  clear hB1 hg
  unfold Cell.v at *
  go_enter Try.func71, Try.ntmps71
  go_wp2_with fail
  generalize ((W.alloc (.cells #[.int .i8 p.x, .int .i8 p.y] 38)).alloc (.cells #[] 38)).alloc (.cells #[.int .i8 p.x, .int .i8 (p.y - 1), .int .i8 (p.x - 1), .int .i8 p.y, .int .i8 (p.x + 1), .int .i8 p.y, .int .i8 p.x, .int .i8 (p.y + 1)] 38) = W1 at *
  go_loopw [5, 7] (fun o c wr => ∃ k : Nat, k ≤ 4 ∧ c = .int .i64 (k : Int) ∧ Own wr (W.heap.size + 1) 38 Cell.c 2 o (((four p).take k).filter (gpB w h)) ∧ (∀ j, o.ownBlock = some j → j ≠ W.heap.size + 1 + 1) ∧ Bk wr (W.heap.size + 1 + 1) 38 #[.int .i8 p.x, .int .i8 (p.y - 1), .int .i8 (p.x - 1), .int .i8 p.y, .int .i8 (p.x + 1), .int .i8 p.y, .int .i8 p.x, .int .i8 (p.y + 1)] ∧ Bk wr g T (gdA w h hs z) ∧ Below W.heap.size W wr) (fun _ c _ => 4 - (intOf c).toNat)
  case atStart => exact ⟨0, by omega, rfl, by simpa using hO0.out, fun j hj => by simp [Value.ownBlock] at hj; omega, hS.out, K.out, HB.out⟩
  case round =>
    obtain ⟨k, hk, rfl, hO, hne, hL, hK, hb⟩ := hrel
    have HO := Lib.hid hO
    have HN := Lib.hid hne
    have HL := Lib.hid hL
    have HK := Lib.hid hK
    have HBr := Lib.hid hb
    clear hO hne hL hK hb
    by_cases hlt : k < 4
    · obtain ⟨A2, cap2, hv, -, -, hcell⟩ := (bk_row Cell.c_len (four p) HL.out rfl (by simp [four])).cell
      obtain ⟨b2, o2, he, -, c0, c1⟩ := hcell k hlt
      obtain ⟨rfl, rfl⟩ : b2 = W.heap.size + 1 + 1 ∧ o2 = 0 := by
        injection hv with e1
        rw [he] at e1
        injection e1 with e1
        injection e1 with e1 e2
        exact ⟨e1.symm, e2.symm⟩
      rw [Nat.zero_add] at c0 c1
      have hqok := hfo.out (four p)[k] (List.getElem_mem hlt)
      have hst := Lib.hid (filt_take_succ (gpB w h) (four p) k hlt)
      have hle := Lib.hid (show (((four p).take k).filter (gpB w h)).length ≤ 4 from Nat.le_trans (List.length_filter_le _ _) (by rw [List.length_take]; exact Nat.min_le_right _ _))
      have hd4 : decide ((k : Int) < 4) = true := by rw [decide_eq_true_eq]; omega
      have hk0 : (0 : Int) ≤ (k : Int) := by omega
      have hk1 : (k : Int) < 4 := by omega
      clear hcell he hv
      generalize (four p)[k] = q at *
      generalize ((four p).take k).filter (gpB w h) = out at *
      have qp := Lib.hid (show Calls Try.prog 33 #[.pointer (some ⟨g, 0, none⟩), .agg #[.int .i8 q.x, .int .i8 q.y]] wr _ from sIsP_calls g T w h w0 w1 h0 h1 hs z q hqok wr HK.out)
      cases hp : gpB w h q
      · rw [hp] at qp hst
        have hs2 := Lib.hid (hst.out.trans (if_neg (by decide)))
        clear hp hst
        go_wp2_with fail
        refine qp.out.mono ?_
        rintro e w4 ⟨rfl, hb4⟩
        have HB4 := Lib.hid hb4
        clear hb4 c0 c1
        go_wp2_with fail
        go_roundw
        case rel => exact ⟨k + 1, by omega, by go_num, by rw [hs2.out]; exact HO.out.ext HB4.out, HN.out, HL.out.ext HB4.out, HK.out.ext HB4.out, ext_trans HBr.out HB4.out⟩
        case measure => first | (simp [intOf]; done) | (simp [intOf]; omega)
      · rw [hp] at qp hst
        have hs2 := Lib.hid (hst.out.trans (if_pos rfl))
        clear hp hst
        go_wp2_with fail
        refine qp.out.mono ?_
        rintro e w4 ⟨rfl, hb4⟩
        have HO4 := Lib.hid (HO.out.ext hb4)
        have HL4 := Lib.hid (HL.out.ext hb4)
        have HK4 := Lib.hid (HK.out.ext hb4)
        have HB4 := Lib.hid (ext_trans HBr.out hb4)
        have d0 := (hb4.cell (p := ⟨W.heap.size + 1 + 1, _, none⟩) HL.out.lt).trans c0
        have d1 := (hb4.cell (p := ⟨W.heap.size + 1 + 1, _, none⟩) HL.out.lt).trans c1
        clear hb4 c0 c1
        have HBa := Lib.hid (HB4.out.alloc HB4.out.size (.cells #[.int .i8 q.x, .int .i8 q.y] 38))
        have HLa := Lib.hid (HL4.out.alloc (.cells #[.int .i8 q.x, .int .i8 q.y] 38))
        have HKa := Lib.hid (HK4.out.alloc (.cells #[.int .i8 q.x, .int .i8 q.y] 38))
        go_wp2_with (at_builtin; refine push_cellat rfl _ _ rfl (W.heap.size + 1) out _ rfl (HO4.out.alloc _) _ q rfl (Bk.new _ _ _ _ (by simp)) (by have := hle.out; omega) (by have := HL4.out.lt; simp; omega) ?_)
        intro v6 w6 hO6 hG6 hat
        have HB6 := Lib.hid (HBa.out.grown hG6 HBa.out.size (fun j hj => by have := HO4.out.base j hj; omega))
        have HL6 := Lib.hid (show Bk w6 (W.heap.size + 1 + 1) _ _ from (hG6.block _ HLa.out.lt (fun e => HN.out _ e.symm rfl)).trans HLa.out)
        have HK6 := Lib.hid (show Bk w6 g T _ from (HB6.out.block g K_lt.out).trans HG0.out)
        have HN6 := Lib.hid (show ∀ j, v6.ownBlock = some j → j ≠ W.heap.size + 1 + 1 from fun j hj => by
          rcases hat with he | he
          · exact HN.out j (he ▸ hj)
          · rw [he] at hj
            injection hj with hj
            have := HL4.out.lt
            try simp at hj
            omega)
        rw [← hs2.out] at hO6
        have HO6 := Lib.hid hO6
        clear hO6 hG6 hat d0 d1
        go_wp2_with fail
        go_roundw
        case rel => exact ⟨k + 1, by omega, by go_num, HO6.out, HN6.out, HL6.out, HK6.out, HB6.out⟩
        case measure => first | (simp [intOf]; done) | (simp [intOf]; omega)
    · obtain rfl : k = 4 := by omega
      simp only [show ((4 : Nat) : Int) = 4 from rfl]
      have hd4 : decide ((4 : Int) < 4) = false := by decide
      have hE := Lib.hid (show ((four p).take 4).filter (gpB w h) = aroundL w h p from rfl)
      rw [hE.out] at HO
      go_wp2_with fail
      go_ret
      exact ⟨_, rfl, HO.out.more (by omega), HBr.out⟩
set_option maxHeartbeats 1000000 in
theorem sgully_calls (g : Nat) (T : TypeId) (w h : Int) (hs : List Int) (hl : hs.length = 81) (gl : List Cell) (z : Value) (p : Cell) (W : World) (hg : Bk W g T (gdA w h hs z)) (hz : Sl W W.heap.size Cell.c 2 z gl) :
    Calls Try.prog 58 #[.pointer (some ⟨g, 0, none⟩), p.v] W fun e w' => e = .returned (.int .i64 (findI (fun y => y == p) gl)) ∧ Below W.heap.size W w' := by
  obtain ⟨A, cap, rfl, hcap, hcap2, hcell⟩ := hz.cell
  have HB := Lib.hid ((Below.refl W.heap.size W).alloc (Nat.le_refl _) (.cells #[.int .i8 p.x, .int .i8 p.y] 38))
  have KP := Lib.hid (Bk.new W 38 #[.int .i8 p.x, .int .i8 p.y] W.heap.size rfl)
  have KG := Lib.hid (hg.alloc (.cells #[.int .i8 p.x, .int .i8 p.y] 38))
  clear hz hg
  unfold Cell.v
  go_enter Try.func58, Try.ntmps58
  go_wp2_with fail
  generalize W.alloc (.cells #[.int .i8 p.x, .int .i8 p.y] 38) = W1 at *
  go_loopw [5] (fun i wr => ∃ k : Nat, k ≤ gl.length ∧ i = .int .i64 k ∧ (gl.take k).all (fun y => !(y == p)) = true ∧ Below W1.heap.size W1 wr) (fun i _ => gl.length - (intOf i).toNat)
  case atStart => exact ⟨0, by omega, rfl, rfl, Below.refl _ _⟩
  case round =>
    obtain ⟨k, hk, rfl, hall, hb⟩ := hrel
    have HA := Lib.hid hall
    have HBo := Lib.hid (HB.out.trans (hb.mono HB.out.size))
    have H1 := Lib.hid hb
    have k0 := (KP.out.ext hb).cell 0 _ rfl
    have k1 := (KP.out.ext hb).cell 1 _ rfl
    have k83 := (KG.out.ext hb).cell 83 _ (gdA_z _ _ _ _ hl)
    clear hall
    by_cases hlt : k < gl.length
    · obtain ⟨b, o, rfl, hbb, h0, h1⟩ := hcell k hlt
      have h0 := (HBo.out.cell (p := ⟨b, _, none⟩) hbb).trans h0
      have h1 := (HBo.out.cell (p := ⟨b, _, none⟩) hbb).trans h1
      have hk8 : (0 : Int) ≤ (k : Int) := by omega
      have hk9 : (k : Int) < (gl.length : Int) := by omega
      have hkd : decide ((k : Int) < (gl.length : Int)) = true := by rw [decide_eq_true_eq]; omega
      have wk : wrap64 ((k : Int) + 1) = (k : Int) + 1 := wr64 (by omega) (by omega)
      clear hcell hb
      by_cases e1 : gl[k].x = p.x
      · by_cases e2 : gl[k].y = p.y
        · have hE := Lib.hid (findI_at (fun y => y == p) gl k hlt HA.out (by
            have : gl[k] = p := by cases hx : gl[k]; cases p; simp_all
            simp [this]))
          have q1 : (gl[k].x == p.x) = true := by simp [e1]
          have q2 : (gl[k].y == p.y) = true := by simp [e2]
          clear e1 e2
          go_wp2_with fail
          go_quiet (fail)
          go_wp2_with fail
          go_ret
          exact ⟨ret_int hE.out.symm, ext_drewN HBo.out _⟩
        · have hE := Lib.hid (take_all_succ _ gl k hlt HA.out (by
            have : ¬ gl[k] = p := by intro h; exact e2 (by rw [h])
            simp [this]))
          have q1 : (gl[k].x == p.x) = true := by simp [e1]
          have q2 : (gl[k].y == p.y) = false := by simp [e2]
          clear e1 e2
          go_wp2_with fail
          go_quiet (fail)
          go_wp2_with fail
          go_roundw
          case rel => exact ⟨k + 1, by omega, by go_num, hE.out, ext_drewN H1.out _⟩
          case measure => first | (simp [intOf]; done) | (simp [intOf]; omega)
      · have hE := Lib.hid (take_all_succ _ gl k hlt HA.out (by
          have : ¬ gl[k] = p := by intro h; exact e1 (by rw [h])
          simp [this]))
        have q1 : (gl[k].x == p.x) = false := by simp [e1]
        clear e1
        go_wp2_with fail
        go_quiet (fail)
        go_wp2_with fail
        go_roundw
        case rel => exact ⟨k + 1, by omega, by go_num, hE.out, ext_drewN H1.out _⟩
        case measure => first | (simp [intOf]; done) | (simp [intOf]; omega)
    · obtain rfl : k = gl.length := by omega
      have hkd : decide ((gl.length : Int) < (gl.length : Int)) = false := by rw [decide_eq_false_iff_not]; omega
      have hE := Lib.hid (findI_none _ gl (all_of_take _ gl gl.length rfl HA.out))
      go_wp2_with fail
      go_ret
      exact ⟨ret_int hE.out.symm, HBo.out⟩
end Go.Proofs.Ytipcmakidifelaa
