/-
Texts cut at a byte, by the reference. Conditions: the text is not overlong.
-/
import Derived.Test.YthlcmiediedcfaaDoorTX6
import Derived.Test.YthlcmiediedcfaaDoorTX2
set_option linter.unusedVariables false
set_option linter.unusedSimpArgs false
set_option maxRecDepth 100000
namespace Go.Proofs.YthlcmiediedcfaaDoor
open Go.RowKit
theorem run_sstr (l : List UInt8) (i j : Nat) (q : List UInt8) (h : (l.drop i).take (j - i) = q) (h1 : i ≤ j) (h2 : j ≤ l.length) (w : World) : (Instr.slice 9 (.string ⟨l.toArray⟩) (some (.int .i64 (i : Int))) (some (.int .i64 (j : Int))) none).run Tryd.prog w = .ok (.string ⟨q.toArray⟩) w := by
  have hs : (⟨l.toArray⟩ : ByteArray).size = l.length := by simp [ByteArray.size]
  rw [run_slice_string (P := Tryd.prog) w 9 ⟨l.toArray⟩ .i64 .i64 (i : Int) (j : Int) (by kernel_rfl) (by omega) (by omega) (by rw [hs]; omega), ByteArray.extract_mk, Int.toNat_natCast, Int.toNat_natCast, h]
theorem run_sstr_l (l : List UInt8) (i : Nat) (q : List UInt8) (h : l.drop i = q) (h1 : i ≤ l.length) (w : World) : (Instr.slice 9 (.string ⟨l.toArray⟩) (some (.int .i64 (i : Int))) none none).run Tryd.prog w = .ok (.string ⟨q.toArray⟩) w := by
  have hs : (⟨l.toArray⟩ : ByteArray).size = l.length := by simp [ByteArray.size]
  rw [run_slice_string_from_if (P := Tryd.prog) w 9 ⟨l.toArray⟩ .i64 (i : Int) (by kernel_rfl), if_pos ⟨by omega, by rw [hs]; omega⟩, ByteArray.extract_mk, Int.toNat_natCast, hs, List.take_of_length_le (by simp), h]
structure SpAt (c : UInt8) (l : List UInt8) (p k : Nat) (ys : List (List UInt8)) : Prop where
  le : p ≤ k
  all : ys ++ splitL c (l.drop p) = splitL c l
  no : c ∉ (l.drop p).take (k - p)
  len : ys.length ≤ k
theorem SpAt.start (c : UInt8) (l : List UInt8) : SpAt c l 0 0 [] := ⟨Nat.le_refl _, rfl, by simp, by simp⟩
theorem drop_cut (l : List UInt8) (p k : Nat) (b : UInt8) (h : l[k]? = some b) (hp : p ≤ k) : l.drop p = (l.drop p).take (k - p) ++ b :: l.drop (k + 1) := by
  have h1 : (l.drop p).drop (k - p) = b :: l.drop (k + 1) := by
    rw [List.drop_drop, show p + (k - p) = k by omega]
    have hk : k < l.length := by
      rcases Nat.lt_or_ge k l.length with h' | h'
      · exact h'
      · rw [List.getElem?_eq_none h'] at h; cases h
    rw [List.drop_eq_getElem_cons hk]
    rw [List.getElem?_eq_getElem hk] at h
    rw [Option.some.inj h]
  rw [← h1, List.take_append_drop]
theorem SpAt.hit {c : UInt8} {l : List UInt8} {p k : Nat} {ys : List (List UInt8)} (h : SpAt c l p k ys) (hk : l[k]? = some c) : SpAt c l (k + 1) (k + 1) (ys ++ [(l.drop p).take (k - p)]) := by
  refine ⟨Nat.le_refl _, ?_, by simp, by have := h.len; simp; omega⟩
  have e := drop_cut l p k c hk h.le
  have h2 : splitL c (l.drop p) = (l.drop p).take (k - p) :: splitL c (l.drop (k + 1)) := by
    conv => lhs; rw [e]
    exact splitL_hit c _ _ h.no
  rw [← h.all, h2, List.append_assoc, List.singleton_append]
theorem SpAt.miss {c : UInt8} {l : List UInt8} {p k : Nat} {ys : List (List UInt8)} (h : SpAt c l p k ys) {b : UInt8} (hk : l[k]? = some b) (hb : b ≠ c) : SpAt c l p (k + 1) ys := by
  have hp := h.le
  refine ⟨by omega, h.all, ?_, by have := h.len; omega⟩
  rw [show k + 1 - p = (k - p) + 1 by omega, List.take_add_one, List.getElem?_drop, show p + (k - p) = k by omega, hk]
  intro hm
  rcases List.mem_append.1 hm with hm | hm
  · exact h.no hm
  · exact hb (List.mem_singleton.1 hm).symm
theorem SpAt.done {c : UInt8} {l : List UInt8} {p k : Nat} {ys : List (List UInt8)} (h : SpAt c l p k ys) (hk : l.length ≤ k) : ys ++ [l.drop p] = splitL c l := by
  have hn := h.no
  rw [List.take_of_length_le (by rw [List.length_drop]; omega)] at hn
  rw [← h.all, splitL_no c _ hn]
set_option maxHeartbeats 1000000 in
theorem l01Split_calls (l : List UInt8) (c : UInt8) (hl : l.length ≤ 2000000) (W : World) : Calls Tryd.prog 64 #[.string ⟨l.toArray⟩, .int .u8 (c.toNat : Int)] W fun e w' => ∃ v, e = .returned v ∧ Own w' W.heap.size 9 strc 1 v (splitL c l) ∧ Below W.heap.size W w' := by
  have hsz : (⟨l.toArray⟩ : ByteArray).size = l.length := by simp [ByteArray.size]
  have hget := Lib.hid (show ∀ k, k < l.length → ∃ b, l[k]? = some b from fun k hk => ⟨l[k], List.getElem?_eq_getElem hk⟩)
  have HL := Lib.hid hl
  have HO0 := Lib.hid (Own.empty (α := List UInt8) (c := strc) (sz := 1) (E := 9) W W.heap.size W.heap.size rfl (Nat.le_refl _))
  have HB0 := Lib.hid ((Below.refl W.heap.size W).alloc (Nat.le_refl _) (.cells #[] 9))
  go_enter Tryd.func64, Tryd.ntmps64
  go_wp2_with fail
  go_loopw [5, 6, 7] (fun v b i wr => ∃ (p k : Nat) (ys : List (List UInt8)), k ≤ l.length ∧ i = .int .i64 (k : Int) ∧ b = .int .i64 (p : Int) ∧ SpAt c l p k ys ∧ Own wr W.heap.size 9 strc 1 v ys ∧ Below W.heap.size W wr) (fun _ _ i _ => l.length - (intOf i).toNat)
  case atStart => exact ⟨0, 0, [], by omega, rfl, rfl, SpAt.start c l, HO0.out, HB0.out⟩
  case round =>
    clear HO0 HB0
    obtain ⟨p, k, ys, hk, rfl, rfl, hsp, hO, hb⟩ := hrel
    have HS := Lib.hid hsp
    have HO := Lib.hid hO
    have HB := Lib.hid hb
    have hp := hsp.le
    have hy := hsp.len
    clear hsp hO hb
    by_cases hlt : k < l.length
    · obtain ⟨b, hb⟩ := hget.out k hlt
      have hib := run_sidx l k b hb
      by_cases hc : b = c
      · subst hc
        have hH := Lib.hid (HS.out.hit hb)
        obtain ⟨q, hq⟩ : ∃ q, (l.drop p).take (k - p) = q := ⟨_, rfl⟩
        have hsl := run_sstr l p k q hq hp hk
        rw [hq] at hH
        clear hb hq
        have HBa := Lib.hid (HB.out.alloc HB.out.size (.cells #[.string ⟨q.toArray⟩] 9))
        go_wp2_with (at_builtin; refine push_app appStr rfl _ _ rfl W.heap.size ys [q] _ _ rfl rfl (HO.out.alloc _) (bk_str1 (Bk.new _ _ _ _ rfl)) (by have := HL.out; simp; omega) (by have := HL.out; simp; omega) HBa.out.size ?_)
        intro v9 w9 hO9 hG9 hat
        have hb9 := Lib.hid (HBa.out.grown hG9 HBa.out.size (fun j hj => HO.out.base j hj))
        have hO9 := Lib.hid hO9
        clear hG9 hat
        go_wp2_with fail
        go_roundw
        case rel => exact ⟨k + 1, k + 1, _, by omega, by go_num, by go_num, hH.out, hO9.out, hb9.out⟩
        case measure => first | (simp [intOf]; done) | (simp [intOf]; omega)
      · have hM := Lib.hid (HS.out.miss hb hc)
        have hn : ¬ b.toNat = c.toNat := fun e => hc (UInt8.toNat_inj.1 e)
        have e1 : ((b.toNat : Int) == (c.toNat : Int)) = false := by rw [beq_eq_false_iff_ne]; omega
        have e2 : decide ((b.toNat : Int) = (c.toNat : Int)) = false := by rw [decide_eq_false_iff_not]; omega
        clear hb hc
        generalize b.toNat = m0 at *
        generalize hcm : c.toNat = m1 at *
        go_wp2_with fail
        go_roundw
        case rel => exact ⟨p, k + 1, ys, by omega, by go_num, rfl, hM.out, HO.out, HB.out⟩
        case measure => first | (simp [intOf]; done) | (simp [intOf]; omega)
    · have hD := Lib.hid (HS.out.done (by omega))
      obtain ⟨q, hq⟩ : ∃ q, l.drop p = q := ⟨_, rfl⟩
      have hsl := run_sstr_l l p q hq (by omega)
      rw [hq] at hD
      clear hq
      have HBa := Lib.hid (HB.out.alloc HB.out.size (.cells #[.string ⟨q.toArray⟩] 9))
      go_wp2_with (at_builtin; refine push_app appStr rfl _ _ rfl W.heap.size ys [q] _ _ rfl rfl (HO.out.alloc _) (bk_str1 (Bk.new _ _ _ _ rfl)) (by have := HL.out; simp; omega) (by have := HL.out; simp; omega) HBa.out.size ?_)
      intro v9 w9 hO9 hG9 hat
      have hb9 := Lib.hid (HBa.out.grown hG9 HBa.out.size (fun j hj => HO.out.base j hj))
      rw [hD.out] at hO9
      have hO9 := Lib.hid hO9
      clear hG9 hat
      go_wp2_with fail
      go_ret
      exact ⟨_, rfl, hO9.out, hb9.out⟩
end Go.Proofs.YthlcmiediedcfaaDoor
