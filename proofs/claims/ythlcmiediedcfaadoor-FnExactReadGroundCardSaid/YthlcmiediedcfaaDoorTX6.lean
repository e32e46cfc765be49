/-
Numbers read from texts, by the reference. Conditions: none.
-/
import Derived.Test.YthlcmiediedcfaaDoorTX1
import Derived.Test.YthlcmiediedcfaaDoorRDS
set_option linter.unusedVariables false
set_option linter.unusedSimpArgs false
set_option maxRecDepth 100000
namespace Go.Proofs.YthlcmiediedcfaaDoor
open Go.RowKit
theorem run_sidx (l : List UInt8) (i : Nat) (b : UInt8) (h : l[i]? = some b) (w : World) : (Instr.index 9 (.string ⟨l.toArray⟩) (.int .i64 (i : Int))).run Tryd.prog w = .ok (.int .u8 (b.toNat : Int)) w := by
  have hlt : i < l.length := by
    rcases Nat.lt_or_ge i l.length with h' | h'
    · exact h'
    · rw [List.getElem?_eq_none h'] at h
      cases h
  have hs : (⟨l.toArray⟩ : ByteArray).size = l.length := by simp [ByteArray.size]
  rw [run_index_string (P := Tryd.prog) w 9 ⟨l.toArray⟩ .i64 (i : Int) (by kernel_rfl), dif_pos ⟨by omega, by rw [hs]; omega⟩]
  have e : (⟨l.toArray⟩ : ByteArray)[(i : Int).toNat]'(by rw [hs]; omega) = b := by
    rw [List.getElem?_eq_getElem hlt] at h
    exact Option.some.inj h
  rw [e]
theorem str_ne {l : List UInt8} (h : l ≠ []) : ((⟨l.toArray⟩ : ByteArray).toList == (⟨#[]⟩ : ByteArray).toList) = false := by
  rw [ByteArray.toList_eq, ByteArray.toList_eq]
  simpa using h
theorem valL_take (l : List UInt8) (k : Nat) (b : UInt8) (h : l[k]? = some b) : valL (l.take (k + 1)) = valL (l.take k) * 10 + (b.toNat - 48) := by
  rw [List.take_add_one, h, Option.toList_some, valL_snoc]
theorem all_take (l : List UInt8) (k : Nat) (b : UInt8) (h : l[k]? = some b) (h0 : (l.take k).all digB = true) (hb : digB b = true) : (l.take (k + 1)).all digB = true := by
  rw [List.take_add_one, h, List.all_append, h0]
  simpa using hb
theorem valF_lt (l : List UInt8) : (∀ b ∈ l, digB b = true) → valL l < 10 ^ l.length := by
  refine snoc_ind (p := fun l => (∀ b ∈ l, digB b = true) → valL l < 10 ^ l.length) (fun _ => by simp [valL, valF]) (fun l b ih h => ?_) l
  have := ih (fun x hx => h x (by simp [hx]))
  have hb := digB_true.1 (h b (by simp))
  rw [valL_snoc, List.length_append, List.length_singleton, Nat.pow_succ]
  omega
theorem l01Number_calls (l : List UInt8) (W : World) : Calls Tryd.prog 65 #[.string ⟨l.toArray⟩] W fun e w' => e = .returned (.tuple #[.int .i64 (numS l).1, .bool (numS l).2]) ∧ w' = W := by
  have hsz : (⟨l.toArray⟩ : ByteArray).size = l.length := by simp [ByteArray.size]
  by_cases h0 : l = []
  · subst h0
    go_enter Tryd.func65, Tryd.ntmps65
    go_wp2_with fail
    go_ret2
    exact ⟨rfl, rfl⟩
  obtain ⟨b0, h00⟩ : ∃ b0, l[0]? = some b0 := by
    cases l with
    | nil => exact absurd rfl h0
    | cons b r => exact ⟨b, rfl⟩
  have hhead : l.head? = some b0 := by rw [List.head?_eq_getElem?]; exact h00
  have hne := str_ne h0
  have hi0 : ∀ w, (Instr.index 9 (.string ⟨l.toArray⟩) (.int .i64 0)).run Tryd.prog w = .ok (.int .u8 (b0.toNat : Int)) w := run_sidx l 0 b0 h00
  have hemp : l.isEmpty = false := by simpa using h0
  by_cases h10 : 10 < l.length
  · have hv : numS l = (0, false) := by unfold numS; rw [if_neg (fun h => by omega)]
    rw [hv]
    have hd10 : decide (10 < (l.length : Int)) = true := by rw [decide_eq_true_eq]; omega
    clear h00 hhead hv h0
    go_enter Tryd.func65, Tryd.ntmps65
    go_wp2_with fail
    go_ret2
    exact ⟨rfl, rfl⟩
  by_cases hz : b0 = 48 ∧ 1 < l.length
  · have hv : numS l = (0, false) := by
      unfold numS
      rw [if_neg (fun h => by
        rcases h.1.2.2 with h1 | h1
        · omega
        · exact h1 (by rw [hhead, hz.1]))]
    rw [hv]
    obtain ⟨rfl, hz2⟩ := hz
    have hd10 : decide (10 < (l.length : Int)) = false := by rw [decide_eq_false_iff_not]; omega
    have hd1 : decide (1 < (l.length : Int)) = true := by rw [decide_eq_true_eq]; omega
    clear h00 hhead hv h0 h10 hz2
    go_enter Tryd.func65, Tryd.ntmps65
    go_wp2_with fail
    go_ret2
    exact ⟨rfl, rfl⟩
  have hlead : l.length = 1 ∨ l.head? ≠ some 48 := by
    rcases Nat.lt_or_ge 1 l.length with h1 | h1
    · exact .inr (fun h => hz ⟨by rw [hhead] at h; exact Option.some.inj h, h1⟩)
    · left
      have : l.length ≠ 0 := fun h => h0 (List.eq_nil_of_length_eq_zero h)
      omega
  obtain ⟨R, hR⟩ : ∃ R, R = numS l := ⟨_, rfl⟩
  have hno := Lib.hid (show ∀ (k : Nat) (b : UInt8), l[k]? = some b → digB b = false → R = (0, false) from fun k b h1 h2 => by
    rw [hR]
    unfold numS
    rw [if_neg (fun h => by
      have := List.all_eq_true.1 h.2 b (List.mem_of_getElem? h1)
      rw [h2] at this
      cases this)])
  have hyes := Lib.hid (show l.all digB = true → R = ((valL l : Int), true) from fun h => by
    rw [hR]
    unfold numS
    rw [if_pos ⟨⟨h0, by omega, hlead⟩, h⟩])
  have hval := Lib.hid (show ∀ k, (l.take k).all digB = true → valL (l.take k) < 10000000000 from fun k h => by
    have h1 := valF_lt (l.take k) (List.all_eq_true.1 h)
    have h2 : 10 ^ (l.take k).length ≤ 10 ^ 10 := Nat.pow_le_pow_right (by omega) (by rw [List.length_take]; omega)
    omega)
  rw [← hR]
  have hget := Lib.hid (show ∀ k, k < l.length → ∃ b, l[k]? = some b from fun k hk => ⟨l[k], List.getElem?_eq_getElem hk⟩)
  have hd10 : decide (10 < (l.length : Int)) = false := by rw [decide_eq_false_iff_not]; omega
  have hl10 : l.length ≤ 10 := by omega
  have hL10 := Lib.hid hl10
  have hq : (b0 = 48 ∧ decide (1 < (l.length : Int)) = false) ∨ decide ((b0.toNat : Int) = 48) = false := by
    by_cases h48 : b0 = 48
    · exact .inl ⟨h48, by rw [decide_eq_false_iff_not]; intro h; exact hz ⟨h48, by omega⟩⟩
    · refine .inr ?_
      rw [decide_eq_false_iff_not]
      intro h
      exact h48 (UInt8.toNat_inj.1 (by have : (48 : UInt8).toNat = 48 := rfl; omega))
  clear h00 hhead h0 h10 hz hlead hR hl10
  have hq : (b0.toNat = 48 ∧ decide (1 < (l.length : Int)) = false) ∨ ¬ b0.toNat = 48 := by
    rcases hq with ⟨h1, h2⟩ | h1
    · exact .inl ⟨by rw [h1]; rfl, h2⟩
    · exact .inr (by rw [decide_eq_false_iff_not] at h1; omega)
  generalize b0.toNat = m0 at *
  have hq : (m0 = 48 ∧ decide (1 < (l.length : Int)) = false) ∨ (decide ((m0 : Int) = 48) = false ∧ ((m0 : Int) == 48) = false) := by
    rcases hq with h1 | h1
    · exact .inl h1
    · exact .inr ⟨by rw [decide_eq_false_iff_not]; omega, by rw [beq_eq_false_iff_ne]; omega⟩
  rcases hq with ⟨rfl, hd1⟩ | ⟨hd1, hd2⟩
  all_goals
    go_enter Tryd.func65, Tryd.ntmps65
    go_wp2_with fail
    clear hi0 hd1 hemp hne hd10
    try clear hd2
    go_loop [4, 5] (fun a c => ∃ k : Nat, k ≤ l.length ∧ c = .int .i64 (k : Int) ∧ a = .int .i64 (valL (l.take k) : Int) ∧ (l.take k).all digB = true) (fun a c => l.length - (intOf c).toNat)
    case atStart => exact ⟨0, by omega, rfl, rfl, rfl⟩
    case round =>
      obtain ⟨k, hk, rfl, rfl, hall⟩ := hrel
      have HA := Lib.hid hall
      clear hall
      by_cases hlt : k < l.length
      · obtain ⟨b, hb⟩ := hget.out k hlt
        have hib := run_sidx l k b hb
        have hv1 := hval.out k HA.out
        have hN := Lib.hid (hno.out k b hb)
        have hT := Lib.hid (valL_take l k b hb)
        have hAl := Lib.hid (fun h => all_take l k b hb HA.out h)
        have hV2 := Lib.hid (fun h => hval.out (k + 1) (all_take l k b hb HA.out h))
        have hL := hL10.out
        generalize hbn : b.toNat = n at *
        clear hb
        by_cases h1 : n < 48
        · have g1 : decide ((n : Int) < 48) = true := by rw [decide_eq_true_eq]; omega
          have hE := Lib.hid (hN.out (by unfold digB; rw [hbn]; simp; omega))
          go_wp2_with fail
          go_ret2
          exact ⟨by rw [hE.out]; rfl, rfl⟩
        by_cases h2 : 57 < n
        · have g1 : decide ((n : Int) < 48) = false := by rw [decide_eq_false_iff_not]; omega
          have g2 : decide (57 < (n : Int)) = true := by rw [decide_eq_true_eq]; omega
          have hE := Lib.hid (hN.out (by unfold digB; rw [hbn]; simp; omega))
          go_wp2_with fail
          go_ret2
          exact ⟨by rw [hE.out]; rfl, rfl⟩
        have hd : digB b = true := by unfold digB; rw [hbn]; simp; omega
        have hT' := Lib.hid hT.out
        have hA' := Lib.hid (hAl.out hd)
        have hV' := hV2.out hd
        rw [hT.out] at hV'
        clear hd hV2 hAl hT hN
        generalize valL (l.take k) = a at *
        have g1 : decide ((n : Int) < 48) = false := by rw [decide_eq_false_iff_not]; omega
        have g2 : decide (57 < (n : Int)) = false := by rw [decide_eq_false_iff_not]; omega
        go_wp2_with fail
        go_round
        case rel => exact ⟨k + 1, by omega, by go_num, by rw [hT'.out]; go_num, hA'.out⟩
        case measure => first | (simp [intOf]; done) | (simp [intOf]; omega)
      · have hE := Lib.hid (hyes.out (by rw [← HA.out, List.take_of_length_le (by omega)]))
        rw [List.take_of_length_le (show l.length ≤ k by omega)] at *
        generalize valL l = a at *
        go_wp2_with fail
        go_ret2
        exact ⟨by rw [hE.out]; rfl, rfl⟩
end Go.Proofs.YthlcmiediedcfaaDoor
